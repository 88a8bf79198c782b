/- Several texts in one. (1) The reference: DifferOf of two values with members, given it one level down. Conditions: values that fit, at most 400000 changes. (2) The reference: DifferOf; DifferFault. Conditions: values that fit, at most 400000 changes. -/
import Derived.Test.YtjfgfkbgbhbhjaaGreatDoorDRef0Grp
import Derived.Test.YtjfgfkbgbhbhjaaGreatDoorConcat
import Derived.Test.YtjfgfkbgbhbhjaaGreatDoorStrEGrp
import Derived.Test.YtjfgfkbgbhbhjaaGreatDoorVEqGrp
import Derived.Test.YtjfgfkbgbhbhjaaGreatDoorChgRunGrp
import Derived.Test.YtjfgfkbgbhbhjaaGreatDoorDContGrp

namespace Go.Proofs.YtjfgfkbgbhbhjaaGreatDoor
open Go.RowKit
set_option linter.unusedVariables false
set_option linter.unusedSimpArgs false

theorem get_one (d : Nat) (x : VA) (v : VT) (nm : ByteArray) (gb : Nat) (w : World) (ht : Tree w (fun _ => True) (d + 1) x v) (hw : Wide 100000 (d + 1) v) (hb : Blk w gb 76 #[.bool true, .string nm, .int .i64 0]) :
    Calls Tryz.prog 43 #[x.val, .slice (some ⟨gb, 0, none⟩) 1 1] w fun e w' => New w w' ∧ ∃ (y : VA) (q : Bool), e = .returned (.tuple #[y.val, .bool q]) ∧ (q = false → getR v ⟨true, nm, 0⟩ = none) ∧ (q = true → ∃ u, getR v ⟨true, nm, 0⟩ = some u ∧ Tree w' (fun _ => True) d y u) := by
  have hs : Sl w 76 3 St.enc (some ⟨gb, 0, none⟩) 1 [⟨true, nm, 0⟩] := Sl.of_blk hb rfl (fun i hi j hj => by
    obtain rfl : i = 0 := by simp at hi; omega
    obtain rfl | rfl | rfl : j = 0 ∨ j = 1 ∨ j = 2 := by omega
    all_goals rfl)
  have hp : getP v [⟨true, nm, 0⟩] = getR v ⟨true, nm, 0⟩ := by
    rw [getP]
    cases getR v ⟨true, nm, 0⟩ with
    | none => rfl
    | some u => rfl
  have hg := getAny_v (fun _ => True) (d + 1) x v (some ⟨gb, 0, none⟩) 1 1 _ w ht hs hw (fun s h => by
    obtain rfl := List.mem_singleton.1 h
    show (0 : Int) ≤ 0 ∧ (0 : Int) ≤ 5000
    omega) (by omega)
  refine hg.mono ?_
  intro e w' h
  rcases h with ⟨h1, rfl, h3⟩ | ⟨u, y, h1, rfl, h3, h4⟩
  · exact ⟨h3, nilVA, false, rfl, fun _ => by rw [← hp]; exact h1, fun h => by cases h⟩
  · exact ⟨h4, y, true, rfl, fun h => (by cases h), fun _ => ⟨u, (by rw [← hp]; exact h1), h3⟩⟩
set_option maxRecDepth 100000 in
set_option maxHeartbeats 700000 in
theorem rf_members (D d : Nat) (IH : RSpec D d) (x y : VA) (a b : VT) (A : Option Addr) (n c : Nat) (ps : List St) (w : World)
    (htx : Tree w (fun _ => True) (d + 1) x a) (hty : Tree w (fun _ => True) (d + 1) y b) (hga : Good (d + 1) a) (hgb : Good (d + 1) b) (hfa : Fit (d + 1) a) (hfb : Fit (d + 1) b) (hs : Sl w 76 3 St.enc A n ps) (hn : n + d ≤ 899) (hd : d + 1 ≤ D)
    (hL : (difF (d + 1) a b ps).length ≤ 400000) (h0 : vCmp (d + 1) a b ≠ 0) (hx5 : x.kind = 5) (hy5 : y.kind = 5) : Calls Tryz.prog 13 #[x.val, y.val, .slice A n c] w (RDfO w D (difF (d + 1) a b ps)) := by
  rw [difF_mem ps h0 (by rw [htx.fields.1]; exact hx5) (by rw [hty.fields.1]; exact hy5)] at hL ⊢
  obtain ⟨xl, xs, -, -, h1, h2⟩ := htx.als
  obtain ⟨yl, ys, -, -, h3, h4⟩ := hty.als
  obtain ⟨-, -, -, -, -, f6⟩ := htx.fields
  obtain ⟨-, -, -, -, -, g6⟩ := hty.fields
  have HDA := Lib.hid htx.deep
  have HDB := Lib.hid hty.deep
  have HSM := Lib.hid (fun W (h : New w W) => same_v (d + 1) x y a b _ W (htx.new h) (hty.new h) hfa hfb)
  have HKA := Lib.hid htx.fields.1
  have HKB := Lib.hid hty.fields.1
  have HTX := Lib.hid htx
  have HTY := Lib.hid hty
  have HGA := Lib.hid hga
  have HGB := Lib.hid hgb
  have HFA := Lib.hid hfa
  have HFB := Lib.hid hfb
  have HPS := Lib.hid hs
  have HL1 := Lib.hid h1
  have HL2 := Lib.hid h2
  have HL3 := Lib.hid h3
  have HL4 := Lib.hid h4
  have hp1 := hfa.parts.2.1
  have hp2 := hfb.parts.2.1
  obtain ⟨xk, xf, xn, xw, xla, xln, xlc, xma, xmn, xmc⟩ := x
  obtain ⟨yk, yf, yn, yw, yla, yln, ylc, yma, ymn, ymc⟩ := y
  simp only at f6 g6 HL1 HL3 hx5 hy5
  have HF6 := Lib.hid f6
  have HG6 := Lib.hid g6
  have hxmn : xmn ≤ 1000 := by omega
  have hymn : ymn ≤ 1000 := by omega
  have hx5b : (xk == 5) = true := by simpa using hx5
  have hy5b : (yk == 5) = true := by simpa using hy5
  clear htx hty hga hgb hfa hfb hs h1 h2 h3 h4 f6 g6 hp1 hp2 hx5 hy5
  obtain ⟨nq0, hnq0⟩ : ∃ l, a.mem.map (·.1) ++ b.mem.map (·.1) = l := ⟨_, rfl⟩
  have HNS : Hid (nms2 a b = risN nq0) := Lib.hid (by rw [← hnq0]; rfl)
  have HNL : Hid (nq0.length = xmn + ymn) := Lib.hid (by rw [← hnq0, List.length_append, List.length_map, List.length_map, HF6.out, HG6.out])
  have HNM : Hid (∀ i (h : i < (xs ++ ys).length) (h' : i < nq0.length), (xs ++ ys)[i].name = nq0[i]) := Lib.hid (fun i h h' => by
    subst hnq0
    have l1 := HL2.out.len
    have l2 := HL4.out.len
    by_cases hi : i < xs.length
    · rw [List.getElem_append_left hi, List.getElem_append_left (by rw [List.length_map]; omega), List.getElem_map]
      exact (HL2.out.get i hi (by omega)).1
    · simp only [List.length_append, List.length_map] at h h'
      rw [List.getElem_append_right (by omega), List.getElem_append_right (by rw [List.length_map]; omega), List.getElem_map]
      have hq := (HL4.out.get (i - xs.length) (by omega) (by omega)).1
      simp only [List.length_map, ← l1]
      exact hq)
  clear hnq0
  have hx := Blk.new w 29 #[.int .i64 xk, .bool xf, .int .i64 xn, .string xw, .slice xla xln xlc, .slice xma xmn xmc]
  have hm1 : New w (w.alloc (.cells #[.int .i64 xk, .bool xf, .int .i64 xn, .string xw, .slice xla xln xlc, .slice xma xmn xmc] 29)) := (Mod.refl _ _).alloc _
  have z1 : (w.alloc (.cells #[.int .i64 xk, .bool xf, .int .i64 xn, .string xw, .slice xla xln xlc, .slice xma xmn xmc] 29)).heap.size = w.heap.size + 1 := by simp
  go_enter Tryz.func13, Tryz.ntmps13
  go_upto_region 1 with (fail)
  generalize w.alloc (.cells #[.int .i64 xk, .bool xf, .int .i64 xn, .string xw, .slice xla xln xlc, .slice xma xmn xmc] 29) = w1 at *
  have hy := Blk.new w1 29 #[.int .i64 yk, .bool yf, .int .i64 yn, .string yw, .slice yla yln ylc, .slice yma ymn ymc]
  have hm2 : New w1 (w1.alloc (.cells #[.int .i64 yk, .bool yf, .int .i64 yn, .string yw, .slice yla yln ylc, .slice yma ymn ymc] 29)) := (Mod.refl _ _).alloc _
  have z2 : (w1.alloc (.cells #[.int .i64 yk, .bool yf, .int .i64 yn, .string yw, .slice yla yln ylc, .slice yma ymn ymc] 29)).heap.size = w.heap.size + 1 + 1 := by simp [z1]
  rw [z1] at hy
  generalize w1.alloc (.cells #[.int .i64 yk, .bool yf, .int .i64 yn, .string yw, .slice yla yln ylc, .slice yma ymn ymc] 29) = w2 at *
  have hz := Blk.new w2 63 #[.slice A n c]
  have hm3 : New w2 (w2.alloc (.cells #[.slice A n c] 63)) := (Mod.refl _ _).alloc _
  have z3 : (w2.alloc (.cells #[.slice A n c] 63)).heap.size = w.heap.size + 1 + 1 + 1 := by simp [z2]
  rw [z2] at hz
  generalize w2.alloc (.cells #[.slice A n c] 63) = w3 at *
  have HX := Lib.hid ((hx.mod hm2 (fun e => e)).mod hm3 (fun e => e))
  have HY := Lib.hid (hy.mod hm3 (fun e => e))
  have HPB := Lib.hid hz
  have HM := Lib.hid ((hm1.trans hm2).trans hm3)
  have HZ3 := Lib.hid z3
  clear hx hy hz hm1 hm2 hm3 z1 z2 z3
  generalize hxb : w.heap.size = xb at *
  generalize hyb : xb + 1 = yb at *
  generalize hpb : yb + 1 = pb at *
  have HXB : Hid (w.heap.size = xb ∧ xb < yb ∧ yb < pb ∧ w3.heap.size = pb + 1) := Lib.hid ⟨hxb, by omega, by omega, HZ3.out⟩
  clear hxb hyb hpb HZ3
  have hsm := HSM.out w3 HM.out
  rw [eqV_cmp HDA.out HDB.out] at hsm
  have hxx := HX.out
  have hyy := HY.out
  have e0 := hxx.cell 0
  have e1 := hxx.cell 1
  have e2 := hxx.cell 2
  have e3 := hxx.cell 3
  have e4 := hxx.cell 4
  have e5 := hxx.cell 5
  have el := hxx.lt
  have f0 := hyy.cell 0
  have f1 := hyy.cell 1
  have f2 := hyy.cell 2
  have f3 := hyy.cell 3
  have f4 := hyy.cell 4
  have f5 := hyy.cell 5
  have fl := hyy.lt
  simp only [List.getElem?_toArray, List.getElem?_cons_zero, List.getElem?_cons_succ] at e0 e1 e2 e3 e4 e5 f0 f1 f2 f3 f4 f5
  clear hxx hyy
  go_wp2_with fail
  clear e0 e1 e2 e3 e4 e5 el f0 f1 f2 f3 f4 f5 fl
  refine hsm.mono ?_
  clear hsm HSM
  rintro e w4 ⟨rfl, m4⟩
  have HI : Hid (RfI w xb yb pb #[.int .i64 xk, .bool xf, .int .i64 xn, .string xw, .slice xla xln xlc, .slice xma xmn xmc] #[.int .i64 yk, .bool yf, .int .i64 yn, .string yw, .slice yla yln ylc, .slice yma ymn ymc] (.slice A n c) (pb + 1) D [] none 0 0 w4) := Lib.hid ⟨HX.out.mod m4 (fun e => e), HY.out.mod m4 (fun e => e), HPB.out.mod m4 (fun e => e), ⟨[], Own.nil, trivial⟩, HM.out.trans m4, by have := HXB.out; have := m4.size; omega, by have := HXB.out; omega⟩
  clear HX HY HPB HM m4
  have h0b : decide (vCmp (d + 1) a b = 0) = false := by simpa using h0
  clear h0
  have m5 : New w4 (w4.alloc (.cells #[.slice xma xmn xmc, .slice yma ymn ymc] 27)) := (Mod.refl _ _).alloc _
  have b5 := Blk.new w4 27 #[.slice xma xmn xmc, .slice yma ymn ymc]
  have hcc := concat_ma xma yma xmn ymn xmc ymc w4.heap.size xs ys _ b5 (HL1.out.sl.new (HI.out.new.trans m5)) (HL3.out.sl.new (HI.out.new.trans m5)) (by omega) (by omega)
  have HI5 := Lib.hid (HI.out.more m5)
  clear b5 m5
  have hxx := (HI.out).bx
  have hyy := (HI.out).by_
  have e0 := hxx.cell 0
  have e1 := hxx.cell 1
  have e2 := hxx.cell 2
  have e3 := hxx.cell 3
  have e4 := hxx.cell 4
  have e5 := hxx.cell 5
  have el := hxx.lt
  have f0 := hyy.cell 0
  have f1 := hyy.cell 1
  have f2 := hyy.cell 2
  have f3 := hyy.cell 3
  have f4 := hyy.cell 4
  have f5 := hyy.cell 5
  have fl := hyy.lt
  simp only [List.getElem?_toArray, List.getElem?_cons_zero, List.getElem?_cons_succ] at e0 e1 e2 e3 e4 e5 f0 f1 f2 f3 f4 f5
  clear hxx hyy
  go_wp2_with fail
  clear e0 e1 e2 e3 e4 e5 el f0 f1 f2 f3 f4 f5 fl
  refine hcc.mono ?_
  clear hcc HI
  rintro e w5 ⟨A5, c5, rfl, own5, m5⟩
  have HI := Lib.hid (HI5.out.more m5)
  have HAC := Lib.hid own5.sl
  clear HI5 own5 m5
  generalize w4.alloc (.cells #[.slice xma xmn xmc, .slice yma ymn ymc] 27) = w4b at *
  go_wp2_with fail
  go_loopw [42, 9] (fun i s wr => ∃ (k : Nat) (Aq : Option Addr) (cq : Nat), k ≤ xmn + ymn ∧ i = .int .i64 k ∧ s = .slice Aq k cq ∧ Hid (Own wr w5.heap.size 9 1 sEnc Aq k cq (nq0.take k)) ∧ Hid (New w5 wr)) (fun i _ _ => xmn + ymn - (intOf i).toNat)
  case atStart => exact ⟨0, none, 0, Nat.zero_le _, rfl, rfl, Lib.hid (by rw [List.take_zero]; exact Own.nil), Lib.hid (Mod.refl _ _)⟩
  case round =>
    rename World => wr
    obtain ⟨k, Aq, cq, hk, rfl, rfl, HO, HM⟩ := hrel
    by_cases hlt : k < xmn + ymn
    · have hkx : k < (xs ++ ys).length := by have := HAC.out.1; omega
      have hkn : k < nq0.length := by have := HNL.out; omega
      obtain ⟨g2, o2, hA2, htb, hc0⟩ := (HAC.out.new HM.out).2 (by omega)
      subst hA2
      have hgl := htb.lt
      have hnm := HNM.out k hkx hkn
      have HNX : Hid (nq0.take (k + 1) = nq0.take k ++ [nq0[k]]) := Lib.hid (List.take_succ_eq_append_getElem hkn)
      have hc := fun q (hq : q < 7) => hc0 k hkx q hq
      clear hc0 htb
      generalize (xs ++ ys)[k] = z at *
      obtain ⟨zn0, zk, zf, zn, zw, zla, zln, zlc, zma, zmn, zmc⟩ := z
      simp only at hnm
      rw [← hnm] at HNX
      have b0 := hc 0 (by omega)
      have b1 := hc 1 (by omega)
      have b2 := hc 2 (by omega)
      have b3 := hc 3 (by omega)
      have b4 := hc 4 (by omega)
      have b5 := hc 5 (by omega)
      have b6 := hc 6 (by omega)
      simp only [MA.enc, VA.enc, Nat.add_zero, Nat.zero_add] at b0 b1 b2 b3 b4 b5 b6
      clear hc hnm
      have hb2 : (0 : Int) ≤ k := by omega
      have hb3 : (k : Int) < (xmn : Int) + ymn := by omega
      have hb4 : (k : Int) < ((xmn + ymn : Nat) : Int) := by omega
      have m5 : New wr (wr.alloc (.cells #[.string zn0, .int .i64 zk, .bool zf, .int .i64 zn, .string zw, .slice zla zln zlc, .slice zma zmn zmc] 54)) := (Mod.refl _ _).alloc _
      have hlb := Blk.new wr 54 #[.string zn0, .int .i64 zk, .bool zf, .int .i64 zn, .string zw, .slice zla zln zlc, .slice zma zmn zmc]
      go_upto_region 10 with (fail)
      generalize wr.alloc (.cells #[.string zn0, .int .i64 zk, .bool zf, .int .i64 zn, .string zw, .slice zla zln zlc, .slice zma zmn zmc] 54) = w6 at *
      have HO6 := Lib.hid (HO.out.new m5)
      have HM6 := Lib.hid (HM.out.trans m5)
      have d0 := hlb.cell 0
      have dl := hlb.lt
      simp only [List.getElem?_toArray, List.getElem?_cons_zero] at d0
      clear b0 b1 b2 b3 b4 b5 b6 hgl hlb m5 HO HM
      have m7 : New w6 (w6.alloc (.cells #[.string zn0] 9)) := (Mod.refl _ _).alloc _
      have hrow := HO6.out.new m7
      have hb7 : Blk (w6.alloc (.cells #[.string zn0] 9)) w6.heap.size 9 (encL 1 sEnc zn0).toArray := Blk.new _ _ _
      have hle7 : w5.heap.size ≤ (w6.alloc (.cells #[.string zn0] 9)).heap.size := Nat.le_trans HM6.out.size m7.size
      have HM7 := Lib.hid m7
      clear m7
      go_wp2_with (at_builtin; refine wpList_push rfl _ _ _ rfl 16 Tryz.underlying79 einfo_str rfl hrow zn0 w6.heap.size rfl hb7 (fun q hq => sEnc_one _ q hq) (by omega) (by omega) hle7 ?_; intro g8 cap8 w8 own8 hm8 hat8 hlt8; have HO8 := Lib.hid own8; have HM8 := Lib.hid hm8; clear own8 hm8 hat8 hrow hb7)
      go_roundw
      case rel => exact ⟨k + 1, _, _, by omega, by go_num, rfl, Lib.hid (by rw [HNX.out]; exact HO8.out), Lib.hid ((HM6.out.trans HM7.out).step HM8.out (fun i hi e => by have := (HO6.out.tbO _ e).2; omega))⟩
      case measure => simp [intOf]; omega
    · obtain rfl : xmn + ymn = k := by omega
      have hown := HO.out
      rw [List.take_of_length_le (by have := HNL.out; omega)] at hown
      have hso := sort_names Aq (xmn + ymn) cq w5.heap.size nq0 wr hown HM.out.size (by omega)
      clear hown HO
      go_wp2_with fail
      refine hso.mono ?_
      clear hso
      rintro e w6 ⟨rfl, hco⟩
      go_wp2_with fail
      refine hco.mono ?_
      clear hco
      intro e w7 hq
      unfold RNames at hq
      rw [← HNS.out] at hq
      obtain ⟨A7, c7, rfl, s7, m7⟩ := hq
      have HW7 : Hid (New w5 w7) := Lib.hid (HM.out.step m7 (fun i hi e => by omega))
      have HI7 := Lib.hid (HI.out.more HW7.out)
      have hml : (nms2 a b).length ≤ 5000 := by
        have h1 := risN_len nq0
        rw [← HNS.out] at h1
        have h2 := HNL.out
        omega
      have HS7 := Lib.hid s7
      have HPW := Lib.hid (HPS.out.new HI7.out.new)
      have HTAW := Lib.hid (HTX.out.new HI7.out.new)
      have HTBW := Lib.hid (HTY.out.new HI7.out.new)
      have HNW7 := Lib.hid HI7.out.new
      clear s7 m7 HM HW7 HI HAC
      generalize hNS : nms2 a b = NS at *
      have HI : Hid (RfI w7 xb yb pb #[.int .i64 xk, .bool xf, .int .i64 xn, .string xw, .slice xla xln xlc, .slice xma xmn xmc] #[.int .i64 yk, .bool yf, .int .i64 yn, .string yw, .slice yla yln ylc, .slice yma ymn ymc] (.slice A n c) w7.heap.size D (nmsD d a b ps NS 0) none 0 0 w7) := Lib.hid ⟨HI7.out.bx, HI7.out.by_, HI7.out.bp, ⟨[], Own.nil, trivial⟩, Mod.refl _ _, Nat.le_refl _, HI7.out.bx.lt, HI7.out.by_.lt, HI7.out.bp.lt, Nat.le_refl _⟩
      clear HI7
      go_wp2_with fail
      go_loopw [57, 8] (fun i s wr => ∃ (k : Nat) (A1 : Option Addr) (n1 c1 : Nat), k ≤ NS.length ∧ i = .int .i64 k ∧ s = .slice A1 n1 c1 ∧ Hid (RfI w7 xb yb pb #[.int .i64 xk, .bool xf, .int .i64 xn, .string xw, .slice xla xln xlc, .slice xma xmn xmc] #[.int .i64 yk, .bool yf, .int .i64 yn, .string yw, .slice yla yln ylc, .slice yma ymn ymc] (.slice A n c) w7.heap.size D (nmsD d a b ps NS k) A1 n1 c1 wr)) (fun i _ _ => NS.length - (intOf i).toNat)
      case atStart => exact ⟨0, _, _, _, Nat.zero_le _, rfl, rfl, HI⟩
      clear HI
      case round =>
        rename World => wr
        obtain ⟨k, A1, n1, c1, hk, rfl, rfl, HI⟩ := hrel
        by_cases hlt : k < NS.length
        · obtain ⟨g2, o2, hA2, htb2, hc2⟩ := (HS7.out.new HI.out.new).2 (by omega)
          have q0 := hc2 k hlt 0 (by omega)
          simp only [Nat.mul_one, Nat.add_zero, sEnc] at q0
          have ql := htb2.lt
          subst hA2
          have HNX := Lib.hid (nmsD_next d a b ps hlt)
          have hnl := nmsD_le d a b ps NS (k + 1)
          have hlen : (nmsD d a b ps NS k).length + (nmD d a b ps NS[k]).length ≤ 400000 := by
            rw [HNX.out] at hnl
            simp only [List.length_append] at hnl
            omega
          have HLEN := Lib.hid hlen
          have hn1 : n1 ≤ 500000 := by have := HI.out.len; omega
          clear hc2 htb2 hnl hlen
          generalize NS[k] = nm at *
          have hb1 : (k : Int) < NS.length := by omega
          have hb2 : (0 : Int) ≤ k := by omega
          have hls := Blk.new wr 76 #[.bool true, .string nm, .int .i64 0]
          have ms : New wr (wr.alloc (.cells #[.bool true, .string nm, .int .i64 0] 76)) := (Mod.refl _ _).alloc _
          have hxx := (HI.out).bx
          have hyy := (HI.out).by_
          have e0 := hxx.cell 0
          have e1 := hxx.cell 1
          have e2 := hxx.cell 2
          have e3 := hxx.cell 3
          have e4 := hxx.cell 4
          have e5 := hxx.cell 5
          have el := hxx.lt
          have f0 := hyy.cell 0
          have f1 := hyy.cell 1
          have f2 := hyy.cell 2
          have f3 := hyy.cell 3
          have f4 := hyy.cell 4
          have f5 := hyy.cell 5
          have fl := hyy.lt
          simp only [List.getElem?_toArray, List.getElem?_cons_zero, List.getElem?_cons_succ] at e0 e1 e2 e3 e4 e5 f0 f1 f2 f3 f4 f5
          clear hxx hyy
          go_upto_region 17 with (fail)
          clear e0 e1 e2 e3 e4 e5 el f0 f1 f2 f3 f4 f5 fl
          clear q0 ql
          generalize wr.alloc (.cells #[.bool true, .string nm, .int .i64 0] 76) = w8 at *
          generalize wr.heap.size = sb at *
          have HB8 := Lib.hid hls
          have HI8 := Lib.hid (HI.out.more ms)
          clear hls ms HI
          have HWA : Hid (Wide 100000 (d + 1) a) := Lib.hid (Wide.mono (by omega) _ _ HFA.out.2)
          have HWB : Hid (Wide 100000 (d + 1) b) := Lib.hid (Wide.mono (by omega) _ _ HFB.out.2)
          have bst := Blk.new w8 76 #[.bool true, .string nm, .int .i64 0]
          have mst : New w8 (w8.alloc (.cells #[.bool true, .string nm, .int .i64 0] 76)) := (Mod.refl _ _).alloc _
          have hget := get_one d ⟨xk, xf, xn, xw, xla, xln, xlc, xma, xmn, xmc⟩ a nm (w8).heap.size _ (HTAW.out.new (HI8.out.new.trans mst)) HWA.out bst
          have s0 := HB8.out.cell 0
          have s1 := HB8.out.cell 1
          have s2 := HB8.out.cell 2
          have sl := HB8.out.lt
          simp only [List.getElem?_toArray, List.getElem?_cons_zero, List.getElem?_cons_succ] at s0 s1 s2
          have HMB := Lib.hid mst
          clear bst mst
          have hxx := (HI8.out).bx
          have hyy := (HI8.out).by_
          have e0 := hxx.cell 0
          have e1 := hxx.cell 1
          have e2 := hxx.cell 2
          have e3 := hxx.cell 3
          have e4 := hxx.cell 4
          have e5 := hxx.cell 5
          have el := hxx.lt
          have f0 := hyy.cell 0
          have f1 := hyy.cell 1
          have f2 := hyy.cell 2
          have f3 := hyy.cell 3
          have f4 := hyy.cell 4
          have f5 := hyy.cell 5
          have fl := hyy.lt
          simp only [List.getElem?_toArray, List.getElem?_cons_zero, List.getElem?_cons_succ] at e0 e1 e2 e3 e4 e5 f0 f1 f2 f3 f4 f5
          clear hxx hyy
          go_wp2_with fail
          clear e0 e1 e2 e3 e4 e5 el f0 f1 f2 f3 f4 f5 fl
          clear s0 s1 s2 sl
          refine hget.mono ?_
          clear hget
          rintro e wa ⟨mA0, hres⟩
          have HMA := Lib.hid mA0
          clear mA0
          generalize (w8).alloc (.cells #[.bool true, .string nm, .int .i64 0] 76) = wst at *
          obtain ⟨⟨zk, zf, zn, zw, zla, zln, zlc, zma, zmn, zmc⟩, qa, rfl, HN1, HS1⟩ := hres
          have HNA := Lib.hid HN1
          have HSA := Lib.hid HS1
          clear HN1 HS1
          have HBS : Hid (Blk wa sb 76 #[.bool true, .string nm, .int .i64 0]) := Lib.hid ((HB8.out.mod HMB.out (fun e => e)).mod HMA.out (fun e => e))
          have HIA := Lib.hid ((HI8.out.more HMB.out).more HMA.out)
          clear HI8 HMB HB8 HMA
          have ba := Blk.new wa 29 #[.int .i64 zk, .bool zf, .int .i64 zn, .string zw, .slice zla zln zlc, .slice zma zmn zmc]
          have mA : New wa (wa.alloc (.cells #[.int .i64 zk, .bool zf, .int .i64 zn, .string zw, .slice zla zln zlc, .slice zma zmn zmc] 29)) := (Mod.refl _ _).alloc _
          go_upto_region 18 with (fail)
          generalize wa.alloc (.cells #[.int .i64 zk, .bool zf, .int .i64 zn, .string zw, .slice zla zln zlc, .slice zma zmn zmc] 29) = w9 at *
          generalize wa.heap.size = ab at *
          have HBA := Lib.hid ba
          have HB9 := Lib.hid (HBS.out.mod mA (fun e => e))
          have HI9 := Lib.hid (HIA.out.more mA)
          have HSA9 := Lib.hid (fun h => (fun q : ∃ u, getR a ⟨true, nm, 0⟩ = some u ∧ Tree wa (fun _ => True) d ⟨zk, zf, zn, zw, zla, zln, zlc, zma, zmn, zmc⟩ u => (by obtain ⟨u, h1, h2⟩ := q; exact ⟨u, h1, h2.new mA⟩ : ∃ u, getR a ⟨true, nm, 0⟩ = some u ∧ Tree w9 (fun _ => True) d ⟨zk, zf, zn, zw, zla, zln, zlc, zma, zmn, zmc⟩ u)) (HSA.out h))
          clear ba mA HSA HBS HIA
          have bst := Blk.new w9 76 #[.bool true, .string nm, .int .i64 0]
          have mst : New w9 (w9.alloc (.cells #[.bool true, .string nm, .int .i64 0] 76)) := (Mod.refl _ _).alloc _
          have hget := get_one d ⟨yk, yf, yn, yw, yla, yln, ylc, yma, ymn, ymc⟩ b nm (w9).heap.size _ (HTBW.out.new (HI9.out.new.trans mst)) HWB.out bst
          have s0 := HB9.out.cell 0
          have s1 := HB9.out.cell 1
          have s2 := HB9.out.cell 2
          have sl := HB9.out.lt
          simp only [List.getElem?_toArray, List.getElem?_cons_zero, List.getElem?_cons_succ] at s0 s1 s2
          have HMB := Lib.hid mst
          clear bst mst
          have hxx := (HI9.out).bx
          have hyy := (HI9.out).by_
          have e0 := hxx.cell 0
          have e1 := hxx.cell 1
          have e2 := hxx.cell 2
          have e3 := hxx.cell 3
          have e4 := hxx.cell 4
          have e5 := hxx.cell 5
          have el := hxx.lt
          have f0 := hyy.cell 0
          have f1 := hyy.cell 1
          have f2 := hyy.cell 2
          have f3 := hyy.cell 3
          have f4 := hyy.cell 4
          have f5 := hyy.cell 5
          have fl := hyy.lt
          simp only [List.getElem?_toArray, List.getElem?_cons_zero, List.getElem?_cons_succ] at e0 e1 e2 e3 e4 e5 f0 f1 f2 f3 f4 f5
          clear hxx hyy
          go_wp2_with fail
          clear e0 e1 e2 e3 e4 e5 el f0 f1 f2 f3 f4 f5 fl
          clear s0 s1 s2 sl
          refine hget.mono ?_
          clear hget
          rintro e wa ⟨mA0, hres⟩
          have HMA := Lib.hid mA0
          clear mA0
          generalize (w9).alloc (.cells #[.bool true, .string nm, .int .i64 0] 76) = wst at *
          obtain ⟨⟨uk, uf, un, uw, ula, uln, ulc, uma, umn, umc⟩, qb, rfl, HN2, HS2⟩ := hres
          have HNB := Lib.hid HN2
          have HSB := Lib.hid HS2
          clear HN2 HS2
          have HBS : Hid (Blk wa sb 76 #[.bool true, .string nm, .int .i64 0]) := Lib.hid ((HB9.out.mod HMB.out (fun e => e)).mod HMA.out (fun e => e))
          have HBA2 : Hid (Blk wa ab 29 _) := Lib.hid ((HBA.out.mod HMB.out (fun e => e)).mod HMA.out (fun e => e))
          have HIA := Lib.hid ((HI9.out.more HMB.out).more HMA.out)
          have HSA2 := Lib.hid (fun h => (fun q : ∃ u, getR a ⟨true, nm, 0⟩ = some u ∧ Tree w9 (fun _ => True) d ⟨zk, zf, zn, zw, zla, zln, zlc, zma, zmn, zmc⟩ u => (by obtain ⟨u, h1, h2⟩ := q; exact ⟨u, h1, (h2.new HMB.out).new HMA.out⟩ : ∃ u, getR a ⟨true, nm, 0⟩ = some u ∧ Tree wa (fun _ => True) d ⟨zk, zf, zn, zw, zla, zln, zlc, zma, zmn, zmc⟩ u)) (HSA9.out h))
          clear HI9 HMB HB9 HMA HBA HSA9
          have bb := Blk.new wa 29 #[.int .i64 uk, .bool uf, .int .i64 un, .string uw, .slice ula uln ulc, .slice uma umn umc]
          have mB : New wa (wa.alloc (.cells #[.int .i64 uk, .bool uf, .int .i64 un, .string uw, .slice ula uln ulc, .slice uma umn umc] 29)) := (Mod.refl _ _).alloc _
          cases qb with
          | false =>
            have HND := Lib.hid (nmD_take (d := d) (a := a) (b := b) (p := ps) (n := nm) (HNB.out rfl))
            go_upto_region 21 with (fail)
            generalize wa.alloc (.cells #[.int .i64 uk, .bool uf, .int .i64 un, .string uw, .slice ula uln ulc, .slice uma umn umc] 29) = w10 at *
            have HBS2 := Lib.hid (HBS.out.mod mB (fun e => e))
            have HI := Lib.hid (HIA.out.more mB)
            clear bb mB HSA2 HNA HNB HSB HBA2 HBS HIA
            have s0 := HBS2.out.cell 0
            have s1 := HBS2.out.cell 1
            have s2 := HBS2.out.cell 2
            have sl := HBS2.out.lt
            simp only [List.getElem?_toArray, List.getElem?_cons_zero, List.getElem?_cons_succ] at s0 s1 s2
            have hto := ref_to pb A n c ps ⟨true, nm, (0 : Int)⟩ w10 HI.out.bp (HPW.out.new HI.out.new) (by omega)
            unfold St.val at hto
            simp only at hto
            go_wp2_with fail
            clear s0 s1 s2 sl
            refine hto.mono ?_
            clear hto
            rintro e w11 ⟨A7, c8, rfl, own7, m7⟩
            have HS7b := Lib.hid own7.sl
            have HN7 := Lib.hid m7
            clear own7 m7
            have m8 : New w11 (w11.alloc (.cells #[.int .i64 3, .slice A7 (n + 1) c8, .int .i64 0, .bool false, .int .i64 0, .string ⟨#[]⟩, .slice none 0 0, .slice none 0 0] 65)) := (Mod.refl _ _).alloc _
            have b8 : Blk (w11.alloc (.cells #[.int .i64 3, .slice A7 (n + 1) c8, .int .i64 0, .bool false, .int .i64 0, .string ⟨#[]⟩, .slice none 0 0, .slice none 0 0] 65)) w11.heap.size 65 (encL 8 CA.enc (⟨3, A7, n + 1, c8, nilVA⟩ : CA)).toArray := Blk.new _ _ _
            obtain ⟨qs, hown, hal⟩ := HI.out.row
            have HOW := Lib.hid hown
            have HAL := Lib.hid hal
            have HM8 := Lib.hid m8
            have hrow := (hown.new HN7.out).new m8
            have hle8 := Nat.le_trans (Nat.le_trans HI.out.le HN7.out.size) m8.size
            clear m8 hown hal
            go_wp2_with (at_builtin; refine wpList_push rfl _ _ _ rfl 120 Tryz.underlying33 einfo_chg rfl hrow (⟨3, A7, n + 1, c8, nilVA⟩ : CA) w11.heap.size rfl b8 (fun j hj => CA.one _ j hj) (by omega) (by omega) hle8 ?_; intro g9 cap9 w12 own9 hm9 hat9 hlt9; have HO9 := Lib.hid own9; have HM9 := Lib.hid hm9; clear own9 hm9 hat9 hlt9 hrow b8)
            go_roundw
            case rel =>
              refine ⟨k + 1, some ⟨g9, 0, none⟩, n1 + 1, cap9, by omega, by go_num, rfl, Lib.hid ?_⟩
              rw [HNX.out, HND.out]
              exact HI.out.after (HN7.out.trans HM8.out) HM9.out HOW.out HAL.out HO9.out (Al.one ⟨rfl, HS7b.out.new HM8.out, Tree.upto (d := 1) (by omega) (nil_tree _ _ 0)⟩)
            case measure => simp [intOf]; omega
          | true =>
            obtain ⟨UB, hub, htb⟩ := HSB.out rfl
            have HUB := Lib.hid hub
            have HTB := Lib.hid htb
            clear hub htb HSB HNB
            cases qa with
            | false =>
              have HND := Lib.hid (nmD_put (d := d) (p := ps) (HNA.out rfl) HUB.out)
              go_upto_region 23 with (fail)
              generalize wa.alloc (.cells #[.int .i64 uk, .bool uf, .int .i64 un, .string uw, .slice ula uln ulc, .slice uma umn umc] 29) = w10 at *
              generalize wa.heap.size = bbk at *
              have HBB := Lib.hid bb
              have HBS2 := Lib.hid (HBS.out.mod mB (fun e => e))
              have HI := Lib.hid (HIA.out.more mB)
              have HTB2 := Lib.hid (HTB.out.new mB)
              clear bb mB HSA2 HNA HBA2 HBS HIA HTB
              have HSL : Hid (∀ W, Mod (fun i => blkOf A1 = some i) w10 W → W.cell? ⟨sb, 0, none⟩ = some (.bool true) ∧ W.cell? ⟨sb, 1, none⟩ = some (.string nm) ∧ W.cell? ⟨sb, 2, none⟩ = some (.int .i64 0) ∧ W.cell? ⟨bbk, 0, none⟩ = some (.int .i64 uk) ∧ W.cell? ⟨bbk, 1, none⟩ = some (.bool uf) ∧ W.cell? ⟨bbk, 2, none⟩ = some (.int .i64 un) ∧ W.cell? ⟨bbk, 3, none⟩ = some (.string uw) ∧ W.cell? ⟨bbk, 4, none⟩ = some (.slice ula uln ulc) ∧ W.cell? ⟨bbk, 5, none⟩ = some (.slice uma umn umc) ∧ sb < W.heap.size ∧ bbk < W.heap.size) := Lib.hid (fun W hW => by
                have h1 := HBS2.out.mod hW (HI.out.off HBS2.out.tb (by decide))
                have h2 := HBB.out.mod hW (HI.out.off HBB.out.tb (by decide))
                exact ⟨(h1.cell 0).trans rfl, (h1.cell 1).trans rfl, (h1.cell 2).trans rfl, (h2.cell 0).trans rfl, (h2.cell 1).trans rfl, (h2.cell 2).trans rfl, (h2.cell 3).trans rfl, (h2.cell 4).trans rfl, (h2.cell 5).trans rfl, h1.lt, h2.lt⟩)
              obtain ⟨qs, hown, hal⟩ := HI.out.row
              have HOW := Lib.hid hown
              have HAL := Lib.hid hal
              clear hown hal
              refine wp_region_held_tree (Mod (fun i => blkOf A1 = some i) w10) 8 (by kernel_rfl) (by kernel_rfl) ?_
              have hn0 : New w10 w10.drew := (Mod.refl _ _).drew
              have hs1 : Mod (fun i => blkOf A1 = some i) w10 w10.drew := (Mod.refl _ _).drew
              refine headW_take 0 _ ?_ (fun _ _ d _ _ h => by cases d <;> exact h) (by kernel_rfl) rfl (by kernel_rfl) hs1 (by rfl) (fun W hSw => ?_) ?_
              rotate_left
              · (have hq := HSL.out W hSw); (try simp only [List.getElem_toArray, List.getElem_cons_zero, List.getElem_cons_succ]); go_simp; any_goals (with_reducible rfl)
              simp only [Act.put, List.getElem_toArray, List.getElem_cons_zero, List.getElem_cons_succ, List.setIfInBounds_toArray, List.set_cons_zero, List.set_cons_succ]
              refine headW_take 1 _ ?_ (fun _ _ d _ _ h => by cases d <;> exact h) (by kernel_rfl) rfl (by kernel_rfl) hs1 (by rfl) (fun W hSw => ?_) ?_
              rotate_left
              · (have hq := HSL.out W hSw); (try simp only [List.getElem_toArray, List.getElem_cons_zero, List.getElem_cons_succ]); go_simp; any_goals (with_reducible rfl)
              simp only [Act.put, List.getElem_toArray, List.getElem_cons_zero, List.getElem_cons_succ, List.setIfInBounds_toArray, List.set_cons_zero, List.set_cons_succ]
              refine headW_take 2 _ ?_ (fun _ _ d _ _ h => by cases d <;> exact h) (by kernel_rfl) rfl (by kernel_rfl) hs1 (by rfl) (fun W hSw => ?_) ?_
              rotate_left
              · (have hq := HSL.out W hSw); (try simp only [List.getElem_toArray, List.getElem_cons_zero, List.getElem_cons_succ]); go_simp; any_goals (with_reducible rfl)
              simp only [Act.put, List.getElem_toArray, List.getElem_cons_zero, List.getElem_cons_succ, List.setIfInBounds_toArray, List.set_cons_zero, List.set_cons_succ]
              refine headW_take 4 _ ?_ (fun _ _ d _ _ h => by cases d <;> exact h) (by kernel_rfl) rfl (by kernel_rfl) hs1 (by rfl) (fun W hSw => ?_) ?_
              rotate_left
              · (have hq := HSL.out W hSw); (try simp only [List.getElem_toArray, List.getElem_cons_zero, List.getElem_cons_succ]); go_simp; any_goals (with_reducible rfl)
              simp only [Act.put, List.getElem_toArray, List.getElem_cons_zero, List.getElem_cons_succ, List.setIfInBounds_toArray, List.set_cons_zero, List.set_cons_succ]
              refine headW_ready [3] (by kernel_rfl) (by rfl) ?_
              refine eachW_step rfl rfl (fun K hK => ?_) eachW_nil
              have hto := ref_to pb A n c ps ⟨true, nm, (0 : Int)⟩ w10.drew (HI.out.bp.mod hn0 (fun e => e)) (HPW.out.new (HI.out.new.trans hn0)) (by omega)
              unfold St.val at hto
              simp only at hto
              (try simp only [List.getElem_toArray, List.getElem_cons_zero, List.getElem_cons_succ])
              go_simp
              refine hto.mono ?_
              clear hto
              rintro e w7a ⟨A7, c8, rfl, own7, m7⟩
              have HN7 := Lib.hid (hn0.trans m7)
              have HS7b := Lib.hid own7.sl
              clear own7 m7
              go_wp2_with fail
              refine hK.out _ _ (HN7.out.mono (fun _ _ e => e.elim)) (fun _ => ?_)
              clear hK K
              (try simp only [Act.put, List.getElem_toArray, List.getElem_cons_zero, List.getElem_cons_succ, List.setIfInBounds_toArray, List.set_cons_zero, List.set_cons_succ])
              have hs7 : Mod (fun i => blkOf A1 = some i) w10 w7a := HN7.out.mono (fun _ _ e => e.elim)
              refine headW_take 5 _ ?_ (fun _ _ d _ _ h => by cases d <;> exact h) (by kernel_rfl) rfl (by kernel_rfl) hs7 (by rfl) (fun W hSw => ?_) ?_
              rotate_left
              · (have hq := HSL.out W hSw); (try simp only [List.getElem_toArray, List.getElem_cons_zero, List.getElem_cons_succ]); go_simp; any_goals (with_reducible rfl)
              simp only [Act.put, List.getElem_toArray, List.getElem_cons_zero, List.getElem_cons_succ, List.setIfInBounds_toArray, List.set_cons_zero, List.set_cons_succ]
              refine headW_ready [6] (by kernel_rfl) (by rfl) ?_
              refine eachW_step rfl rfl (fun K hK => ?_) eachW_nil
              have b8 : Blk (w7a.alloc (.cells #[.int .i64 1, .slice A7 (n + 1) c8, .int .i64 uk, .bool uf, .int .i64 un, .string uw, .slice ula uln ulc, .slice uma umn umc] 65)) w7a.heap.size 65 (encL 8 CA.enc (⟨1, A7, n + 1, c8, ⟨uk, uf, un, uw, ula, uln, ulc, uma, umn, umc⟩⟩ : CA)).toArray := Blk.new _ _ _
              have HMA : Hid (New w7a (w7a.alloc (.cells #[.int .i64 1, .slice A7 (n + 1) c8, .int .i64 uk, .bool uf, .int .i64 un, .string uw, .slice ula uln ulc, .slice uma umn umc] 65))) := Lib.hid ((Mod.refl _ _).alloc _)
              have HB8 := Lib.hid b8
              clear b8
              (try simp only [List.getElem_toArray, List.getElem_cons_zero, List.getElem_cons_succ])
              go_simp
              refine hK.out _ _ ((HN7.out.trans HMA.out).mono (fun _ _ e => e.elim)) (fun _ => ?_)
              clear hK K
              (try simp only [Act.put, List.getElem_toArray, List.getElem_cons_zero, List.getElem_cons_succ, List.setIfInBounds_toArray, List.set_cons_zero, List.set_cons_succ])
              generalize w7a.alloc (.cells #[.int .i64 1, .slice A7 (n + 1) c8, .int .i64 uk, .bool uf, .int .i64 un, .string uw, .slice ula uln ulc, .slice uma umn umc] 65) = w8 at *
              generalize w7a.heap.size = cb at *
              refine headW_ready [7] (by kernel_rfl) (by rfl) ?_
              refine eachW_step rfl rfl (fun K hK => ?_) eachW_nil
              have hrow := (HOW.out.new HN7.out).new HMA.out
              have hle8 := Nat.le_trans (Nat.le_trans HI.out.le HN7.out.size) HMA.out.size
              have hb8 := HB8.out
              refine wp_push (.tmp 98) (.tmp 104) _ rfl 120 Tryz.underlying33 einfo_chg rfl (by exact hrow) (⟨1, A7, n + 1, c8, ⟨uk, uf, un, uw, ula, uln, ulc, uma, umn, umc⟩⟩ : CA) cb rfl (by exact hb8) (fun j hj => CA.one _ j hj) (by omega) (by omega) hle8 ?_
              intro g9 cap9 w9 own9 hm9 hat9 hlt9
              have HO9 := Lib.hid own9
              have HM9 := Lib.hid hm9
              refine hK.out _ _ (((HN7.out.trans HMA.out).mono (fun _ _ e => e.elim)).trans hm9) (fun _ => ?_)
              clear hK K own9 hm9 hat9 hlt9 hrow hb8
              (try simp only [Act.put, List.getElem_toArray, List.getElem_cons_zero, List.getElem_cons_succ, List.setIfInBounds_toArray, List.set_cons_zero, List.set_cons_succ])
              refine headW_done (by kernel_rfl) ?_
              go_wp2_with fail
              go_roundw
              case rel =>
                refine ⟨k + 1, some ⟨g9, 0, none⟩, n1 + 1, cap9, by omega, by go_num, rfl, Lib.hid ?_⟩
                rw [HNX.out, HND.out]
                exact HI.out.after (HN7.out.trans HMA.out) HM9.out HOW.out HAL.out HO9.out (Al.one ⟨rfl, HS7b.out.new HMA.out, Tree.upto (by omega) (HTB2.out.new (HN7.out.trans HMA.out))⟩)
              case measure => simp [intOf]; omega
            | true =>
              obtain ⟨UA, hua, hta⟩ := HSA2.out rfl
              have HND := Lib.hid (nmD_both (d := d) (p := ps) hua HUB.out)
              have hlen := HLEN.out
              rw [HND.out] at hlen
              have hfa := Fit.deep HDA.out HFA.out hua
              have hfb := Fit.deep HDB.out HFB.out HUB.out
              have hga := Good.get HGA.out hua
              have hgb := Good.get HGB.out HUB.out
              go_upto_region 19 with (fail)
              have HIH := Lib.hid (fun A2 n2 c2 W (h : New wa W) hss hnn => IH ⟨zk, zf, zn, zw, zla, zln, zlc, zma, zmn, zmc⟩ ⟨uk, uf, un, uw, ula, uln, ulc, uma, umn, umc⟩ UA UB A2 n2 c2 (ps ++ [⟨true, nm, 0⟩]) W (hta.new h) (HTB.out.new h) hga hgb hfa hfb hss hnn (by omega) (by omega))
              clear hfa hfb hga hgb hua hta
              have HMB2 := Lib.hid mB
              generalize wa.alloc (.cells #[.int .i64 uk, .bool uf, .int .i64 un, .string uw, .slice ula uln ulc, .slice uma umn umc] 29) = w10 at *
              generalize wa.heap.size = bbk at *
              have HBB := Lib.hid bb
              have HBS2 := Lib.hid (HBS.out.mod mB (fun e => e))
              have HBA3 := Lib.hid (HBA2.out.mod mB (fun e => e))
              have HI := Lib.hid (HIA.out.more mB)
              have HLN2 := Lib.hid hlen
              clear bb mB HSA2 HNA HBA2 HBS HIA HTB hlen
              generalize difF d UA UB (ps ++ [⟨true, nm, 0⟩]) = LD at *
              have HSL : Hid (∀ W, Mod (fun i => blkOf A1 = some i) w10 W → W.cell? ⟨sb, 0, none⟩ = some (.bool true) ∧ W.cell? ⟨sb, 1, none⟩ = some (.string nm) ∧ W.cell? ⟨sb, 2, none⟩ = some (.int .i64 0) ∧ W.cell? ⟨bbk, 0, none⟩ = some (.int .i64 uk) ∧ W.cell? ⟨bbk, 1, none⟩ = some (.bool uf) ∧ W.cell? ⟨bbk, 2, none⟩ = some (.int .i64 un) ∧ W.cell? ⟨bbk, 3, none⟩ = some (.string uw) ∧ W.cell? ⟨bbk, 4, none⟩ = some (.slice ula uln ulc) ∧ W.cell? ⟨bbk, 5, none⟩ = some (.slice uma umn umc) ∧
                W.cell? ⟨ab, 0, none⟩ = some (.int .i64 zk) ∧ W.cell? ⟨ab, 1, none⟩ = some (.bool zf) ∧ W.cell? ⟨ab, 2, none⟩ = some (.int .i64 zn) ∧ W.cell? ⟨ab, 3, none⟩ = some (.string zw) ∧ W.cell? ⟨ab, 4, none⟩ = some (.slice zla zln zlc) ∧ W.cell? ⟨ab, 5, none⟩ = some (.slice zma zmn zmc) ∧ sb < W.heap.size ∧ bbk < W.heap.size ∧ ab < W.heap.size) := Lib.hid (fun W hW => by
                have h1 := HBS2.out.mod hW (HI.out.off HBS2.out.tb (by decide))
                have h2 := HBB.out.mod hW (HI.out.off HBB.out.tb (by decide))
                have h3 := HBA3.out.mod hW (HI.out.off HBA3.out.tb (by decide))
                exact ⟨(h1.cell 0).trans rfl, (h1.cell 1).trans rfl, (h1.cell 2).trans rfl, (h2.cell 0).trans rfl, (h2.cell 1).trans rfl, (h2.cell 2).trans rfl, (h2.cell 3).trans rfl, (h2.cell 4).trans rfl, (h2.cell 5).trans rfl, (h3.cell 0).trans rfl, (h3.cell 1).trans rfl, (h3.cell 2).trans rfl, (h3.cell 3).trans rfl, (h3.cell 4).trans rfl, (h3.cell 5).trans rfl, h1.lt, h2.lt, h3.lt⟩)
              obtain ⟨qs, hown, hal⟩ := HI.out.row
              have HOW := Lib.hid hown
              have HAL := Lib.hid hal
              clear hown hal
              refine wp_region_held_tree (Mod (fun i => blkOf A1 = some i) w10) 8 (by kernel_rfl) (by kernel_rfl) ?_
              have hn0 : New w10 w10.drew := (Mod.refl _ _).drew
              have hs1 : Mod (fun i => blkOf A1 = some i) w10 w10.drew := (Mod.refl _ _).drew
              refine headW_take 0 _ ?_ (fun _ _ d _ _ h => by cases d <;> exact h) (by kernel_rfl) rfl (by kernel_rfl) hs1 (by rfl) (fun W hSw => ?_) ?_
              rotate_left
              · (have hq := HSL.out W hSw); (try simp only [List.getElem_toArray, List.getElem_cons_zero, List.getElem_cons_succ]); go_simp; any_goals (with_reducible rfl)
              simp only [Act.put, List.getElem_toArray, List.getElem_cons_zero, List.getElem_cons_succ, List.setIfInBounds_toArray, List.set_cons_zero, List.set_cons_succ]
              refine headW_take 1 _ ?_ (fun _ _ d _ _ h => by cases d <;> exact h) (by kernel_rfl) rfl (by kernel_rfl) hs1 (by rfl) (fun W hSw => ?_) ?_
              rotate_left
              · (have hq := HSL.out W hSw); (try simp only [List.getElem_toArray, List.getElem_cons_zero, List.getElem_cons_succ]); go_simp; any_goals (with_reducible rfl)
              simp only [Act.put, List.getElem_toArray, List.getElem_cons_zero, List.getElem_cons_succ, List.setIfInBounds_toArray, List.set_cons_zero, List.set_cons_succ]
              refine headW_take 2 _ ?_ (fun _ _ d _ _ h => by cases d <;> exact h) (by kernel_rfl) rfl (by kernel_rfl) hs1 (by rfl) (fun W hSw => ?_) ?_
              rotate_left
              · (have hq := HSL.out W hSw); (try simp only [List.getElem_toArray, List.getElem_cons_zero, List.getElem_cons_succ]); go_simp; any_goals (with_reducible rfl)
              simp only [Act.put, List.getElem_toArray, List.getElem_cons_zero, List.getElem_cons_succ, List.setIfInBounds_toArray, List.set_cons_zero, List.set_cons_succ]
              refine headW_take 3 _ ?_ (fun _ _ d _ _ h => by cases d <;> exact h) (by kernel_rfl) rfl (by kernel_rfl) hs1 (by rfl) (fun W hSw => ?_) ?_
              rotate_left
              · (have hq := HSL.out W hSw); (try simp only [List.getElem_toArray, List.getElem_cons_zero, List.getElem_cons_succ]); go_simp; any_goals (with_reducible rfl)
              simp only [Act.put, List.getElem_toArray, List.getElem_cons_zero, List.getElem_cons_succ, List.setIfInBounds_toArray, List.set_cons_zero, List.set_cons_succ]
              refine headW_take 4 _ ?_ (fun _ _ d _ _ h => by cases d <;> exact h) (by kernel_rfl) rfl (by kernel_rfl) hs1 (by rfl) (fun W hSw => ?_) ?_
              rotate_left
              · (have hq := HSL.out W hSw); (try simp only [List.getElem_toArray, List.getElem_cons_zero, List.getElem_cons_succ]); go_simp; any_goals (with_reducible rfl)
              simp only [Act.put, List.getElem_toArray, List.getElem_cons_zero, List.getElem_cons_succ, List.setIfInBounds_toArray, List.set_cons_zero, List.set_cons_succ]
              refine headW_ready [5] (by kernel_rfl) (by rfl) ?_
              refine eachW_step rfl rfl (fun K hK => ?_) eachW_nil
              have hto := ref_to pb A n c ps ⟨true, nm, (0 : Int)⟩ w10.drew (HI.out.bp.mod hn0 (fun e => e)) (HPW.out.new (HI.out.new.trans hn0)) (by omega)
              unfold St.val at hto
              simp only at hto
              (try simp only [List.getElem_toArray, List.getElem_cons_zero, List.getElem_cons_succ])
              go_simp
              refine hto.mono ?_
              clear hto
              rintro e w7a ⟨A7, c8, rfl, own7, m7⟩
              have HN7 := Lib.hid (hn0.trans m7)
              have HS7b := Lib.hid own7.sl
              clear own7 m7
              go_wp2_with fail
              refine hK.out _ _ (HN7.out.mono (fun _ _ e => e.elim)) (fun _ => ?_)
              clear hK K
              (try simp only [Act.put, List.getElem_toArray, List.getElem_cons_zero, List.getElem_cons_succ, List.setIfInBounds_toArray, List.set_cons_zero, List.set_cons_succ])
              refine headW_ready [6] (by kernel_rfl) (by rfl) ?_
              refine eachW_step rfl rfl (fun K hK => ?_) eachW_nil
              have hih := HIH.out A7 (n + 1) c8 w7a (HMB2.out.trans HN7.out) HS7b.out (by omega)
              clear HIH
              (try simp only [List.getElem_toArray, List.getElem_cons_zero, List.getElem_cons_succ])
              go_simp
              refine hih.mono ?_
              clear hih
              rintro e w8a ⟨A8, n8, c9, q8, rfl, s8, al8, m8⟩
              have HN8 := Lib.hid (HN7.out.trans m8)
              have HS8 := Lib.hid s8
              have HA8 := Lib.hid al8
              have hn8 : n1 + n8 < 1000000 := by have h1 := s8.1; have h2 := al8.len; have := HLN2.out; omega
              clear s8 al8 m8 HN7 HS7b
              go_wp2_with fail
              refine hK.out _ _ (HN8.out.mono (fun _ _ e => e.elim)) (fun _ => ?_)
              clear hK K
              (try simp only [Act.put, List.getElem_toArray, List.getElem_cons_zero, List.getElem_cons_succ, List.setIfInBounds_toArray, List.set_cons_zero, List.set_cons_succ])
              refine headW_ready [7] (by kernel_rfl) (by rfl) ?_
              refine eachW_step rfl rfl (fun K hK => ?_) eachW_nil
              have hrow := HOW.out.new HN8.out
              have hle8 := Nat.le_trans HI.out.le HN8.out.size
              have hs8 := HS8.out
              refine wp_pushRow (.tmp 77) (.tmp 83) _ rfl 120 Tryz.underlying33 einfo_chg rfl (by exact hrow) q8 A8 n8 c9 rfl (by exact hs8) (fun y _ j hj => CA.one y j hj) hn8 (by omega) hle8 ?_
              intro A9 cap9 w9a own9 hm9 hat9
              have HO9 := Lib.hid own9
              have HM9 := Lib.hid hm9
              refine hK.out _ _ ((HN8.out.mono (fun _ _ e => e.elim)).trans hm9) (fun _ => ?_)
              clear hK K own9 hm9 hat9 hrow hs8
              (try simp only [Act.put, List.getElem_toArray, List.getElem_cons_zero, List.getElem_cons_succ, List.setIfInBounds_toArray, List.set_cons_zero, List.set_cons_succ])
              refine headW_done (by kernel_rfl) ?_
              go_wp2_with fail
              go_roundw
              case rel =>
                refine ⟨k + 1, A9, n1 + n8, cap9, by omega, by go_num, rfl, Lib.hid ?_⟩
                rw [HNX.out, HND.out]
                exact HI.out.after HN8.out HM9.out HOW.out HAL.out HO9.out HA8.out
              case measure => simp [intOf]; omega
        · obtain rfl : NS.length = k := by omega
          go_wp2_with fail
          go_ret
          obtain ⟨qs, hown, hal⟩ := HI.out.row
          exact ⟨A1, n1, c1, qs, rfl, hown.sl, hal, HNW7.out.trans HI.out.new⟩
end Go.Proofs.YtjfgfkbgbhbhjaaGreatDoor

namespace Go.Proofs.YtjfgfkbgbhbhjaaGreatDoor
open Go.RowKit
set_option linter.unusedVariables false
set_option linter.unusedSimpArgs false

theorem ref_differ (D : Nat) : ∀ d, RSpec D d
  | 0 => fun x y a b A n c ps w h => h.elim
  | d + 1 => fun x y a b A n c ps w htx hty hga hgb hfa hfb hs hn hd hL => by
    by_cases h0 : vCmp (d + 1) a b = 0
    · exact rf_same D d x y a b A n c ps w htx hty hga hgb hfa hfb hs (by omega) hd h0
    · by_cases h5 : x.kind = 5 ∧ y.kind = 5
      · exact rf_members D d (ref_differ D d) x y a b A n c ps w htx hty hga hgb hfa hfb hs (by omega) hd hL h0 h5.1 h5.2
      · by_cases h4 : x.kind = 4 ∧ y.kind = 4
        · exact rf_lists D d (ref_differ D d) x y a b A n c ps w htx hty hga hgb hfa hfb hs (by omega) hd hL h0 h4.1 h4.2
        · exact rf_one D d x y a b A n c ps w htx hty hga hgb hfa hfb hs (by omega) hd h0 h5 h4
set_option maxHeartbeats 1000000 in
theorem ref_differFault (D : Nat) (A : Option Addr) (n c : Nat) (qs : List CA) (L : List ChD) (w : World) (hs : Sl w 65 8 CA.enc A n qs) (ha : Al (ChT w D) qs L) (hn : n ≤ 1000000) :
    Calls Tryz.prog 14 #[.slice A n c] w fun e w' => e = .returned (.int .i64 (difE L)) ∧ New w w' := by
  have hl : n = L.length := by rw [← ha.len, hs.1]
  have HCL := Lib.hid (fun W (h : New w W) => contains_long 44 enters_fault1 D W A n c qs L (hs.new h) (Al.imp (fun _ _ q => q.new h) ha) long_fault hn)
  have HE : Hid (difE L = if 5000 < n then 2 else if longB L = true then 2 else 0) := Lib.hid (by unfold difE; rw [hl])
  clear hs ha hl
  by_cases h5 : 5000 < n
  · have h5b : (5000 : Int) < n := by omega
    have HE2 : Hid (difE L = 2) := Lib.hid (by rw [HE.out, if_pos h5])
    clear h5
    go_enter Tryz.func14, Tryz.ntmps14
    go_wp2_with fail
    go_ret
    exact ⟨ret_int HE2.out.symm, Mod.refl _ _⟩
  · have h5b : ¬ (5000 : Int) < n := by omega
    have hcl := HCL.out w (Mod.refl _ _)
    have HE1 : Hid (difE L = if longB L = true then 2 else 0) := Lib.hid (by rw [HE.out, if_neg h5])
    clear h5
    go_enter Tryz.func14, Tryz.ntmps14
    go_wp2_with fail
    refine hcl.mono ?_
    clear hcl
    rintro e w1 ⟨rfl, m1⟩
    cases hlb : longB L with
    | true =>
      have HE2 : Hid (difE L = 2) := Lib.hid (by rw [HE1.out, hlb]; rfl)
      clear hlb
      go_wp2_with fail
      go_ret
      exact ⟨ret_int HE2.out.symm, m1⟩
    | false =>
      have HE2 : Hid (difE L = 0) := Lib.hid (by rw [HE1.out, hlb]; rfl)
      clear hlb
      go_wp2_with fail
      go_ret
      exact ⟨ret_int HE2.out.symm, m1⟩
end Go.Proofs.YtjfgfkbgbhbhjaaGreatDoor
