/- Several texts in one. (1) Changes: is one's path longer than 50 steps (slices.ContainsFunc over a function value). Conditions: at most 1000000 changes. (2) The program: value.Differ. Conditions: values that fit; utf8's tables. -/
import Derived.Test.YtjfgfkbgbhbhjaaGreatDoorDelF
import Derived.Test.YtjfgfkbgbhbhjaaGreatDoorDAddGrp
import Derived.Test.YtjfgfkbgbhbhjaaGreatDoorVEqGrp
import Derived.Test.YtjfgfkbgbhbhjaaGreatDoorVal9

namespace Go.Proofs.YtjfgfkbgbhbhjaaGreatDoor
open Go.RowKit
set_option linter.unusedVariables false
set_option linter.unusedSimpArgs false

/-- a function that asks whether a change's path is longer than 50 steps -/
def LongPred (F : Nat) : Prop := ∀ (c : CA) W, Calls Tryz.prog F #[c.val] W fun e w' => e = .returned (.bool (decide (50 < c.pn))) ∧ New W w'
set_option maxHeartbeats 1000000 in
theorem long_differ : LongPred 28 := by
  intro c w
  obtain ⟨ck, ca, cn, cc, ⟨xk, xf, xn, xw, xla, xln, xlc, xma, xmn, xmc⟩⟩ := c
  have hx := Blk.new w 65 #[.int .i64 ck, .slice ca cn cc, .int .i64 xk, .bool xf, .int .i64 xn, .string xw, .slice xla xln xlc, .slice xma xmn xmc]
  have hm1 : New w (w.alloc (.cells #[.int .i64 ck, .slice ca cn cc, .int .i64 xk, .bool xf, .int .i64 xn, .string xw, .slice xla xln xlc, .slice xma xmn xmc] 65)) := (Mod.refl _ _).alloc _
  go_enter Tryz.func28, Tryz.ntmps28
  go_upto_region 1 with (fail)
  generalize w.alloc (.cells #[.int .i64 ck, .slice ca cn cc, .int .i64 xk, .bool xf, .int .i64 xn, .string xw, .slice xla xln xlc, .slice xma xmn xmc] 65) = w1 at *
  have e1 := hx.cell 1
  have el := hx.lt
  simp only [List.getElem?_toArray, List.getElem?_cons_zero, List.getElem?_cons_succ] at e1
  have HM := Lib.hid hm1
  clear hx hm1
  by_cases h : 50 < cn
  · have h2 : (50 : Int) < cn := by omega
    have hd : decide (50 < cn) = true := by simpa using h
    go_wp2_with fail
    go_ret
    first | exact ⟨rfl, HM.out⟩ | exact ⟨ret_bool hd.symm, HM.out⟩
  · have h2 : ¬ (50 : Int) < cn := by omega
    have hd : decide (50 < cn) = false := by simpa using h
    go_wp2_with fail
    go_ret
    first | exact ⟨rfl, HM.out⟩ | exact ⟨ret_bool hd.symm, HM.out⟩
set_option maxHeartbeats 1000000 in
theorem long_fault : LongPred 44 := by
  intro c w
  obtain ⟨ck, ca, cn, cc, ⟨xk, xf, xn, xw, xla, xln, xlc, xma, xmn, xmc⟩⟩ := c
  have hx := Blk.new w 65 #[.int .i64 ck, .slice ca cn cc, .int .i64 xk, .bool xf, .int .i64 xn, .string xw, .slice xla xln xlc, .slice xma xmn xmc]
  have hm1 : New w (w.alloc (.cells #[.int .i64 ck, .slice ca cn cc, .int .i64 xk, .bool xf, .int .i64 xn, .string xw, .slice xla xln xlc, .slice xma xmn xmc] 65)) := (Mod.refl _ _).alloc _
  go_enter Tryz.func44, Tryz.ntmps44
  go_upto_region 1 with (fail)
  generalize w.alloc (.cells #[.int .i64 ck, .slice ca cn cc, .int .i64 xk, .bool xf, .int .i64 xn, .string xw, .slice xla xln xlc, .slice xma xmn xmc] 65) = w1 at *
  have e1 := hx.cell 1
  have el := hx.lt
  simp only [List.getElem?_toArray, List.getElem?_cons_zero, List.getElem?_cons_succ] at e1
  have HM := Lib.hid hm1
  clear hx hm1
  by_cases h : 50 < cn
  · have h2 : (50 : Int) < cn := by omega
    have hd : decide (50 < cn) = true := by simpa using h
    go_wp2_with fail
    go_ret
    first | exact ⟨rfl, HM.out⟩ | exact ⟨ret_bool hd.symm, HM.out⟩
  · have h2 : ¬ (50 : Int) < cn := by omega
    have hd : decide (50 < cn) = false := by simpa using h
    go_wp2_with fail
    go_ret
    first | exact ⟨rfl, HM.out⟩ | exact ⟨ret_bool hd.symm, HM.out⟩
theorem enters_differ1 (args : Array Value) (w : World) : (callFunc 28 args).run Tryz.prog w = .ok (.enter 28 args) w := by
  go_simp
theorem enters_fault1 (args : Array Value) (w : World) : (callFunc 44 args).run Tryz.prog w = .ok (.enter 44 args) w := by
  go_simp
set_option maxHeartbeats 1000000 in
theorem indexFunc_ca (F : Nat) (eg : ∀ args w, (callFunc F args).run Tryz.prog w = .ok (.enter F args) w) (w : World) (A : Option Addr) (n c : Nat) (ms : List CA) (hs : Sl w 65 8 CA.enc A n ms) (hF : LongPred F) (hn : n ≤ 1000000) :
    Calls Tryz.prog 63 #[.slice A n c, .func (.func F) #[] #[]] w fun e w' => e = .returned (.int .i64 (firstIx (fun i => (ms[i]?).any (fun c => decide (50 < c.pn))) n)) ∧ New w w' := by
  have HS := Lib.hid hs
  have HF := Lib.hid hF
  have HL := Lib.hid hs.1
  obtain ⟨b, hb⟩ : ∃ b : Nat → Bool, b = (fun i => (ms[i]?).any (fun c => decide (50 < c.pn))) := ⟨_, rfl⟩
  rw [← hb]
  have HB := Lib.hid hb
  clear hs hF hb
  go_enter Tryz.func63, Tryz.ntmps63
  go_wp2_with fail
  go_loopw [5, 8] (fun _ i wr => ∃ k : Nat, k ≤ n ∧ i = .int .i64 k ∧ Hid (New w wr) ∧ Hid (∀ j, j < k → b j = false)) (fun _ i _ => n - (intOf i).toNat)
  case atStart => exact ⟨0, Nat.zero_le _, rfl, Lib.hid (Mod.refl _ _), Lib.hid (fun j hj => absurd hj (by omega))⟩
  case round =>
    rename World => wr
    obtain ⟨k, hk, rfl, HM, HA⟩ := hrel
    by_cases hlt : k < n
    · have hkx : k < ms.length := by have := HL.out; omega
      obtain ⟨g, o, hA, htb, hc0⟩ := (HS.out.new HM.out).2 (by omega)
      have hgl := htb.lt
      have hc := fun q (hq : q < 8) => hc0 k hkx q hq
      have hbk : b k = decide (50 < ms[k].pn) := by rw [HB.out]; simp [hkx]
      have HBK := Lib.hid hbk
      clear hc0 htb hbk
      have hcall := HF.out ms[k] wr
      generalize ms[k] = y at *
      subst hA
      have hb1 : (0 : Int) ≤ k := by omega
      have hb2 : (k : Int) < n := by omega
      obtain ⟨yc, ya, yn0, yc0, ⟨yk, yf, yn, yw, yla, yln, ylc, yma, ymn, ymc⟩⟩ := y
      have b0 := hc 0 (by omega)
      have b1 := hc 1 (by omega)
      have b2 := hc 2 (by omega)
      have b3 := hc 3 (by omega)
      have b4 := hc 4 (by omega)
      have b5 := hc 5 (by omega)
      have b6 := hc 6 (by omega)
      have b7 := hc 7 (by omega)
      simp only [CA.enc, VA.enc, Nat.add_zero, Nat.zero_add] at b0 b1 b2 b3 b4 b5 b6 b7
      clear hc
      try simp only [CA.val] at hcall
      try simp only at HBK hcall
      generalize decide (50 < yn0) = r at *
      go_wp2_with fail
      refine hcall.mono ?_
      clear hcall
      rintro e w5 ⟨rfl, m5⟩
      have HM5 := Lib.hid (HM.out.trans m5)
      clear m5
      cases r with
      | true =>
        go_wp2_with fail
        go_ret
        exact ⟨ret_int (firstIx_hit hlt HBK.out HA.out).symm, HM5.out⟩
      | false =>
        go_wp2_with fail
        go_roundw
        case rel => exact ⟨k + 1, by omega, by go_num, HM5, Lib.hid (fun j hj => by
          by_cases e : j = k
          · subst e; exact HBK.out
          · exact HA.out j (by omega))⟩
        case measure => simp [intOf]; omega
    · obtain rfl : k = n := by omega
      go_wp2_with fail
      go_ret
      exact ⟨ret_int (firstIx_none HA.out).symm, HM.out⟩
/-- is one of the changes' paths longer than 50 steps -/
def longB (L : List ChD) : Bool := L.any fun c => decide (50 < c.path.length)
set_option maxHeartbeats 1000000 in
theorem contains_long (F : Nat) (eg : ∀ args w, (callFunc F args).run Tryz.prog w = .ok (.enter F args) w) (D : Nat) (w : World) (A : Option Addr) (n c : Nat) (ms : List CA) (L : List ChD) (hs : Sl w 65 8 CA.enc A n ms) (ha : Al (ChT w D) ms L) (hF : LongPred F) (hn : n ≤ 1000000) :
    Calls Tryz.prog 27 #[.slice A n c, .func (.func F) #[] #[]] w fun e w' => e = .returned (.bool (longB L)) ∧ New w w' := by
  have hif := indexFunc_ca F eg w A n c ms hs hF hn
  have hl := ha.len
  have hn1 := hs.1
  have hq : ∀ i, i < n → ((ms[i]?).any (fun c => decide (50 < c.pn))) = decide (50 < (L[i]?.map (·.path.length)).getD 0) := fun i hi => by
    have h1 : i < ms.length := by omega
    have h2 : i < L.length := by omega
    rw [List.getElem?_eq_getElem h1, List.getElem?_eq_getElem h2]
    have := (ha.get i h1 h2).path.1
    simp only [Option.any_some, Option.map_some, Option.getD_some, this]
  have key : ∀ b : Nat → Bool, (∀ i, i < n → b i = decide (50 < (L[i]?.map (·.path.length)).getD 0)) → longB L = decide (0 ≤ firstIx b n) := by
    intro b hq
    rcases firstIx_cases b n with ⟨h1, h2⟩ | ⟨k, hk, h1, h2, -⟩
    · rw [h1]
      show longB L = false
      unfold longB
      rw [List.any_eq_false]
      intro x hx
      obtain ⟨i, hi, rfl⟩ := List.getElem_of_mem hx
      have h3 := h2 i (by omega)
      rw [hq i (by omega), List.getElem?_eq_getElem hi] at h3
      simpa using h3
    · rw [h1]
      have h4 : decide ((0 : Int) ≤ (k : Int)) = true := by simp
      rw [h4]
      unfold longB
      rw [List.any_eq_true]
      rw [hq k hk, List.getElem?_eq_getElem (by omega)] at h2
      exact ⟨L[k]'(by omega), List.getElem_mem _, by simpa using h2⟩
  have hb := key _ hq
  clear key
  rw [hb]
  generalize firstIx (fun i => (ms[i]?).any (fun c => decide (50 < c.pn))) n = R at *
  clear hs ha hF hl hq hb
  go_enter Tryz.func27, Tryz.ntmps27
  go_wp2_with fail
  refine hif.mono ?_
  clear hif
  rintro e w5 ⟨rfl, m5⟩
  go_wp2_with fail
  go_ret
  exact ⟨rfl, m5⟩
end Go.Proofs.YtjfgfkbgbhbhjaaGreatDoor

namespace Go.Proofs.YtjfgfkbgbhbhjaaGreatDoor
open Go.RowKit
set_option linter.unusedVariables false
set_option linter.unusedSimpArgs false

def difE (L : List ChD) : Int := if 5000 < L.length then 2 else if longB L = true then 2 else 0
/-- what Differ hands back: F is what is wrong with the values, L the changes -/
def RDiffer (w : World) (D : Nat) (F : Int) (L : List ChD) (e : Ending) (w' : World) : Prop := New w w' ∧ ∃ (A : Option Addr) (n c : Nat) (qs : List CA), e = .returned (.tuple #[.slice A n c, .int .i64 (orF F (difE L))]) ∧ (orF F (difE L) ≠ 0 → n = 0) ∧ (orF F (difE L) = 0 → Sl w' 65 8 CA.enc A n qs ∧ Al (ChT w' D) qs L)
theorem check_many {d : Nat} {v : VT} (h : vCheck d v = 0) : vMany d v ≤ 5000 := by
  unfold vCheck at h
  split at h
  · cases h
  · rename_i hb
    unfold vBig at hb
    omega
set_option maxRecDepth 100000 in
set_option maxHeartbeats 700000 in
theorem valueDiffer_v (d : Nat) (x y : VA) (a b : VT) (w : World) (htx : Tree w (fun _ => True) d x a) (hty : Tree w (fun _ => True) d y b) (hfa : Fit d a) (hfb : Fit d b) (hd : d ≤ 900) (hU : Utf8T w) :
    Calls Tryz.prog 7 #[x.val, y.val] w (RDiffer w d (orF (vCheck d a) (vCheck d b)) (difF d a b [])) := by
  have HCH := Lib.hid (fun W (h : New w W) g hb => checks_v d x y a b _ W g hb (htx.new h) (hty.new h) hfa hfb (hU.new h))
  have HDV := Lib.hid (fun (hg : orF (vCheck d a) (vCheck d b) = 0) B db W (h : New w W) hD => df_values d d x y a b none 0 0 [] none 0 0 [] B db W hD (htx.new h) (hty.new h) (Good.of d a htx.deep (vCheck_fault (orF_eq_zero hg).1)) (Good.of d b hty.deep (vCheck_fault (orF_eq_zero hg).2)) hfa hfb Sl.nil (by omega) (Nat.le_refl _) (by
    have h1 := dif_many d a b [] htx.deep hty.deep
    have h2 := check_many (orF_eq_zero hg).1
    have h3 := check_many (orF_eq_zero hg).2
    simp only [List.length_nil]
    omega))
  have HLN := Lib.hid (fun (hg : orF (vCheck d a) (vCheck d b) = 0) => (by
    have h1 := dif_many d a b [] htx.deep hty.deep
    have h2 := check_many (orF_eq_zero hg).1
    have h3 := check_many (orF_eq_zero hg).2
    omega : (difF d a b []).length ≤ 10000))
  clear htx hty hfa hfb hU
  generalize orF (vCheck d a) (vCheck d b) = F at *
  generalize difF d a b [] = L at *
  obtain ⟨xk, xf, xn, xw, xla, xln, xlc, xma, xmn, xmc⟩ := x
  obtain ⟨yk, yf, yn, yw, yla, yln, ylc, yma, ymn, ymc⟩ := y
  have hx := Blk.new w 29 #[.int .i64 xk, .bool xf, .int .i64 xn, .string xw, .slice xla xln xlc, .slice xma xmn xmc]
  have hm1 : New w (w.alloc (.cells #[.int .i64 xk, .bool xf, .int .i64 xn, .string xw, .slice xla xln xlc, .slice xma xmn xmc] 29)) := (Mod.refl _ _).alloc _
  have z1 : (w.alloc (.cells #[.int .i64 xk, .bool xf, .int .i64 xn, .string xw, .slice xla xln xlc, .slice xma xmn xmc] 29)).heap.size = w.heap.size + 1 := by simp
  go_enter Tryz.func7, Tryz.ntmps7
  go_upto_region 1 with (fail)
  generalize w.alloc (.cells #[.int .i64 xk, .bool xf, .int .i64 xn, .string xw, .slice xla xln xlc, .slice xma xmn xmc] 29) = w1 at *
  have hy := Blk.new w1 29 #[.int .i64 yk, .bool yf, .int .i64 yn, .string yw, .slice yla yln ylc, .slice yma ymn ymc]
  have hm2 : New w1 (w1.alloc (.cells #[.int .i64 yk, .bool yf, .int .i64 yn, .string yw, .slice yla yln ylc, .slice yma ymn ymc] 29)) := (Mod.refl _ _).alloc _
  rw [z1] at hy
  generalize w1.alloc (.cells #[.int .i64 yk, .bool yf, .int .i64 yn, .string yw, .slice yla yln ylc, .slice yma ymn ymc] 29) = w2 at *
  have hxx := hx.mod hm2 (fun e => e)
  have HM := Lib.hid (hm1.trans hm2)
  generalize hxb : w.heap.size = xb at *
  generalize xb + 1 = yb at *
  have HX := Lib.hid hxx
  have HY := Lib.hid hy
  clear hx hxx hy hm1 hm2 z1
  have hb3 := Blk.new w2 29 #[.int .i64 xk, .bool xf, .int .i64 xn, .string xw, .slice xla xln xlc, .slice xma xmn xmc, .int .i64 yk, .bool yf, .int .i64 yn, .string yw, .slice yla yln ylc, .slice yma ymn ymc]
  have hm3 : New w2 (w2.alloc (.cells #[.int .i64 xk, .bool xf, .int .i64 xn, .string xw, .slice xla xln xlc, .slice xma xmn xmc, .int .i64 yk, .bool yf, .int .i64 yn, .string yw, .slice yla yln ylc, .slice yma ymn ymc] 29)) := (Mod.refl _ _).alloc _
  have hch := HCH.out _ (HM.out.trans hm3) _ hb3
  have HM3 := Lib.hid hm3
  clear hb3 hm3
  have hxx := HX.out
  have hyy := HY.out
  have e0 := hxx.cell 0
  have e1 := hxx.cell 1
  have e2 := hxx.cell 2
  have e3 := hxx.cell 3
  have e4 := hxx.cell 4
  have e5 := hxx.cell 5
  have el := hxx.lt
  have f0 := hyy.cell 0
  have f1 := hyy.cell 1
  have f2 := hyy.cell 2
  have f3 := hyy.cell 3
  have f4 := hyy.cell 4
  have f5 := hyy.cell 5
  have fl := hyy.lt
  simp only [List.getElem?_toArray, List.getElem?_cons_zero, List.getElem?_cons_succ] at e0 e1 e2 e3 e4 e5 f0 f1 f2 f3 f4 f5
  clear hxx hyy
  go_wp2_with fail
  clear e0 e1 e2 e3 e4 e5 el f0 f1 f2 f3 f4 f5 fl
  refine hch.mono ?_
  clear hch
  rintro e w4 ⟨rfl, m4⟩
  have HM4 := Lib.hid (HM.out.trans (HM3.out.trans m4))
  have HX4 := Lib.hid ((HX.out.mod HM3.out (fun e => e)).mod m4 (fun e => e))
  have HY4 := Lib.hid ((HY.out.mod HM3.out (fun e => e)).mod m4 (fun e => e))
  clear m4 HM3 HX HY HM
  have HX := HX4
  have HY := HY4
  have HM := HM4
  clear HX4 HY4 HM4
  by_cases hz : F = 0
  · subst hz
    have HOF : Hid (orF 0 (difE L) = difE L) := Lib.hid (by unfold orF; simp)
    have hln := HLN.out (by first | trivial | rfl)
    have m5 : New w4 (w4.alloc (.cells #[.slice none 0 0] 60)) := (Mod.refl _ _).alloc _
    have b5 := Blk.new w4 60 #[.slice none 0 0]
    have z5 : (w4.alloc (.cells #[.slice none 0 0] 60)).heap.size = w4.heap.size + 1 := by simp
    have hD5 : DfAt (w4.alloc (.cells #[.slice none 0 0] 60)) (w4.heap.size + 1) w4.heap.size d none 0 0 [] := ⟨b5, ⟨[], Own.nil, trivial⟩, Nat.lt_succ_self _, Nat.le_of_eq z5.symm⟩
    have HDB : Hid (w.heap.size ≤ w4.heap.size) := Lib.hid HM.out.size
    have HX5 := Lib.hid (HX.out.mod m5 (fun e => e))
    have HY5 := Lib.hid (HY.out.mod m5 (fun e => e))
    go_upto_region 5 with (fail)
    generalize w4.alloc (.cells #[.slice none 0 0] 60) = w5 at *
    generalize w4.heap.size = db at *
    have hdv := HDV.out (by first | trivial | rfl) (db + 1) db w5 (HM.out.trans m5) hD5
    have HM5 := Lib.hid (HM.out.trans m5)
    rw [List.nil_append] at hdv
    clear hD5 b5 z5 m5 HX HY
    have HX := HX5
    have HY := HY5
    have hxx := HX.out
    have hyy := HY.out
    have e0 := hxx.cell 0
    have e1 := hxx.cell 1
    have e2 := hxx.cell 2
    have e3 := hxx.cell 3
    have e4 := hxx.cell 4
    have e5 := hxx.cell 5
    have el := hxx.lt
    have f0 := hyy.cell 0
    have f1 := hyy.cell 1
    have f2 := hyy.cell 2
    have f3 := hyy.cell 3
    have f4 := hyy.cell 4
    have f5 := hyy.cell 5
    have fl := hyy.lt
    simp only [List.getElem?_toArray, List.getElem?_cons_zero, List.getElem?_cons_succ] at e0 e1 e2 e3 e4 e5 f0 f1 f2 f3 f4 f5
    clear hxx hyy
    go_wp2_with fail
    clear e0 e1 e2 e3 e4 e5 el f0 f1 f2 f3 f4 f5 fl
    refine hdv.mono ?_
    clear hdv
    rintro e w6 ⟨rfl, A6, n6, c6, h6, mod6, -⟩
    have hn6 := h6.len
    have HNW : Hid (New w w6) := Lib.hid (HM5.out.step mod6 (fun i hi e => by
      rcases e with e | e
      · have := HDB.out; omega
      · cases e))
    obtain ⟨qs, hown, hal⟩ := h6.row
    have HS := Lib.hid hown.sl
    have HA := Lib.hid hal
    have HBD := Lib.hid h6.blk
    have g0 := h6.blk.cell 0
    have gl := h6.blk.lt
    simp only [List.getElem?_toArray, List.getElem?_cons_zero] at g0
    have HN6 := Lib.hid hn6
    have hn7 : n6 ≤ 10000 := by omega
    clear h6 mod6 hown hal hn6 hln
    by_cases h5 : 5000 < n6
    · have h5b : (5000 : Int) < n6 := by omega
      have HE : Hid (difE L = 2) := Lib.hid (by unfold difE; rw [if_pos (by have := HN6.out; omega)])
      clear h5
      go_wp2_with fail
      refine bodyPost_ret (v := .tuple #[.slice none 0 0, .int .i64 2]) (by simp [results, Tryz.results7, go_sem]) rfl ?_
      exact ⟨HNW.out, none, 0, 0, qs, by rw [HOF.out, HE.out], fun _ => rfl, fun h => by rw [HOF.out, HE.out] at h; cases h⟩
    · have h5b : ¬ (5000 : Int) < n6 := by omega
      have hcl := contains_long 28 enters_differ1 d w6 A6 n6 c6 qs L HS.out HA.out long_differ (by omega)
      have HE : Hid (difE L = if longB L = true then 2 else 0) := Lib.hid (by unfold difE; rw [if_neg (by have := HN6.out; omega)])
      clear h5
      go_wp2_with fail
      refine hcl.mono ?_
      clear hcl
      rintro e w7 ⟨rfl, m7⟩
      have HN7 := Lib.hid (HNW.out.trans m7)
      have HS7 := Lib.hid (HS.out.new m7)
      have HA7 := Lib.hid (Al.imp (fun _ _ h => ChT.new h m7) HA.out)
      have HDF : Hid (Blk w7 db 60 #[.slice A6 n6 c6]) := Lib.hid (HBD.out.mod m7 (fun e => e))
      clear g0 gl m7 HN6
      have g0 := HDF.out.cell 0
      have gl := HDF.out.lt
      simp only [List.getElem?_toArray, List.getElem?_cons_zero] at g0
      cases hlb : longB L with
      | true =>
        have HE2 : Hid (difE L = 2) := Lib.hid (by rw [HE.out, hlb]; rfl)
        clear hlb
        go_wp2_with fail
        refine bodyPost_ret (v := .tuple #[.slice none 0 0, .int .i64 2]) (by simp [results, Tryz.results7, go_sem]) rfl ?_
        exact ⟨HN7.out, none, 0, 0, qs, by rw [HOF.out, HE2.out], fun _ => rfl, fun h => by rw [HOF.out, HE2.out] at h; cases h⟩
      | false =>
        have HE2 : Hid (difE L = 0) := Lib.hid (by rw [HE.out, hlb]; rfl)
        clear hlb
        go_wp2_with fail
        refine bodyPost_ret (v := .tuple #[.slice A6 n6 c6, .int .i64 0]) (by simp [results, Tryz.results7, go_sem]) rfl ?_
        exact ⟨HN7.out, A6, n6, c6, qs, by rw [HOF.out, HE2.out], fun h => by rw [HOF.out, HE2.out] at h; exact absurd rfl h, fun _ => ⟨HS7.out, HA7.out⟩⟩
  · have hzb : (F != 0) = true := by simpa using hz
    have HOF : Hid (orF F (difE L) = F) := Lib.hid (by unfold orF; simp [hz])
    have HNZ : Hid (orF F (difE L) ≠ 0) := Lib.hid (by rw [HOF.out]; exact hz)
    clear hz
    go_wp2_with fail
    refine bodyPost_ret (v := .tuple #[.slice none 0 0, .int .i64 F]) (by simp [results, Tryz.results7, go_sem]) rfl ?_
    exact ⟨HM.out, none, 0, 0, [], by rw [HOF.out], fun _ => rfl, fun h => absurd h HNZ.out⟩
end Go.Proofs.YtjfgfkbgbhbhjaaGreatDoor
