/- Comparing two values: the reference's Order. Conditions: the values stand in memory as trees. -/
import Derived.Test.YtjnbjianfbfdaaaDoorValE
import Derived.Test.YtjnbjianfbfdaaaDoorMaps
namespace Go.Proofs.YtjnbjianfbfdaaaDoor
open Go.RowKit Go.MapKept
set_option linter.unusedVariables false
set_option linter.unusedSimpArgs false

def boolKeys : Keys Bool := ⟨Value.bool, .bool, fun a b h => by injection h, fun _ => trivial⟩
theorem zero_int (w : World) : (zeroValue 3).run Tryd.prog w = .ok (.int .i64 0) w := by kernel_rfl
theorem fz_kind (a b c d e f : Int) : fz [a, b, c, d, e, f] = if a ≠ 0 then a else fz [b, c, d, e, f] := by
  simp only [fz]
theorem compareInt_eq (a b : Int) : Lib.compareInt a b = 0 ↔ a = b := by
  unfold Lib.compareInt
  constructor
  · intro h
    split at h
    · cases h
    · split at h
      · cases h
      · omega
  · rintro rfl; simp

set_option maxRecDepth 100000 in
set_option maxHeartbeats 1500000 in
theorem order_v (d : Nat) : CmpSpec2 d := by
  induction d with
  | zero => intro x y v u G w ht; exact ht.elim
  | succ d ih =>
    intro x y v u G w ht1 ht2 hf1 hf2
    obtain ⟨xs, ms, hxs, hxl, hxt, hms, hml, hmt⟩ := ht1.rows
    obtain ⟨ys, ns, hys, hyl, hyt, hns, hnl, hnt⟩ := ht2.rows
    have hp1 := hf1.parts
    have hp2 := hf2.parts
    have hL := fun W (h : New w W) => compareFunc_val 14 enters_order (vCmp d) v.list u.list x.la y.la x.ln x.lc y.ln y.lc xs ys W (hxs.sl.new h) (hys.sl.new h) (by rw [← hxl]; exact hxs.1) (by rw [← hyl]; exact hys.1) (by have := hxs.1; omega) (by have := hys.1; omega)
      (fun i a1 a2 a3 a4 W' hW' => ih xs[i] ys[i] v.list[i] u.list[i] G W' ((hxt i a1 a3).new (h.trans hW')) ((hyt i a2 a4).new (h.trans hW')) (hf1.item a3) (hf2.item a4))
    have hM := fun W (h : New w W) => compareFunc_mem 39 enters_order1 (fun p q : ByteArray × VT => fz [cmpB p.1 q.1, vCmp d p.2 q.2]) v.mem u.mem x.ma y.ma x.mn x.mc y.mn y.mc ms ns W (hms.sl.new h) (hns.sl.new h) (by rw [← hml]; exact hms.1) (by rw [← hnl]; exact hns.1) (by have := hms.1; omega) (by have := hns.1; omega)
      (fun i a1 a2 a3 a4 W' hW' => cmpMember_2 d ih ms[i] ns[i] v.mem[i] u.mem[i] G W' (hmt i a1 a3).1 (hnt i a2 a4).1 ((hmt i a1 a3).2.new (h.trans hW')) ((hnt i a2 a4).2.new (h.trans hW')) (hf1.member a3).1 (hf2.member a4).1)
    have HV : Hid (vCmp (d + 1) v u = fz [Lib.compareInt v.kind u.kind, Lib.compareInt (flagN v.flag) (flagN u.flag), Lib.compareInt v.num u.num, cmpB v.words u.words, cmpL (vCmp d) v.list u.list, cmpL (fun p q : ByteArray × VT => fz [cmpB p.1 q.1, vCmp d p.2 q.2]) v.mem u.mem]) := Lib.hid rfl
    obtain ⟨g1, g2, g3, g4, -, -⟩ := ht1.fields
    obtain ⟨k1, k2, k3, k4, -, -⟩ := ht2.fields
    have HV2 : Hid (vCmp (d + 1) v u = if Lib.compareInt x.kind y.kind ≠ 0 then Lib.compareInt x.kind y.kind else fz [Lib.compareInt (flagN x.flag) (flagN y.flag), Lib.compareInt x.num y.num, Lib.compareBytes x.words.data.toList y.words.data.toList, cmpL (vCmp d) v.list u.list, cmpL (fun p q : ByteArray × VT => fz [cmpB p.1 q.1, vCmp d p.2 q.2]) v.mem u.mem]) := Lib.hid (by
      rw [HV.out, fz_kind, g1, g2, g3, g4, k1, k2, k3, k4]; rfl)
    have hsc := fun W => Tryd.strings_Compare x.words y.words W
    have hk := fun W => Tryd.cmp_Compare_int x.kind y.kind W
    have hn := fun W => Tryd.cmp_Compare_int x.num y.num W
    have hfl := fun W => Tryd.cmp_Compare_int (flagN x.flag) (flagN y.flag) W
    have hke := Lib.hid (compareInt_eq x.kind y.kind)
    clear HV ht1 ht2 hf1 hf2 hxs hxl hxt hms hml hmt hys hyl hyt hns hnl hnt hp1 hp2 g1 g2 g3 g4 k1 k2 k3 k4 ih
    obtain ⟨xk, xf, xn, xw, xla, xln, xlc, xma, xmn, xmc⟩ := x
    obtain ⟨yk, yf, yn, yw, yla, yln, ylc, yma, ymn, ymc⟩ := y
    simp only at hL hM HV2 hsc hk hn hfl hke
    generalize vCmp (d + 1) v u = R at *
    generalize cmpL (vCmp d) v.list u.list = L at *
    generalize cmpL (fun p q : ByteArray × VT => fz [cmpB p.1 q.1, vCmp d p.2 q.2]) v.mem u.mem = M at *
    generalize Lib.compareInt xk yk = z1 at *
    generalize Lib.compareInt (flagN xf) (flagN yf) = z2 at *
    generalize Lib.compareInt xn yn = z3 at *
    generalize Lib.compareBytes xw.data.toList yw.data.toList = z4 at *
    have HLL := Lib.hid hL
    have HMM := Lib.hid hM
    have HFL := Lib.hid hfl
    clear hL hM hfl
    have hx := Blk.new w 29 #[.int .i64 xk, .bool xf, .int .i64 xn, .string xw, .slice xla xln xlc, .slice xma xmn xmc]
    have hm1 : New w (w.alloc (.cells #[.int .i64 xk, .bool xf, .int .i64 xn, .string xw, .slice xla xln xlc, .slice xma xmn xmc] 29)) := (Mod.refl _ _).alloc _
    have hy := Blk.new (w.alloc (.cells #[.int .i64 xk, .bool xf, .int .i64 xn, .string xw, .slice xla xln xlc, .slice xma xmn xmc] 29)) 29 #[.int .i64 yk, .bool yf, .int .i64 yn, .string yw, .slice yla yln ylc, .slice yma ymn ymc]
    have hm2 : New (w.alloc (.cells #[.int .i64 xk, .bool xf, .int .i64 xn, .string xw, .slice xla xln xlc, .slice xma xmn xmc] 29)) ((w.alloc (.cells #[.int .i64 xk, .bool xf, .int .i64 xn, .string xw, .slice xla xln xlc, .slice xma xmn xmc] 29)).alloc (.cells #[.int .i64 yk, .bool yf, .int .i64 yn, .string yw, .slice yla yln ylc, .slice yma ymn ymc] 29)) := (Mod.refl _ _).alloc _
    go_enter Tryd.func14, Tryd.ntmps14
    go_upto_region 1 with (fail)
    rw [show (w.alloc (.cells #[.int .i64 xk, .bool xf, .int .i64 xn, .string xw, .slice xla xln xlc, .slice xma xmn xmc] 29)).heap.size = w.heap.size + 1 by simp] at hy
    generalize w.alloc (.cells #[.int .i64 xk, .bool xf, .int .i64 xn, .string xw, .slice xla xln xlc, .slice xma xmn xmc] 29) = w1 at *
    generalize w1.alloc (.cells #[.int .i64 yk, .bool yf, .int .i64 yn, .string yw, .slice yla yln ylc, .slice yma ymn ymc] 29) = w2 at *
    have hx2 := hx.mod hm2 (fun e => e)
    generalize w.heap.size = xb at *
    generalize xb + 1 = yb at *
    have HM2 := Lib.hid (hm1.trans hm2)
    have HX2 := Lib.hid hx2
    have HY2 := Lib.hid hy
    clear hx hx2 hy hm1 hm2
    have e0 := HX2.out.cell 0
    have el := HX2.out.lt
    have f0 := HY2.out.cell 0
    have fl := HY2.out.lt
    simp only [List.getElem?_toArray, List.getElem?_cons_zero] at e0 f0
    by_cases hkk : xk = yk
    · have hkb : (xk != yk) = false := by simpa using hkk
      have HR1 : Hid (R = fz [z2, z3, z4, L, M]) := Lib.hid (by rw [HV2.out, if_neg (by simp [hke.out.2 hkk])])
      clear hkk hk hke HV2
      have hmade : MapOf boolKeys (w2.alloc (.map #[] 0)) w2.heap.size [] := MapOf.made (heap_alloc_new w2 _)
      have hmm := @run_makeMap Tryd.prog
      obtain ⟨w3, hins, hmap, honly, hz3⟩ := run_mapUpdate (P := Tryd.prog) (t := 67) Tryd.underlying67 Tryd.underlying4 hmade true (.int .i64 1)
      have hm3 : New w2 w3 := ((Mod.refl (fun _ => False) w2).alloc (.map #[] 0)).step honly (fun i hi e => by subst e; exact absurd hi (Nat.lt_irrefl _))
      simp only [boolKeys] at hins
      have HINS := hins
      clear hmade honly hz3
      go_upto_region 4 with (fail)
      clear hins HINS hmm e0 el f0 fl
      generalize w2.heap.size = mb at *
      have hS : ∀ W, New w3 W → (W.cell? ⟨xb, 0, none⟩ = some (.int .i64 xk) ∧ W.cell? ⟨xb, 1, none⟩ = some (.bool xf) ∧ W.cell? ⟨xb, 2, none⟩ = some (.int .i64 xn) ∧ W.cell? ⟨xb, 3, none⟩ = some (.string xw) ∧ W.cell? ⟨xb, 4, none⟩ = some (.slice xla xln xlc) ∧ W.cell? ⟨xb, 5, none⟩ = some (.slice xma xmn xmc) ∧ xb < W.heap.size ∧
          W.cell? ⟨yb, 0, none⟩ = some (.int .i64 yk) ∧ W.cell? ⟨yb, 1, none⟩ = some (.bool yf) ∧ W.cell? ⟨yb, 2, none⟩ = some (.int .i64 yn) ∧ W.cell? ⟨yb, 3, none⟩ = some (.string yw) ∧ W.cell? ⟨yb, 4, none⟩ = some (.slice yla yln ylc) ∧ W.cell? ⟨yb, 5, none⟩ = some (.slice yma ymn ymc) ∧ yb < W.heap.size ∧
          ∀ b : Bool, (Instr.lookup 67 (.map (some mb)) (.bool b) false).run Tryd.prog W = .ok (.int .i64 (flagN b)) W) := fun W hW => by
        have hb := (HX2.out.mod hm3 (fun e => e)).mod hW (fun e => e)
        have hc := (HY2.out.mod hm3 (fun e => e)).mod hW (fun e => e)
        have hmW := hmap.mod hW (fun e => e)
        refine ⟨(hb.cell 0).trans rfl, (hb.cell 1).trans rfl, (hb.cell 2).trans rfl, (hb.cell 3).trans rfl, (hb.cell 4).trans rfl, (hb.cell 5).trans rfl, hb.lt, (hc.cell 0).trans rfl, (hc.cell 1).trans rfl, (hc.cell 2).trans rfl, (hc.cell 3).trans rfl, (hc.cell 4).trans rfl, (hc.cell 5).trans rfl, hc.lt, fun b => ?_⟩
        have := run_lookup (P := Tryd.prog) (t := 67) Tryd.underlying67 Tryd.underlying4 (zero_int W) hmW b
        simp only [boolKeys] at this
        rw [this]
        cases b <;> rfl
      have HS := Lib.hid hS
      have HM3 := Lib.hid (HM2.out.trans hm3)
      clear hS hmap hm3 HX2 HY2 HM2
      refine wp_region_held_ord (fun W => W.cell? ⟨xb, 0, none⟩ = some (.int .i64 xk) ∧ W.cell? ⟨xb, 1, none⟩ = some (.bool xf) ∧ W.cell? ⟨xb, 2, none⟩ = some (.int .i64 xn) ∧ W.cell? ⟨xb, 3, none⟩ = some (.string xw) ∧ W.cell? ⟨xb, 4, none⟩ = some (.slice xla xln xlc) ∧ W.cell? ⟨xb, 5, none⟩ = some (.slice xma xmn xmc) ∧ xb < W.heap.size ∧ W.cell? ⟨yb, 0, none⟩ = some (.int .i64 yk) ∧ W.cell? ⟨yb, 1, none⟩ = some (.bool yf) ∧ W.cell? ⟨yb, 2, none⟩ = some (.int .i64 yn) ∧ W.cell? ⟨yb, 3, none⟩ = some (.string yw) ∧ W.cell? ⟨yb, 4, none⟩ = some (.slice yla yln ylc) ∧ W.cell? ⟨yb, 5, none⟩ = some (.slice yma ymn ymc) ∧ yb < W.heap.size ∧ ∀ b : Bool, (Instr.lookup 67 (.map (some mb)) (.bool b) false).run Tryd.prog W = .ok (.int .i64 (flagN b)) W) [8, 13, 18, 23, 28, 29, 30] [0, 1, 2, 3, 4, 5, 6, 7, 9, 10, 11, 12, 14, 15, 16, 17, 19, 20, 21, 22, 24, 25, 26, 27, 8, 13, 18, 23, 28, 29, 30] (by kernel_rfl) (by kernel_rfl) (fun _ _ d _ _ h => by cases d <;> exact h) ?_ (fun hHeld => ?_)
      · exact HS.out _ (Mod.refl _ _).drew
      simp only [List.length_cons, List.length_nil, List.drop_succ_cons, List.drop_zero]
      refine heldO_take ?_ (by rfl) (by rfl) (by rfl) (fun w hSw => ?_) ?_
      rotate_left
      · (try dsimp only at hSw); go_simp; any_goals (with_reducible rfl)
      simp only [Act.put, List.setIfInBounds_toArray, List.set_cons_zero, List.set_cons_succ]
      refine heldO_take ?_ (by rfl) (by rfl) (by rfl) (fun w hSw => ?_) ?_
      rotate_left
      · (try dsimp only at hSw); go_simp; any_goals (with_reducible rfl)
      simp only [Act.put, List.setIfInBounds_toArray, List.set_cons_zero, List.set_cons_succ]
      refine heldO_take ?_ (by rfl) (by rfl) (by rfl) (fun w hSw => ?_) ?_
      rotate_left
      · (try dsimp only at hSw); go_simp; any_goals (with_reducible rfl)
      simp only [Act.put, List.setIfInBounds_toArray, List.set_cons_zero, List.set_cons_succ]
      refine heldO_take ?_ (by rfl) (by rfl) (by rfl) (fun w hSw => ?_) ?_
      rotate_left
      · (try dsimp only at hSw); go_simp; any_goals (with_reducible rfl)
      simp only [Act.put, List.setIfInBounds_toArray, List.set_cons_zero, List.set_cons_succ]
      refine heldO_take ?_ (by rfl) (by rfl) (by rfl) (fun w hSw => ?_) ?_
      rotate_left
      · (try dsimp only at hSw); go_simp; any_goals (with_reducible rfl)
      simp only [Act.put, List.setIfInBounds_toArray, List.set_cons_zero, List.set_cons_succ]
      refine heldO_take ?_ (by rfl) (by rfl) (by rfl) (fun w hSw => ?_) ?_
      rotate_left
      · (try dsimp only at hSw); go_simp; any_goals (with_reducible rfl)
      simp only [Act.put, List.setIfInBounds_toArray, List.set_cons_zero, List.set_cons_succ]
      refine heldO_take ?_ (by rfl) (by rfl) (by rfl) (fun w hSw => ?_) ?_
      rotate_left
      · (try dsimp only at hSw); go_simp; any_goals (with_reducible rfl)
      simp only [Act.put, List.setIfInBounds_toArray, List.set_cons_zero, List.set_cons_succ]
      refine heldO_take ?_ (by rfl) (by rfl) (by rfl) (fun w hSw => ?_) ?_
      rotate_left
      · (try dsimp only at hSw); go_simp; any_goals (with_reducible rfl)
      simp only [Act.put, List.setIfInBounds_toArray, List.set_cons_zero, List.set_cons_succ]
      refine heldO_take ?_ (by rfl) (by rfl) (by rfl) (fun w hSw => ?_) ?_
      rotate_left
      · (try dsimp only at hSw); go_simp; any_goals (with_reducible rfl)
      simp only [Act.put, List.setIfInBounds_toArray, List.set_cons_zero, List.set_cons_succ]
      refine heldO_take ?_ (by rfl) (by rfl) (by rfl) (fun w hSw => ?_) ?_
      rotate_left
      · (try dsimp only at hSw); go_simp; any_goals (with_reducible rfl)
      simp only [Act.put, List.setIfInBounds_toArray, List.set_cons_zero, List.set_cons_succ]
      refine heldO_take ?_ (by rfl) (by rfl) (by rfl) (fun w hSw => ?_) ?_
      rotate_left
      · (try dsimp only at hSw); go_simp; any_goals (with_reducible rfl)
      simp only [Act.put, List.setIfInBounds_toArray, List.set_cons_zero, List.set_cons_succ]
      refine heldO_take ?_ (by rfl) (by rfl) (by rfl) (fun w hSw => ?_) ?_
      rotate_left
      · (try dsimp only at hSw); go_simp; any_goals (with_reducible rfl)
      simp only [Act.put, List.setIfInBounds_toArray, List.set_cons_zero, List.set_cons_succ]
      refine heldO_take ?_ (by rfl) (by rfl) (by rfl) (fun w hSw => ?_) ?_
      rotate_left
      · (try dsimp only at hSw); go_simp; any_goals (with_reducible rfl)
      simp only [Act.put, List.setIfInBounds_toArray, List.set_cons_zero, List.set_cons_succ]
      refine heldO_take ?_ (by rfl) (by rfl) (by rfl) (fun w hSw => ?_) ?_
      rotate_left
      · (try dsimp only at hSw); go_simp; any_goals (with_reducible rfl)
      simp only [Act.put, List.setIfInBounds_toArray, List.set_cons_zero, List.set_cons_succ]
      refine heldO_take ?_ (by rfl) (by rfl) (by rfl) (fun w hSw => ?_) ?_
      rotate_left
      · (try dsimp only at hSw); go_simp; any_goals (with_reducible rfl)
      simp only [Act.put, List.setIfInBounds_toArray, List.set_cons_zero, List.set_cons_succ]
      refine heldO_take ?_ (by rfl) (by rfl) (by rfl) (fun w hSw => ?_) ?_
      rotate_left
      · (try dsimp only at hSw); go_simp; any_goals (with_reducible rfl)
      simp only [Act.put, List.setIfInBounds_toArray, List.set_cons_zero, List.set_cons_succ]
      refine heldO_take ?_ (by rfl) (by rfl) (by rfl) (fun w hSw => ?_) ?_
      rotate_left
      · (try dsimp only at hSw); go_simp; any_goals (with_reducible rfl)
      simp only [Act.put, List.setIfInBounds_toArray, List.set_cons_zero, List.set_cons_succ]
      refine heldO_take ?_ (by rfl) (by rfl) (by rfl) (fun w hSw => ?_) ?_
      rotate_left
      · (try dsimp only at hSw); go_simp; any_goals (with_reducible rfl)
      simp only [Act.put, List.setIfInBounds_toArray, List.set_cons_zero, List.set_cons_succ]
      refine heldO_take ?_ (by rfl) (by rfl) (by rfl) (fun w hSw => ?_) ?_
      rotate_left
      · (try dsimp only at hSw); go_simp; any_goals (with_reducible rfl)
      simp only [Act.put, List.setIfInBounds_toArray, List.set_cons_zero, List.set_cons_succ]
      refine heldO_take ?_ (by rfl) (by rfl) (by rfl) (fun w hSw => ?_) ?_
      rotate_left
      · (try dsimp only at hSw); go_simp; any_goals (with_reducible rfl)
      simp only [Act.put, List.setIfInBounds_toArray, List.set_cons_zero, List.set_cons_succ]
      refine heldO_take ?_ (by rfl) (by rfl) (by rfl) (fun w hSw => ?_) ?_
      rotate_left
      · (try dsimp only at hSw); go_simp; any_goals (with_reducible rfl)
      simp only [Act.put, List.setIfInBounds_toArray, List.set_cons_zero, List.set_cons_succ]
      refine heldO_take ?_ (by rfl) (by rfl) (by rfl) (fun w hSw => ?_) ?_
      rotate_left
      · (try dsimp only at hSw); go_simp; any_goals (with_reducible rfl)
      simp only [Act.put, List.setIfInBounds_toArray, List.set_cons_zero, List.set_cons_succ]
      refine heldO_take ?_ (by rfl) (by rfl) (by rfl) (fun w hSw => ?_) ?_
      rotate_left
      · (try dsimp only at hSw); go_simp; any_goals (with_reducible rfl)
      simp only [Act.put, List.setIfInBounds_toArray, List.set_cons_zero, List.set_cons_succ]
      refine heldO_take ?_ (by rfl) (by rfl) (by rfl) (fun w hSw => ?_) ?_
      rotate_left
      · (try dsimp only at hSw); go_simp; any_goals (with_reducible rfl)
      simp only [Act.put, List.setIfInBounds_toArray, List.set_cons_zero, List.set_cons_succ]
      have m3 : New w3 w3.drew := (Mod.refl (fun _ => False) w3).drew
      refine heldO_step (by rfl) (by rfl) (by rfl) (fun K hK => ?_)
      go_simp
      refine (HFL.out _).mono ?_
      rintro e w4 ⟨rfl, rfl⟩
      go_wp2_with fail
      refine hK.out _ _ (HS.out _ m3) (fun hHeld => ?_)
      clear hK K
      try simp only [Act.put, List.setIfInBounds_toArray, List.set_cons_zero, List.set_cons_succ]
      refine heldO_step (by rfl) (by rfl) (by rfl) (fun K hK => ?_)
      go_simp
      refine (hn _).mono ?_
      rintro e w4 ⟨rfl, rfl⟩
      go_wp2_with fail
      refine hK.out _ _ (HS.out _ m3) (fun hHeld => ?_)
      clear hK K
      try simp only [Act.put, List.setIfInBounds_toArray, List.set_cons_zero, List.set_cons_succ]
      refine heldO_step (by rfl) (by rfl) (by rfl) (fun K hK => ?_)
      go_simp
      refine (hsc _).mono ?_
      rintro e w4 ⟨rfl, rfl⟩
      go_wp2_with fail
      refine hK.out _ _ (HS.out _ m3) (fun hHeld => ?_)
      clear hK K
      try simp only [Act.put, List.setIfInBounds_toArray, List.set_cons_zero, List.set_cons_succ]
      refine heldO_step (by rfl) (by rfl) (by rfl) (fun K hK => ?_)
      go_simp
      refine (HLL.out _ (HM3.out.trans m3)).mono ?_
      rintro e w4 ⟨rfl, hm4⟩
      have m4 := m3.trans hm4
      clear hm4
      go_wp2_with fail
      refine hK.out _ _ (HS.out _ m4) (fun hHeld => ?_)
      clear hK K
      try simp only [Act.put, List.setIfInBounds_toArray, List.set_cons_zero, List.set_cons_succ]
      refine heldO_step (by rfl) (by rfl) (by rfl) (fun K hK => ?_)
      go_simp
      refine (HMM.out _ (HM3.out.trans m4)).mono ?_
      rintro e w5 ⟨rfl, hm5⟩
      have m5 := m4.trans hm5
      clear hm5
      go_wp2_with fail
      refine hK.out _ _ (HS.out _ m5) (fun hHeld => ?_)
      clear hK K
      try simp only [Act.put, List.setIfInBounds_toArray, List.set_cons_zero, List.set_cons_succ]
      refine heldO_step (by rfl) (by rfl) (by rfl) (fun K hK => ?_)
      go_simp
      have m6 := m5.alloc (.cells #[.int .i64 z2, .int .i64 z3, .int .i64 z4, .int .i64 L, .int .i64 M] 3)
      have b6 := Blk.new w5 3 #[.int .i64 z2, .int .i64 z3, .int .i64 z4, .int .i64 L, .int .i64 M]
      have hor := cmpOrI_any [z2, z3, z4, L, M] w5.heap.size 5 _ b6 rfl (by omega)
      refine hK.out _ _ (HS.out _ m6) (fun hHeld => ?_)
      clear hK K b6
      try simp only [Act.put, List.setIfInBounds_toArray, List.set_cons_zero, List.set_cons_succ]
      rw [← HR1.out] at hor
      refine heldO_step (by rfl) (by rfl) (by rfl) (fun K hK => ?_)
      go_simp
      refine hor.mono ?_
      clear hor
      rintro e w7 ⟨rfl, rfl⟩
      go_wp2_with fail
      refine hK.out _ _ (HS.out _ m6) (fun hHeld => ?_)
      clear hK K
      try simp only [Act.put, List.setIfInBounds_toArray, List.set_cons_zero, List.set_cons_succ]
      refine heldO_nil ?_
      go_wp2_with fail
      go_ret
      exact ⟨ret_int rfl, HM3.out.trans m6⟩
    · have hkb : (xk != yk) = true := by simpa using hkk
      have HR1 : Hid (R = z1) := Lib.hid (by rw [HV2.out, if_pos (fun h => hkk (hke.out.1 h))])
      clear hkk hke HV2
      go_wp2_with fail
      refine (hk _).mono ?_
      rintro e w3 ⟨rfl, rfl⟩
      go_wp2_with fail
      go_ret
      exact ⟨ret_int HR1.out.symm, HM2.out⟩

end Go.Proofs.YtjnbjianfbfdaaaDoor
