/- How large a value is: the reference's. Conditions: the value stands in memory as a tree. -/
import Derived.Test.YtahofcopedlenaaGreatDoorValClone
namespace Go.Proofs.YtahofcopedlenaaGreatDoor
open Go.RowKit
set_option linter.unusedVariables false
set_option linter.unusedSimpArgs false

/-- all that is in a value, in one row -/
theorem Tree.kids {w : World} {G : Nat → Prop} {d : Nat} {x : VA} {v : VT} (h : Tree w G (d + 1) x v) :
    ∃ (xs : List VA) (ms : List MA), Sl w 29 6 VA.enc x.la x.ln xs ∧ Sl w 49 7 MA.enc x.ma x.mn ms ∧ (xs ++ ms.map (·.v)).length = v.kids.length ∧
      ∀ i (h : i < (xs ++ ms.map (·.v)).length) (h' : i < v.kids.length), Tree w G d (xs ++ ms.map (·.v))[i] v.kids[i] := by
  obtain ⟨vs, ps, rfl, ⟨xs, h1, h2, h3⟩, ⟨ms, h4, h5, h6⟩⟩ := h
  refine ⟨xs, ms, h1.sl, h4.sl, by simp [VT.kids, VT.list, VT.mem, h2, h5], fun i hi hi' => ?_⟩
  have hk : (VT.mk x.kind x.flag x.num x.words vs ps).kids = vs ++ ps.map (·.2) := rfl
  simp only [hk] at hi' ⊢
  by_cases hc : i < xs.length
  · rw [List.getElem_append_left hc, List.getElem_append_left (by omega)]
    exact h3 i hc (by omega)
  · rw [List.getElem_append_right (by omega), List.getElem_append_right (by omega)]
    simp only [List.length_append, List.length_map] at hi hi'
    simp only [List.getElem_map, h2]
    exact (h6 (i - vs.length) (by omega) (by omega)).2
theorem vMany_kids (d : Nat) (v : VT) : vMany (d + 1) v = 1 + (v.kids.map (vMany d)).sum := by
  simp only [vMany, VT.kids, List.map_append, List.sum_append, List.map_map]
  rfl
theorem vDeep_kids (d : Nat) (v : VT) : vDeep (d + 1) v = 1 + maxL (v.kids.map (vDeep d)) := by
  simp only [vDeep, VT.kids, List.map_append, maxL_append, List.map_map]
  rfl
theorem vW_kid (d : Nat) (v : VT) {i : Nat} (h : i < v.kids.length) : vW d v.kids[i] ≤ vW (d + 1) v := by
  have hk : v.kids = v.list ++ v.mem.map (·.2) := rfl
  simp only [hk] at h ⊢
  by_cases hc : i < v.list.length
  · rw [List.getElem_append_left hc]
    exact vW_item d v hc
  · rw [List.getElem_append_right (by omega)]
    simp only [List.length_append, List.length_map] at h
    simp only [List.getElem_map]
    exact Nat.le_trans (Nat.le_add_right _ _) (vW_member d v (by omega))

set_option maxRecDepth 100000 in
set_option maxHeartbeats 4000000 in
theorem sizeOf_v (d : Nat) : ∀ (x : VA) (v : VT) (G : Nat → Prop) (w : World), Tree w G d x v → Fit d v → d ≤ 1000 →
    Calls Tryz.prog 23 #[x.val] w fun e w' => e = .returned (.tuple #[.int .i64 (vMany d v : Nat), .int .i64 (vDeep d v : Nat)]) ∧ New w w' := by
  induction d with
  | zero => intro x v G w ht; exact ht.elim
  | succ d ih =>
    intro x v G w ht hW hd
    have hwp := hW.parts
    have hMW := Nat.le_trans (vMany_le (d + 1) v) hW.1
    have HWK := Lib.hid (fun i (h : i < v.kids.length) => hW.kid h)
    obtain ⟨xs, ms, hxs, hms, hKL, hKT⟩ := ht.kids
    obtain ⟨-, -, -, -, hln, hmn⟩ := ht.fields
    have HIH := Lib.hid ih
    have HMK := Lib.hid (vMany_kids d v)
    have HDK := Lib.hid (vDeep_kids d v)
    have hdd := vDeep_le (d + 1) v
    obtain ⟨kind, flag, num, words, la, ln, lc, ma, mn, mc⟩ := x
    simp only at hln hmn hxs hms
    have HXS := Lib.hid hxs
    have HMS := Lib.hid hms
    have hxl := hxs.1
    have hml := hms.1
    have hb1 : ln ≤ 200000 := by omega
    have hb2 : mn ≤ 200000 := by omega
    have hM : vMany (d + 1) v ≤ 1000000000 := by omega
    have hKn : v.kids.length = ln + mn := by rw [← hKL]; simp; omega
    have HKT := Lib.hid hKT
    have HKL := Lib.hid hKL
    have HXL := Lib.hid hxl
    have HML := Lib.hid hml
    have HKN := Lib.hid hKn
    clear hwp hMW hW ht hxs hms hln hmn ih hKT hKL hxl hml hKn
    generalize vMany (d + 1) v = M at *
    generalize vDeep (d + 1) v = D at *
    generalize v.kids = KV at *
    have hx := Blk.new w 29 #[.int .i64 kind, .bool flag, .int .i64 num, .string words, .slice la ln lc, .slice ma mn mc]
    have hm1 : New w (w.alloc (.cells #[.int .i64 kind, .bool flag, .int .i64 num, .string words, .slice la ln lc, .slice ma mn mc] 29)) := (Mod.refl _ _).alloc _
    go_enter Tryz.func23, Tryz.ntmps23
    go_upto_region 1 with (fail)
    generalize w.alloc (.cells #[.int .i64 kind, .bool flag, .int .i64 num, .string words, .slice la ln lc, .slice ma mn mc] 29) = w1 at *
    have hsz1 := hm1.size
    generalize hxb : w.heap.size = xb at *
    have e4 := hx.cell 4
    have el := hx.lt
    simp only [List.getElem?_toArray, List.getElem?_cons_zero, List.getElem?_cons_succ] at e4
    have hcl := cloneVA xs la ln lc w1 (HXS.out.new hm1) hb1
    have HX := Lib.hid hx
    have HM1 := Lib.hid hm1
    clear hx hm1 hsz1
    go_wp2_with fail
    refine hcl.mono ?_
    clear hcl
    rintro e w2 ⟨A0, cc0, rfl, hown, m2⟩
    have hx2 := HX.out.mod m2 (fun e => e)
    clear e4 el
    have e5 := hx2.cell 5
    have el := hx2.lt
    simp only [List.getElem?_toArray, List.getElem?_cons_zero, List.getElem?_cons_succ] at e5
    have HM2 := Lib.hid (HM1.out.trans m2)
    have HO2 := Lib.hid (hown.less (show xb + 1 ≤ w1.heap.size from HX.out.lt))
    have HB2 : Hid (xb + 1 ≤ w2.heap.size) := Lib.hid (by have := hx2.lt; omega)
    have HXB := Lib.hid hxb
    clear hown hx2 m2 hxb
    go_wp2_with fail
    go_loopw [4, 17] (fun t i wr => ∃ (j c : Nat) (A : Option Addr), j ≤ mn ∧ i = .int .i64 j ∧ t = .slice A (ln + j : Nat) c ∧ Hid (Own wr (xb + 1) 29 6 VA.enc A (ln + j) c (xs ++ (ms.take j).map (·.v))) ∧ Hid (New w wr) ∧ Hid (xb + 1 ≤ wr.heap.size)) (fun _ i _ => mn - (intOf i).toNat)
    case atStart => exact ⟨0, cc0, A0, Nat.zero_le _, rfl, by simp, Lib.hid (by simpa using HO2.out), HM2, HB2⟩
    case round =>
      rename World => wr
      obtain ⟨j, c, A, hj, rfl, rfl, HO, HM, HBW⟩ := hrel
      by_cases hlt : j < mn
      · have hjl : j < ms.length := by have := HML.out; omega
        obtain ⟨g, o, hA, htb, hcell⟩ := (HMS.out.new HM.out).2 (by omega)
        subst hA
        have hgl := htb.lt
        have hcn := hcell j hjl 0 (by omega)
        have hc := fun q (hq : q < 6) => hcell j hjl (q + 1) (by omega)
        have HTK : Hid ((ms.take (j + 1)).map (·.v) = (ms.take j).map (·.v) ++ [ms[j].v]) := Lib.hid (by rw [List.take_succ_eq_append_getElem hjl, List.map_append]; rfl)
        generalize ms[j] = m at *
        obtain ⟨nm, y⟩ := m
        simp only [MA.enc, Nat.add_zero] at hcn hc
        obtain ⟨yk, yf, yn, yw, yla, yln, ylc, yma, ymn, ymc⟩ := y
        have c0 := hc 0 (by omega)
        have c1 := hc 1 (by omega)
        have c2 := hc 2 (by omega)
        have c3 := hc 3 (by omega)
        have c4 := hc 4 (by omega)
        have c5 := hc 5 (by omega)
        simp only [VA.enc, Nat.zero_add] at c0 c1 c2 c3 c4 c5
        have hi1 : (0 : Int) ≤ j := by omega
        have hi2 : (j : Int) < mn := by omega
        have hmx := Blk.new wr 49 #[.string nm, .int .i64 yk, .bool yf, .int .i64 yn, .string yw, .slice yla yln ylc, .slice yma ymn ymc]
        have hma : New wr (wr.alloc (.cells #[.string nm, .int .i64 yk, .bool yf, .int .i64 yn, .string yw, .slice yla yln ylc, .slice yma ymn ymc] 49)) := (Mod.refl _ _).alloc _
        clear hcell hc htb
        go_upto_region 5 with (fail)
        generalize wr.alloc (.cells #[.string nm, .int .i64 yk, .bool yf, .int .i64 yn, .string yw, .slice yla yln ylc, .slice yma ymn ymc] 49) = wm at *
        have own6 := HO.out.new hma
        have hzm := hma.size
        generalize wr.heap.size = mb at *
        have n1 := hmx.cell 1
        have n2 := hmx.cell 2
        have n3 := hmx.cell 3
        have n4 := hmx.cell 4
        have n5 := hmx.cell 5
        have n6 := hmx.cell 6
        have nl := hmx.lt
        simp only [List.getElem?_toArray, List.getElem?_cons_zero, List.getElem?_cons_succ] at n1 n2 n3 n4 n5 n6
        have HM6 := Lib.hid (HM.out.trans hma)
        have HZ : Hid (xb + 1 ≤ (wm.alloc (.cells #[.int .i64 yk, .bool yf, .int .i64 yn, .string yw, .slice yla yln ylc, .slice yma ymn ymc] 29)).heap.size) := Lib.hid (by have := HBW.out; simp; omega)
        have ownA := own6.alloc (.cells #[.int .i64 yk, .bool yf, .int .i64 yn, .string yw, .slice yla yln ylc, .slice yma ymn ymc] 29)
        have blkA : Blk (wm.alloc (.cells #[.int .i64 yk, .bool yf, .int .i64 yn, .string yw, .slice yla yln ylc, .slice yma ymn ymc] 29)) wm.heap.size 29 (encL 6 VA.enc ⟨yk, yf, yn, yw, yla, yln, ylc, yma, ymn, ymc⟩).toArray := Blk.new _ _ _
        clear hmx hma own6 c0 c1 c2 c3 c4 c5 hcn
        go_wp2_with (at_builtin; refine wpList_push rfl _ _ _ rfl 88 Tryz.underlying26 einfo_val rfl ownA ⟨yk, yf, yn, yw, yla, yln, ylc, yma, ymn, ymc⟩ wm.heap.size rfl blkA (fun j hj => VA.one _ j hj) (by omega) (by omega) HZ.out ?_; intro g9 cap9 w9 own9 hm9 hat9 hlt9)
        have hmw : New w w9 := Own.push_mod' ownA (HM6.out.alloc _) hm9 (by have := HXB.out; omega)
        have hz9 := hm9.size
        refine ⟨⟨j + 1, cap9, some ⟨g9, 0, none⟩, by omega, by go_num, rfl, Lib.hid ?_, Lib.hid hmw, Lib.hid (Nat.le_trans HZ.out hz9)⟩, by simp [intOf]; omega⟩
        rw [HTK.out, ← List.append_assoc]
        exact own9
      · obtain rfl : j = mn := by omega
        have hO := HO.out
        rw [List.take_of_length_le (by have := HML.out; omega)] at hO
        have HO3 := Lib.hid hO
        clear HO hO
        generalize xs ++ ms.map (·.v) = K at *
        have hkl : K.length = ln + j := HO3.out.1
        go_wp2_with fail
        go_loopw [2, 3, 29] (fun a b i wq => ∃ k : Nat, k ≤ ln + j ∧ i = .int .i64 k ∧ a = .int .i64 ((1 + ((KV.take k).map (vMany d)).sum : Nat) : Int) ∧ b = .int .i64 ((maxL ((KV.take k).map (vDeep d)) : Nat) : Int) ∧ Hid (New wr wq)) (fun _ _ i _ => ln + j - (intOf i).toNat)
        case atStart => exact ⟨0, Nat.zero_le _, rfl, by simp, by simp [maxL], Lib.hid (Mod.refl _ _)⟩
        case round =>
          rename World => wq
          obtain ⟨k, hk, rfl, rfl, rfl, HMQ⟩ := hrel
          by_cases hlt2 : k < ln + j
          · have hk1 : k < K.length := by omega
            have hk2 : k < KV.length := by have := HKN.out; omega
            obtain ⟨g, o, hA, htb, hcell⟩ := (HO3.out.new HMQ.out).sl.2 (by omega)
            subst hA
            have hgl := htb.lt
            have hc := fun q (hq : q < 6) => hcell k hk1 q hq
            have hty := HKT.out k hk1 hk2
            have hsum := sum_map_one (vMany d) hk2
            have hmax := max_map_get (vDeep d) hk2
            have HS := Lib.hid (sum_map_take (vMany d) hk2)
            have HD := Lib.hid (max_map_take (vDeep d) hk2)
            have hmk := HMK.out
            have hdl := vDeep_le d KV[k]
            have hdm : maxL ((KV.take k).map (vDeep d)) ≤ d := max_map_all _ (fun x _ => vDeep_le d x)
            have hwk := HWK.out k hk2
            have hi1 : (0 : Int) ≤ k := by omega
            have hi2 : (k : Int) < ((ln + j : Nat) : Int) := by omega
            generalize K[k] = y at *
            obtain ⟨yk, yf, yn, yw, yla, yln, ylc, yma, ymn, ymc⟩ := y
            have c0 := hc 0 (by omega)
            have c1 := hc 1 (by omega)
            have c2 := hc 2 (by omega)
            have c3 := hc 3 (by omega)
            have c4 := hc 4 (by omega)
            have c5 := hc 5 (by omega)
            simp only [VA.enc, Nat.add_zero] at c0 c1 c2 c3 c4 c5
            have hma : New wq (wq.alloc (.cells #[.int .i64 yk, .bool yf, .int .i64 yn, .string yw, .slice yla yln ylc, .slice yma ymn ymc] 29)) := (Mod.refl _ _).alloc _
            have hI := HIH.out ⟨yk, yf, yn, yw, yla, yln, ylc, yma, ymn, ymc⟩ KV[k] G (wq.alloc (.cells #[.int .i64 yk, .bool yf, .int .i64 yn, .string yw, .slice yla yln ylc, .slice yma ymn ymc] 29)) (hty.new ((HM.out.trans HMQ.out).trans hma)) hwk (by omega)
            have HMA := Lib.hid (HMQ.out.trans hma)
            have hs1 : 1 + ((KV.take k).map (vMany d)).sum + vMany d KV[k] ≤ 1000000000 := by omega
            clear hty hcell hc hma htb hsum hmk hmax hwk
            generalize ((KV.take k).map (vMany d)).sum = s1 at *
            generalize maxL ((KV.take k).map (vDeep d)) = d1 at *
            generalize vMany d KV[k] = a1 at *
            generalize vDeep d KV[k] = a2 at *
            go_wp2_with fail
            refine hI.mono ?_
            clear hI
            rintro e w5 ⟨rfl, m5⟩
            have HM5 := Lib.hid (HMA.out.trans m5)
            clear m5
            go_wp2_with fail
            exact ⟨⟨k + 1, by omega, by go_num, by rw [HS.out]; exact congrArg _ (by omega), by rw [HD.out]; exact congrArg _ (by omega), HM5⟩, by simp [intOf]; omega⟩
          · obtain rfl : k = ln + j := by omega
            have hmk := HMK.out
            have hdk := HDK.out
            rw [List.take_of_length_le (by have := HKN.out; omega)]
            rw [← hmk]
            have hdm : maxL (KV.map (vDeep d)) ≤ d := max_map_all _ (fun x _ => vDeep_le d x)
            generalize maxL (KV.map (vDeep d)) = d1 at *
            have hD : ((D : Nat) : Int) = (d1 : Int) + 1 := by omega
            have HRET : Hid (Ending.returned (.tuple #[.int .i64 (M : Nat), .int .i64 ((d1 : Int) + 1)]) = Ending.returned (.tuple #[.int .i64 (M : Nat), .int .i64 (D : Nat)])) := Lib.hid (by rw [hD])
            clear hD hdk hmk
            go_wp2_with fail
            go_ret2
            exact ⟨Eq.trans rfl HRET.out, HM.out.trans HMQ.out⟩

end Go.Proofs.YtahofcopedlenaaGreatDoor
