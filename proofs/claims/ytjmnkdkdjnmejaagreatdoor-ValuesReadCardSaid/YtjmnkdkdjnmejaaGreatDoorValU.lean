/- Values written: the walk of the program's writer. Conditions: a right value, a text that is not too large; strconv's table. -/
import Derived.Test.YtjmnkdkdjnmejaaGreatDoorVal2Grp
namespace Go.Proofs.YtjmnkdkdjnmejaaGreatDoor
open Go.RowKit
set_option linter.unusedVariables false
set_option linter.unusedSimpArgs false


set_option maxRecDepth 100000 in
set_option maxHeartbeats 1500000 in
theorem writerValue_v (w0 : World) (hP0 : Pow10 w0) (B b : Nat) (hB0 : w0.heap.size ≤ B) (d : Nat) : ∀ (x : VA) (v : VT) (G : Nat → Prop) (l : List UInt8) (w : World), Tree w G d x v → Bw 142 B b l w → Fit d v → vFault d v = 0 → l.length + vW d v ≤ 200000 → Pow10 w →
    Calls Tryz.prog 87 #[.pointer (some ⟨b, 0, none⟩), x.val] w fun e w' => e = .returned (.tuple #[]) ∧ Bw 142 B b (l ++ vText d v) w' ∧ WStep B b w w' := by
  induction d with
  | zero => intro x v G l w ht; exact ht.elim
  | succ d ih =>
    intro x v G l w ht hb hf hr hlen hP
    obtain ⟨hk05, hn15, hrl, hrm⟩ := right_parts hr
    have hr0 := hr
    have hwp : v.list.length ≤ 200000 ∧ v.mem.length ≤ 200000 ∧ v.words.size ≤ 100000 := by
      have h1 := hf.parts
      have h2 := vW_parts d v
      omega
    have hfl := ht.fields
    have HT := hId ht
    have HIH := hId ih
    have HF := hId hf
    have HRL := hId hrl
    have HRM := hId hrm
    have HW := hId hlen
    have hv : vText (d + 1) v = if v.kind = 1 then Lib.formatBool v.flag else if v.kind = 2 then Lib.itoa v.num else if v.kind = 3 then quoteL v.words.data.toList else
      if v.kind = 4 then 91 :: (commas (v.list.map (vText d)) ++ [93]) else
      if v.kind = 5 then 123 :: (commas (v.mem.map fun p => quoteL p.1.data.toList ++ 58 :: vText d p.2) ++ [125]) else nullL := rfl
    obtain ⟨g1, g2, g3, g4, g5, g6⟩ := hfl
    rw [g1, g2, g3, g4] at hv
    rw [g1] at hk05
    rw [g3] at hn15
    rw [g4, g5, g6] at hwp
    have HLN := hId g5
    have HWD := hId g4
    have HMN := hId g6
    have HV := hId hv
    obtain ⟨kind, flag, num, words, la, ln, lc, ma, mn, mc⟩ := x
    simp only at hk05 hn15 hwp HV HLN HMN HWD
    have hl2 : l.length + 40 ≤ 200000 := by simp only [vW] at hlen; omega
    have HL : Hid (l.length + 40 ≤ 200000) := hId hl2
    obtain ⟨hwp1, hwp2, hwp3⟩ := hwp
    clear g1 g2 g3 g4 g5 g6 hv hr hrl hrm ih ht hf hlen
    have hx := Blk.new w 30 #[.int .i64 kind, .bool flag, .int .i64 num, .string words, .slice la ln lc, .slice ma mn mc]
    have hm1 : New w (w.alloc (.cells #[.int .i64 kind, .bool flag, .int .i64 num, .string words, .slice la ln lc, .slice ma mn mc] 30)) := (Mod.refl _ _).alloc _
    have HS := hId ((WStep.refl B b w).new hm1)
    have HB := hId (hb.new hm1)
    have HTB := hId hb.tb
    have HP := hId (hP.new hm1)
    have HPX : Hid (∀ W, WStep B b w W → Pow10 W) := hId (fun W h => Pow10.mod hP0 hP h.1 (fun g hg e => by omega))
    have HR := hId hr0
    have hxne : w.heap.size ≠ b := by have := hb.lt; omega
    go_enter Tryz.func87, Tryz.ntmps87
    go_upto_region 1 with (fail)
    generalize w.alloc (.cells #[.int .i64 kind, .bool flag, .int .i64 num, .string words, .slice la ln lc, .slice ma mn mc] 30) = w1 at *
    generalize w.heap.size = xb at *
    have HXN := hId hxne
    have HX := hId hx
    clear hx hm1 hb hP hxne hr0
    have hfu := full_v B b l w1 HB.out (by omega)
    go_wp2_with fail
    refine hfu.mono ?_
    clear hfu
    rintro e w1 ⟨rfl, rfl⟩
    have hbl := HB.out.lt.2
    have e0 := HX.out.cell 0
    have el := HX.out.lt
    simp only [lqt, lqz] at e0
    obtain ⟨hk50, hk51⟩ := hk05
    obtain ⟨hn150, hn151⟩ := hn15
    have hkk : kind = 0 ∨ kind = 1 ∨ kind = 2 ∨ kind = 3 ∨ kind = 4 ∨ kind = 5 := by omega
    obtain rfl | rfl | rfl | rfl | rfl | rfl := hkk
    · have HVT : Hid (vText (d + 1) v = [110, 117, 108, 108]) := hId (by rw [HV.out]; rfl)
      go_wp2_with fail
      refine (bw_string buT_writer B b _ (⟨#[110, 117, 108, 108]⟩ : ByteArray) _ HB.out (by have hq := HL.out; exact Nat.le_trans (Nat.add_le_add_left (show ByteArray.size (⟨#[110, 117, 108, 108]⟩ : ByteArray) ≤ 10 by decide) _) (by first | omega | (simp at hq ⊢; omega)))).mono ?_
      rintro e wz ⟨rfl, hb1, hm1, hk1⟩
      have HTBM := hId HB.out.tb
      have HKW : Hid (WStep B b _ _) := hId ⟨hm1, hk1⟩
      have HS1 := hId (HS.out.trans ⟨hm1, hk1⟩)
      clear HB HS hm1 hk1
      have HB := hId hb1
      have HS := HS1
      clear hb1 HS1
      go_wp2_with fail
      go_end0
      exact ⟨rfl, by rw [HVT.out]; exact HB.out, HS.out⟩
    · have HVT : Hid (vText (d + 1) v = Lib.formatBool flag) := hId (by rw [HV.out]; rfl)
      have hfb := fun W => Tryz.strconv_FormatBool flag W
      have hfz : (⟨(Lib.formatBool flag).toArray⟩ : ByteArray).size ≤ 5 := by cases flag <;> decide
      have hfd : (⟨(Lib.formatBool flag).toArray⟩ : ByteArray).data.toList = Lib.formatBool flag := by simp
      have HFD := hId hfd
      generalize (⟨(Lib.formatBool flag).toArray⟩ : ByteArray) = ST at *
      have HCS : Hid (∀ W, New w1 W → W.cell? ⟨xb, 1, none⟩ = some (.bool flag) ∧ xb < W.heap.size ∧ b < W.heap.size) := hId (fun W hW => ⟨((HX.out.mod hW (fun e => e)).cell 1).trans rfl, (HX.out.mod hW (fun e => e)).lt, Nat.lt_of_lt_of_le HB.out.lt.2 hW.size⟩)
      go_upto_region 17 with (fail)
      refine wp_region_held_ord (fun W => W.cell? ⟨xb, 1, none⟩ = some (.bool flag) ∧ xb < W.heap.size ∧ b < W.heap.size) [5] [0, 1, 2, 3, 4, 5] (by kernel_rfl) (by kernel_rfl) (fun _ _ d _ _ h => by cases d <;> exact h) ?_ (fun hHeld => ?_)
      · exact HCS.out _ (Mod.refl _ _).drew
      simp only [List.length_cons, List.length_nil, List.drop_succ_cons, List.drop_zero]
      refine heldO_take ?_ (by rfl) (by rfl) (by rfl) (fun w hSw => ?_) ?_
      rotate_left
      · (try dsimp only at hSw); go_simp; any_goals (with_reducible rfl)
      simp only [Act.put, lst, lsz, lss]
      refine heldO_take ?_ (by rfl) (by rfl) (by rfl) (fun w hSw => ?_) ?_
      rotate_left
      · (try dsimp only at hSw); go_simp; any_goals (with_reducible rfl)
      simp only [Act.put, lst, lsz, lss]
      refine heldO_take ?_ (by rfl) (by rfl) (by rfl) (fun w hSw => ?_) ?_
      rotate_left
      · (try dsimp only at hSw); go_simp; any_goals (with_reducible rfl)
      simp only [Act.put, lst, lsz, lss]
      refine heldO_take ?_ (by rfl) (by rfl) (by rfl) (fun w hSw => ?_) ?_
      rotate_left
      · (try dsimp only at hSw); go_simp; any_goals (with_reducible rfl)
      simp only [Act.put, lst, lsz, lss]
      refine heldO_take ?_ (by rfl) (by rfl) (by rfl) (fun w hSw => ?_) ?_
      rotate_left
      · (try dsimp only at hSw); go_simp; any_goals (with_reducible rfl)
      simp only [Act.put, lst, lsz, lss]
      refine heldO_step (by rfl) (by rfl) (by rfl) (fun K hK => ?_)
      go_simp
      refine (hfb _).mono ?_
      rintro e w3 ⟨rfl, rfl⟩
      go_wp2_with fail
      refine hK.out _ _ (HCS.out _ (Mod.refl _ _).drew) (fun hHeld => ?_)
      clear hK K
      try simp only [Act.put, lst, lsz, lss]
      refine heldO_nil ?_
      have HB1 := hId (HB.out.new (Mod.refl _ w1).drew)
      have HS1 := hId (HS.out.new (Mod.refl _ w1).drew)
      clear HB HS
      have HB := HB1
      have HS := HS1
      clear HB1 HS1
      go_wp2_with fail
      refine (bw_string buT_writer B b _ ST _ HB.out (by have hq := HL.out; omega)).mono ?_
      rw [HFD.out]
      rintro e wz ⟨rfl, hb1, hm1, hk1⟩
      have HTBM := hId HB.out.tb
      have HKW : Hid (WStep B b _ _) := hId ⟨hm1, hk1⟩
      have HS1 := hId (HS.out.trans ⟨hm1, hk1⟩)
      clear HB HS hm1 hk1
      have HB := hId hb1
      have HS := HS1
      clear hb1 HS1
      go_wp2_with fail
      go_end0
      exact ⟨rfl, by rw [HVT.out]; exact HB.out, HS.out⟩
    · have HVT : Hid (vText (d + 1) v = Lib.itoa num) := hId (by rw [HV.out]; rfl)
      have hi64 : I64 num := ⟨by omega, by omega⟩
      have hit := fun W (hW : New w1 W) => itoa_any num hi64 W (HP.out.new hW)
      have hfz := itoaB_size hi64
      have HFD : Hid ((itoaB num).data.toList = Lib.itoa num) := hId (by simp [itoaB])
      generalize itoaB num = ST at *
      have HCS : Hid (∀ W, New w1 W → W.cell? ⟨xb, 2, none⟩ = some (.int .i64 num) ∧ xb < W.heap.size ∧ b < W.heap.size) := hId (fun W hW => ⟨((HX.out.mod hW (fun e => e)).cell 2).trans rfl, (HX.out.mod hW (fun e => e)).lt, Nat.lt_of_lt_of_le HB.out.lt.2 hW.size⟩)
      go_upto_region 19 with (fail)
      refine wp_region_held_ord (fun W => W.cell? ⟨xb, 2, none⟩ = some (.int .i64 num) ∧ xb < W.heap.size ∧ b < W.heap.size) [5] [0, 1, 2, 3, 4, 5] (by kernel_rfl) (by kernel_rfl) (fun _ _ d _ _ h => by cases d <;> exact h) ?_ (fun hHeld => ?_)
      · exact HCS.out _ (Mod.refl _ _).drew
      simp only [List.length_cons, List.length_nil, List.drop_succ_cons, List.drop_zero]
      refine heldO_take ?_ (by rfl) (by rfl) (by rfl) (fun w hSw => ?_) ?_
      rotate_left
      · (try dsimp only at hSw); go_simp; any_goals (with_reducible rfl)
      simp only [Act.put, lst, lsz, lss]
      refine heldO_take ?_ (by rfl) (by rfl) (by rfl) (fun w hSw => ?_) ?_
      rotate_left
      · (try dsimp only at hSw); go_simp; any_goals (with_reducible rfl)
      simp only [Act.put, lst, lsz, lss]
      refine heldO_take ?_ (by rfl) (by rfl) (by rfl) (fun w hSw => ?_) ?_
      rotate_left
      · (try dsimp only at hSw); go_simp; any_goals (with_reducible rfl)
      simp only [Act.put, lst, lsz, lss]
      refine heldO_take ?_ (by rfl) (by rfl) (by rfl) (fun w hSw => ?_) ?_
      rotate_left
      · (try dsimp only at hSw); go_simp; any_goals (with_reducible rfl)
      simp only [Act.put, lst, lsz, lss]
      refine heldO_take ?_ (by rfl) (by rfl) (by rfl) (fun w hSw => ?_) ?_
      rotate_left
      · (try dsimp only at hSw); go_simp; any_goals (with_reducible rfl)
      simp only [Act.put, lst, lsz, lss]
      refine heldO_step (by rfl) (by rfl) (by rfl) (fun K hK => ?_)
      go_simp
      refine (hit _ (Mod.refl _ w1).drew).mono ?_
      clear hit
      rintro e w3 ⟨rfl, hm3⟩
      have m3 : New w1 w3 := (Mod.refl (fun _ => False) w1).drew.trans hm3
      clear hm3
      go_wp2_with fail
      refine hK.out _ _ (HCS.out _ m3) (fun hHeld => ?_)
      clear hK K
      try simp only [Act.put, lst, lsz, lss]
      refine heldO_nil ?_
      have HB1 := hId (HB.out.new m3)
      have HS1 := hId (HS.out.new m3)
      have hbl3 := HB1.out.lt.2
      clear HB HS
      have HB := HB1
      have HS := HS1
      clear HB1 HS1
      go_wp2_with fail
      refine (bw_string buT_writer B b _ ST _ HB.out (by have hq := HL.out; omega)).mono ?_
      rw [HFD.out]
      rintro e wz ⟨rfl, hb1, hm1, hk1⟩
      have HTBM := hId HB.out.tb
      have HKW : Hid (WStep B b _ _) := hId ⟨hm1, hk1⟩
      have HS1 := hId (HS.out.trans ⟨hm1, hk1⟩)
      clear HB HS hm1 hk1
      have HB := hId hb1
      have HS := HS1
      clear hb1 HS1
      go_wp2_with fail
      go_end0
      exact ⟨rfl, by rw [HVT.out]; exact HB.out, HS.out⟩
    · have HVT : Hid (vText (d + 1) v = quoteL words.data.toList) := hId (by rw [HV.out]; rfl)
      have hit := fun W (hW : New w1 W) => quote_v words W hwp3
      have hfz : (quoteL words.data.toList).length ≤ vW (d + 1) v := by
        have h1 := quoteL_length words.data.toList
        have h2 : words.data.toList.length = words.size := rfl
        have h3 := HWD.out
        simp only [vW, h3]
        omega
      have hw := HW.out
      have HFD : Hid ((⟨(quoteL words.data.toList).toArray⟩ : ByteArray).data.toList = quoteL words.data.toList) := hId (by simp)
      have hfs : (⟨(quoteL words.data.toList).toArray⟩ : ByteArray).size = (quoteL words.data.toList).length := by simp [ByteArray.size]
      generalize (⟨(quoteL words.data.toList).toArray⟩ : ByteArray) = ST at *
      have HCS : Hid (∀ W, New w1 W → W.cell? ⟨xb, 3, none⟩ = some (.string words) ∧ xb < W.heap.size ∧ b < W.heap.size) := hId (fun W hW => ⟨((HX.out.mod hW (fun e => e)).cell 3).trans rfl, (HX.out.mod hW (fun e => e)).lt, Nat.lt_of_lt_of_le HB.out.lt.2 hW.size⟩)
      go_upto_region 21 with (fail)
      refine wp_region_held_ord (fun W => W.cell? ⟨xb, 3, none⟩ = some (.string words) ∧ xb < W.heap.size ∧ b < W.heap.size) [5] [0, 1, 2, 3, 4, 5] (by kernel_rfl) (by kernel_rfl) (fun _ _ d _ _ h => by cases d <;> exact h) ?_ (fun hHeld => ?_)
      · exact HCS.out _ (Mod.refl _ _).drew
      simp only [List.length_cons, List.length_nil, List.drop_succ_cons, List.drop_zero]
      refine heldO_take ?_ (by rfl) (by rfl) (by rfl) (fun w hSw => ?_) ?_
      rotate_left
      · (try dsimp only at hSw); go_simp; any_goals (with_reducible rfl)
      simp only [Act.put, lst, lsz, lss]
      refine heldO_take ?_ (by rfl) (by rfl) (by rfl) (fun w hSw => ?_) ?_
      rotate_left
      · (try dsimp only at hSw); go_simp; any_goals (with_reducible rfl)
      simp only [Act.put, lst, lsz, lss]
      refine heldO_take ?_ (by rfl) (by rfl) (by rfl) (fun w hSw => ?_) ?_
      rotate_left
      · (try dsimp only at hSw); go_simp; any_goals (with_reducible rfl)
      simp only [Act.put, lst, lsz, lss]
      refine heldO_take ?_ (by rfl) (by rfl) (by rfl) (fun w hSw => ?_) ?_
      rotate_left
      · (try dsimp only at hSw); go_simp; any_goals (with_reducible rfl)
      simp only [Act.put, lst, lsz, lss]
      refine heldO_take ?_ (by rfl) (by rfl) (by rfl) (fun w hSw => ?_) ?_
      rotate_left
      · (try dsimp only at hSw); go_simp; any_goals (with_reducible rfl)
      simp only [Act.put, lst, lsz, lss]
      refine heldO_step (by rfl) (by rfl) (by rfl) (fun K hK => ?_)
      go_simp
      refine (hit _ (Mod.refl _ w1).drew).mono ?_
      clear hit
      rintro e w3 ⟨rfl, hm3⟩
      have m3 : New w1 w3 := (Mod.refl (fun _ => False) w1).drew.trans hm3
      clear hm3
      go_wp2_with fail
      refine hK.out _ _ (HCS.out _ m3) (fun hHeld => ?_)
      clear hK K
      try simp only [Act.put, lst, lsz, lss]
      refine heldO_nil ?_
      have HB1 := hId (HB.out.new m3)
      have HS1 := hId (HS.out.new m3)
      have hbl3 := HB1.out.lt.2
      clear HB HS
      have HB := HB1
      have HS := HS1
      clear HB1 HS1
      go_wp2_with fail
      refine (bw_string buT_writer B b _ ST _ HB.out (by have hq := HL.out; omega)).mono ?_
      rw [HFD.out]
      rintro e wz ⟨rfl, hb1, hm1, hk1⟩
      have HTBM := hId HB.out.tb
      have HKW : Hid (WStep B b _ _) := hId ⟨hm1, hk1⟩
      have HS1 := hId (HS.out.trans ⟨hm1, hk1⟩)
      clear HB HS hm1 hk1
      have HB := hId hb1
      have HS := HS1
      clear hb1 HS1
      go_wp2_with fail
      go_end0
      exact ⟨rfl, by rw [HVT.out]; exact HB.out, HS.out⟩
    · have HVT : Hid (vText (d + 1) v = 91 :: (commas (v.list.map (vText d)) ++ [93])) := hId (by rw [HV.out]; rfl)
      have HS0 := HS
      clear HS
      have HS := hId (WStep.refl B b w1)
      go_wp2_with fail
      refine (bw_byte buT_writer B b _ 91 91 rfl _ HB.out (by have hq := HL.out; first | omega | (simp; done) | (simp at hq ⊢; omega))).mono ?_
      rintro e wz ⟨rfl, hb1, hm1, hk1⟩
      have HTBM := hId HB.out.tb
      have HKW : Hid (WStep B b _ _) := hId ⟨hm1, hk1⟩
      have HS1 := hId (HS.out.trans ⟨hm1, hk1⟩)
      clear HB HS hm1 hk1
      have HB := hId hb1
      have HS := HS1
      clear hb1 HS1
      have hxx := HX.out.keep HS.out.2 HXN.out (by decide)
      have e4 := hxx.cell 4
      have el := hxx.lt
      simp only [lqt, lqz, lqs] at e4
      clear hxx
      go_wp2_with fail
      clear e4 el hbl
      go_loopw [92] (fun i wr => ∃ k : Nat, k ≤ ln ∧ i = .int .i64 k ∧ Hid (Bw 142 B b (l ++ 91 :: commas ((v.list.take k).map (vText d))) wr) ∧ Hid (WStep B b w1 wr)) (fun i _ => ln - (intOf i).toNat)
      case atStart => exact ⟨0, Nat.zero_le _, rfl, by simpa [commas] using HB, HS⟩
      case round =>
        clear HB HS
        rename World => wr
        obtain ⟨k, hk, rfl, HB, HS⟩ := hrel
        by_cases hlt : k < ln
        · have hkl : k < v.list.length := by have := HLN.out; omega
          have hT := HT.out.step (HS0.out.trans HS.out) HTB.out
          obtain ⟨g, o, y, hA, hgl, htb, -, hc, hty⟩ := hT.item hkl
          simp only at hA
          subst hA
          have hroom := list_room d v hkl HRL.out
          have hwl := HW.out
          have hlen3 : (l ++ 91 :: commas ((v.list.take k).map (vText d))).length + 1 + vW d v.list[k] ≤ 200000 := by simp only [List.length_append, List.length_cons]; omega
          have HTK := hId (commas_next (vText d) hkl)
          have HC0 : Hid (k = 0 → commas ((v.list.take k).map (vText d)) = []) := hId (fun h => by subst h; rfl)
          have hft := HF.out.item hkl
          have hfl := HRL.out k hkl
          obtain ⟨yk, yf, yn, yw, yla, yln, ylc, yma, ymn, ymc⟩ := y
          have c0 := hc 0 (by omega)
          have c1 := hc 1 (by omega)
          have c2 := hc 2 (by omega)
          have c3 := hc 3 (by omega)
          have c4 := hc 4 (by omega)
          have c5 := hc 5 (by omega)
          simp only [VA.enc, Nat.add_zero, Nat.zero_add] at c0 c1 c2 c3 c4 c5
          generalize commas ((v.list.take k).map (vText d)) = C at *
          have hb1 : (0 : Int) ≤ k := by omega
          have hb2 : (k : Int) < ln := by omega
          have hyx := Blk.new wr 30 #[.int .i64 yk, .bool yf, .int .i64 yn, .string yw, .slice yla yln ylc, .slice yma ymn ymc]
          have hma : New wr (wr.alloc (.cells #[.int .i64 yk, .bool yf, .int .i64 yn, .string yw, .slice yla yln ylc, .slice yma ymn ymc] 30)) := (Mod.refl _ _).alloc _
          have hyne : wr.heap.size ≠ b := by have := HB.out.lt; omega
          clear hc
          go_upto_region 27 with (fail)
          generalize wr.alloc (.cells #[.int .i64 yk, .bool yf, .int .i64 yn, .string yw, .slice yla yln ylc, .slice yma ymn ymc] 30) = wm at *
          generalize wr.heap.size = yb at *
          have HBm := hId (HB.out.new hma)
          have HSm := hId (HS.out.new hma)
          have HTY := hId (hty.new hma)
          have HYX := hId hyx
          have HYN := hId hyne
          have HFT := hId hft
          have HFL := hId hfl
          clear HB HS hT hty hma htb hgl c0 c1 c2 c3 c4 c5 hyx hyne hroom hwl hft hfl
          have HB := HBm
          have HS := HSm
          clear HBm HSm
          have hbl := HB.out.lt.2
          by_cases hk0 : k = 0
          · subst hk0
            have HCE := hId (HC0.out rfl)
            have e0 := HYX.out.cell 0
            have e1 := HYX.out.cell 1
            have e2 := HYX.out.cell 2
            have e3 := HYX.out.cell 3
            have e4 := HYX.out.cell 4
            have e5 := HYX.out.cell 5
            have el := HYX.out.lt
            simp only [lqt, lqz, lqs] at e0 e1 e2 e3 e4 e5
            have hI := HIH.out ⟨yk, yf, yn, yw, yla, yln, ylc, yma, ymn, ymc⟩ _ G _ wm HTY.out HB.out HFT.out HFL.out (by omega) (HPX.out _ (HS0.out.trans HS.out))
            clear HC0
            go_wp2_with fail
            refine hI.mono ?_
            clear hI
            rintro e wz ⟨rfl, hb7, hs7⟩
            have HB7 := hId hb7
            have HS7 := hId (HS.out.trans hs7)
            clear hb7 hs7 HB HS
            go_wp2_with fail
            go_roundw
            case rel => exact ⟨0 + 1, by omega, by go_num, hId (by rw [HTK.out]; simpa [HCE.out] using HB7.out), HS7⟩
            case measure => simp [intOf]; omega
          · have hkp : (0 : Int) < k := by omega
            have HK0 := hId hk0
            have HL : Hid ((l ++ 91 :: C).length + 40 ≤ 200040) := hId (by omega)
            clear hk0 HC0
            go_wp2_with fail
            refine (bw_byte buT_writer B b _ 44 44 rfl _ HB.out (by have hq := HL.out; first | omega | (simp; done) | (simp at hq ⊢; omega))).mono ?_
            rintro e wz ⟨rfl, hb1, hm1, hk1⟩
            have HTBM := hId HB.out.tb
            have HKW : Hid (WStep B b _ _) := hId ⟨hm1, hk1⟩
            have HS1 := hId (HS.out.trans ⟨hm1, hk1⟩)
            clear HB HS hm1 hk1
            have HB := hId hb1
            have HS := HS1
            clear hb1 HS1
            have hbl7 := HB.out.lt.2
            have hyy := HYX.out
            have HYZ : Hid (Blk wz yb 30 #[.int .i64 yk, .bool yf, .int .i64 yn, .string yw, .slice yla yln ylc, .slice yma ymn ymc]) := hId (hyy.keep HKW.out.2 HYN.out (by decide))
            clear hyy
            have e0 := HYZ.out.cell 0
            have e1 := HYZ.out.cell 1
            have e2 := HYZ.out.cell 2
            have e3 := HYZ.out.cell 3
            have e4 := HYZ.out.cell 4
            have e5 := HYZ.out.cell 5
            have el := HYZ.out.lt
            simp only [lqt, lqz, lqs] at e0 e1 e2 e3 e4 e5
            have hI := HIH.out ⟨yk, yf, yn, yw, yla, yln, ylc, yma, ymn, ymc⟩ _ G _ wz (HTY.out.step HKW.out (HTBM.out)) HB.out HFT.out HFL.out (by simp only [List.length_append, List.length_cons, List.length_nil] at hlen3 ⊢; omega) (HPX.out _ (HS0.out.trans HS.out))
            go_wp2_with fail
            refine hI.mono ?_
            clear hI
            rintro e wy ⟨rfl, hb7, hs7⟩
            have HB7 := hId hb7
            have HS7 := hId (HS.out.trans hs7)
            clear hb7 hs7 HB HS
            go_wp2_with fail
            go_roundw
            case rel => exact ⟨k + 1, by omega, by go_num, hId (by rw [HTK.out, if_neg HK0.out]; simpa using HB7.out), HS7⟩
            case measure => simp [intOf]; omega
        · obtain rfl : k = ln := by omega
          have hb := HB.out
          rw [List.take_of_length_le (by have := HLN.out; omega)] at hb
          have HB2 := hId hb
          have HTL : Hid ((l ++ 91 :: commas (v.list.map (vText d))) ++ [93] = l ++ vText (d + 1) v) := hId (by rw [HVT.out]; simp)
          have hvl := vText_length (d + 1) v HR.out
          have hwl := HW.out
          have HL : Hid ((l ++ 91 :: commas (v.list.map (vText d))).length + 40 ≤ 200040) := hId (by
            have := congrArg List.length HTL.out
            simp only [List.length_append, List.length_cons, List.length_nil] at this ⊢
            omega)
          generalize l ++ 91 :: commas (v.list.map (vText d)) = L at *
          clear HB hb hlt hk
          have HB := HB2
          clear HB2 hvl hwl
          have hbl := HB.out.lt.2
          go_wp2_with fail
          refine (bw_byte buT_writer B b _ 93 93 rfl _ HB.out (by have hq := HL.out; first | omega | (simp; done) | (simp at hq ⊢; omega))).mono ?_
          rintro e wz ⟨rfl, hb1, hm1, hk1⟩
          have HTBM := hId HB.out.tb
          have HKW : Hid (WStep B b _ _) := hId ⟨hm1, hk1⟩
          have HS1 := hId (HS.out.trans ⟨hm1, hk1⟩)
          clear HB HS hm1 hk1
          have HB := hId hb1
          have HS := HS1
          clear hb1 HS1
          go_wp2_with fail
          go_end0
          exact ⟨rfl, by rw [← HTL.out]; exact HB.out, HS0.out.trans HS.out⟩
    · have HVT : Hid (vText (d + 1) v = 123 :: (commas (v.mem.map fun p => quoteL p.1.data.toList ++ 58 :: vText d p.2) ++ [125])) := hId (by rw [HV.out]; rfl)
      have HS0 := HS
      clear HS
      have HS := hId (WStep.refl B b w1)
      go_wp2_with fail
      refine (bw_byte buT_writer B b _ 123 123 rfl _ HB.out (by have hq := HL.out; first | omega | (simp; done) | (simp at hq ⊢; omega))).mono ?_
      rintro e wz ⟨rfl, hb1, hm1, hk1⟩
      have HTBM := hId HB.out.tb
      have HKW : Hid (WStep B b _ _) := hId ⟨hm1, hk1⟩
      have HS1 := hId (HS.out.trans ⟨hm1, hk1⟩)
      clear HB HS hm1 hk1
      have HB := hId hb1
      have HS := HS1
      clear hb1 HS1
      have hxx := HX.out.keep HS.out.2 HXN.out (by decide)
      have e5 := hxx.cell 5
      have el := hxx.lt
      simp only [lqt, lqz, lqs] at e5
      clear hxx
      go_wp2_with fail
      clear e5 el hbl
      go_loopw [19] (fun i wr => ∃ k : Nat, k ≤ mn ∧ i = .int .i64 k ∧ Hid (Bw 142 B b (l ++ 123 :: commas ((v.mem.take k).map fun p => quoteL p.1.data.toList ++ 58 :: vText d p.2)) wr) ∧ Hid (WStep B b w1 wr)) (fun i _ => mn - (intOf i).toNat)
      case atStart => exact ⟨0, Nat.zero_le _, rfl, by simpa [commas] using HB, HS⟩
      case round =>
        clear HB HS
        rename World => wr
        obtain ⟨k, hk, rfl, HB, HS⟩ := hrel
        by_cases hlt : k < mn
        · have hkl : k < v.mem.length := by have := HMN.out; omega
          have hT := HT.out.step (HS0.out.trans HS.out) HTB.out
          obtain ⟨g, o, y, hA, hgl, htb, -, hcn, hc, hty⟩ := hT.member hkl
          simp only at hA
          subst hA
          have hroom := mem_room d v hkl HRM.out
          have hwl := HW.out
          have hlen3 : (l ++ 123 :: commas ((v.mem.take k).map fun p => quoteL p.1.data.toList ++ 58 :: vText d p.2)).length + 1 + ((quoteL v.mem[k].1.data.toList).length + 1 + vW d v.mem[k].2) ≤ 200000 := by simp only [List.length_append, List.length_cons]; omega
          have HTK : Hid (commas ((v.mem.take (k + 1)).map fun p => quoteL p.1.data.toList ++ 58 :: vText d p.2) = (if k = 0 then [] else commas ((v.mem.take k).map fun p => quoteL p.1.data.toList ++ 58 :: vText d p.2) ++ [44]) ++ (quoteL v.mem[k].1.data.toList ++ 58 :: vText d v.mem[k].2)) := hId (commas_next (fun p : ByteArray × VT => quoteL p.1.data.toList ++ 58 :: vText d p.2) hkl)
          have HC0 : Hid (k = 0 → commas ((v.mem.take k).map fun p => quoteL p.1.data.toList ++ 58 :: vText d p.2) = []) := hId (fun h => by subst h; rfl)
          obtain ⟨hft, -⟩ := HF.out.member hkl
          have hnz : v.mem[k].1.size ≤ 100000 := by have h1 := vW_member d v hkl; have h2 := HW.out; omega
          have hfl := HRM.out k hkl
          obtain ⟨yk, yf, yn, yw, yla, yln, ylc, yma, ymn, ymc⟩ := y
          have c0 := hc 0 (by omega)
          have c1 := hc 1 (by omega)
          have c2 := hc 2 (by omega)
          have c3 := hc 3 (by omega)
          have c4 := hc 4 (by omega)
          have c5 := hc 5 (by omega)
          simp only [VA.enc, Nat.add_zero, Nat.zero_add] at c0 c1 c2 c3 c4 c5
          generalize commas ((v.mem.take k).map fun p => quoteL p.1.data.toList ++ 58 :: vText d p.2) = C at *
          generalize v.mem[k].1 = nm at *
          have hb1 : (0 : Int) ≤ k := by omega
          have hb2 : (k : Int) < mn := by omega
          have hyx := Blk.new wr 60 #[.string nm, .int .i64 yk, .bool yf, .int .i64 yn, .string yw, .slice yla yln ylc, .slice yma ymn ymc]
          have hma : New wr (wr.alloc (.cells #[.string nm, .int .i64 yk, .bool yf, .int .i64 yn, .string yw, .slice yla yln ylc, .slice yma ymn ymc] 60)) := (Mod.refl _ _).alloc _
          have hyne : wr.heap.size ≠ b := by have := HB.out.lt; omega
          clear hc
          go_upto_region 7 with (fail)
          generalize wr.alloc (.cells #[.string nm, .int .i64 yk, .bool yf, .int .i64 yn, .string yw, .slice yla yln ylc, .slice yma ymn ymc] 60) = wm at *
          generalize wr.heap.size = yb at *
          have HBm := hId (HB.out.new hma)
          have HSm := hId (HS.out.new hma)
          have HTY := hId (hty.new hma)
          have HYX := hId hyx
          have HYN := hId hyne
          have HFT := hId hft
          have HFL := hId hfl
          clear HB HS hT hty hma htb hgl c0 c1 c2 c3 c4 c5 hcn hyx hyne hroom hwl hft hfl
          have HB := HBm
          have HS := HSm
          clear HBm HSm
          have hbl := HB.out.lt.2
          by_cases hk0 : k = 0
          · subst hk0
            have HCE := hId (HC0.out rfl)
            have HTK2 : Hid (l ++ 123 :: commas ((v.mem.take (0 + 1)).map fun p => quoteL p.1.data.toList ++ 58 :: vText d p.2) = ((l ++ 123 :: C) ++ quoteL nm.data.toList ++ ([58] : List UInt8)) ++ vText d v.mem[0].2) := hId (by rw [HTK.out]; simp [HCE.out])
            have hlen4 : (l ++ 123 :: C).length + ((quoteL nm.data.toList).length + 1 + vW d v.mem[0].2) ≤ 200000 := by omega
            generalize l ++ 123 :: C = L at *
            clear HC0 hlen3 HTK HCE
            have HCS : Hid (∀ W, New wm W → W.cell? ⟨yb, 0, none⟩ = some (.string nm) ∧ yb < W.heap.size ∧ b < W.heap.size) := hId (fun W hW => ⟨((HYX.out.mod hW (fun e => e)).cell 0).trans rfl, (HYX.out.mod hW (fun e => e)).lt, Nat.lt_of_lt_of_le HB.out.lt.2 hW.size⟩)
            have HFD : Hid ((⟨(quoteL nm.data.toList).toArray⟩ : ByteArray).data.toList = quoteL nm.data.toList) := hId (by simp)
            have HFS : Hid ((⟨(quoteL nm.data.toList).toArray⟩ : ByteArray).size = (quoteL nm.data.toList).length) := hId (by simp [ByteArray.size])
            have hqt := fun W => quote_v nm W hnz
            generalize (⟨(quoteL nm.data.toList).toArray⟩ : ByteArray) = ST at *
            go_upto_region 9 with (fail)
            refine wp_region_held_ord (fun W => W.cell? ⟨yb, 0, none⟩ = some (.string nm) ∧ yb < W.heap.size ∧ b < W.heap.size) [5] [0, 1, 2, 3, 4, 5] (by kernel_rfl) (by kernel_rfl) (fun _ _ d _ _ h => by cases d <;> exact h) ?_ (fun hHeld => ?_)
            · exact HCS.out _ (Mod.refl _ _).drew
            simp only [List.length_cons, List.length_nil, List.drop_succ_cons, List.drop_zero]
            refine heldO_take ?_ (by rfl) (by rfl) (by rfl) (fun w hSw => ?_) ?_
            rotate_left
            · (try dsimp only at hSw); go_simp; any_goals (with_reducible rfl)
            simp only [Act.put, lst, lsz, lss]
            refine heldO_take ?_ (by rfl) (by rfl) (by rfl) (fun w hSw => ?_) ?_
            rotate_left
            · (try dsimp only at hSw); go_simp; any_goals (with_reducible rfl)
            simp only [Act.put, lst, lsz, lss]
            refine heldO_take ?_ (by rfl) (by rfl) (by rfl) (fun w hSw => ?_) ?_
            rotate_left
            · (try dsimp only at hSw); go_simp; any_goals (with_reducible rfl)
            simp only [Act.put, lst, lsz, lss]
            refine heldO_take ?_ (by rfl) (by rfl) (by rfl) (fun w hSw => ?_) ?_
            rotate_left
            · (try dsimp only at hSw); go_simp; any_goals (with_reducible rfl)
            simp only [Act.put, lst, lsz, lss]
            refine heldO_take ?_ (by rfl) (by rfl) (by rfl) (fun w hSw => ?_) ?_
            rotate_left
            · (try dsimp only at hSw); go_simp; any_goals (with_reducible rfl)
            simp only [Act.put, lst, lsz, lss]
            refine heldO_step (by rfl) (by rfl) (by rfl) (fun K hK => ?_)
            go_simp
            refine (hqt _).mono ?_
            clear hqt
            rintro e w3 ⟨rfl, hm3⟩
            have m3 : New wm w3 := (Mod.refl (fun _ => False) wm).drew.trans hm3
            clear hm3
            go_wp2_with fail
            refine hK.out _ _ (HCS.out _ m3) (fun hHeld => ?_)
            clear hK K
            try simp only [Act.put, lst, lsz, lss]
            refine heldO_nil ?_
            have HB1 := hId (HB.out.new m3)
            have HS1 := hId (HS.out.new m3)
            have HY1 := hId (HYX.out.mod m3 (fun e => e))
            have HT1 := hId (HTY.out.new m3)
            have hbl3 := HB1.out.lt.2
            clear HB HS HYX HTY HCS hbl m3 hHeld
            have HB := HB1
            have HS := HS1
            have HYX := HY1
            have HTY := HT1
            clear HB1 HS1 HY1 HT1
            go_wp2_with fail
            refine (bw_string buT_writer B b _ ST _ HB.out (by have hq := HFS.out; omega)).mono ?_
            rw [HFD.out]
            rintro e w4 ⟨rfl, hb1, hm1, hk1⟩
            have HY1 := hId (HYX.out.keep hk1 HYN.out (by decide))
            have HT1 := hId (HTY.out.step ⟨hm1, hk1⟩ HB.out.tb)
            have HS1 := hId (HS.out.trans ⟨hm1, hk1⟩)
            clear HB HS HYX HTY hm1 hk1 hbl3
            have HB := hId hb1
            have HS := HS1
            have HYX := HY1
            have HTY := HT1
            clear HS1 HY1 HT1 hb1
            have hbl4 := HB.out.lt.2
            go_wp2_with fail
            refine (bw_byte buT_writer B b _ 58 58 rfl _ HB.out (by simp only [List.length_append]; omega)).mono ?_
            rintro e w5 ⟨rfl, hb1, hm1, hk1⟩
            have HY1 := hId (HYX.out.keep hk1 HYN.out (by decide))
            have HT1 := hId (HTY.out.step ⟨hm1, hk1⟩ HB.out.tb)
            have HS1 := hId (HS.out.trans ⟨hm1, hk1⟩)
            clear HB HS HYX HTY hm1 hk1 hbl4
            have HB := hId hb1
            have HS := HS1
            have HYX := HY1
            have HTY := HT1
            clear HS1 HY1 HT1 hb1
            have hbl5 := HB.out.lt.2
            have e1 := HYX.out.cell 1
            have e2 := HYX.out.cell 2
            have e3 := HYX.out.cell 3
            have e4 := HYX.out.cell 4
            have e5 := HYX.out.cell 5
            have e6 := HYX.out.cell 6
            have el := HYX.out.lt
            simp only [lqt, lqz, lqs] at e1 e2 e3 e4 e5 e6
            have hI := HIH.out ⟨yk, yf, yn, yw, yla, yln, ylc, yma, ymn, ymc⟩ _ G _ w5 HTY.out HB.out HFT.out HFL.out (by simp only [List.length_append, List.length_cons, List.length_nil]; omega) (HPX.out _ (HS0.out.trans HS.out))
            go_wp2_with fail
            refine hI.mono ?_
            clear hI
            rintro e wy ⟨rfl, hb7, hs7⟩
            have HB7 := hId hb7
            have HS7 := hId (HS.out.trans hs7)
            clear hb7 hs7 HB HS
            go_wp2_with fail
            go_roundw
            case rel => exact ⟨0 + 1, by omega, by go_num, hId (by rw [HTK2.out]; exact HB7.out), HS7⟩
            case measure => simp [intOf]; omega
          · have hkp : (0 : Int) < k := by omega
            have HTK2 : Hid (l ++ 123 :: commas ((v.mem.take (k + 1)).map fun p => quoteL p.1.data.toList ++ 58 :: vText d p.2) = (((l ++ 123 :: C) ++ ([44] : List UInt8)) ++ quoteL nm.data.toList ++ ([58] : List UInt8)) ++ vText d v.mem[k].2) := hId (by rw [HTK.out, if_neg hk0]; simp)
            have hlen4 : ((l ++ 123 :: C) ++ ([44] : List UInt8)).length + ((quoteL nm.data.toList).length + 1 + vW d v.mem[k].2) ≤ 200000 := by simp only [List.length_append, List.length_cons, List.length_nil] at hlen3 ⊢; omega
            have HL : Hid ((l ++ 123 :: C).length + 40 ≤ 200040) := hId (by omega)
            generalize l ++ 123 :: C = L at *
            clear hk0 HC0 hlen3 HTK
            go_wp2_with fail
            refine (bw_byte buT_writer B b _ 44 44 rfl _ HB.out (by have hq := HL.out; first | omega | (simp; done) | (simp at hq ⊢; omega))).mono ?_
            rintro e wz ⟨rfl, hb1, hm1, hk1⟩
            have HTBM := hId HB.out.tb
            have HKW : Hid (WStep B b _ _) := hId ⟨hm1, hk1⟩
            have HS1 := hId (HS.out.trans ⟨hm1, hk1⟩)
            clear HB HS hm1 hk1
            have HB := hId hb1
            have HS := HS1
            clear hb1 HS1
            have HYZ : Hid (Blk wz yb 60 #[.string nm, .int .i64 yk, .bool yf, .int .i64 yn, .string yw, .slice yla yln ylc, .slice yma ymn ymc]) := hId (HYX.out.keep HKW.out.2 HYN.out (by decide))
            have HTZ := hId (HTY.out.step HKW.out HTBM.out)
            clear HYX HTY HTBM HKW HL hbl
            have HYX := HYZ
            have HTY := HTZ
            clear HYZ HTZ
            have hbl := HB.out.lt.2
            generalize L ++ ([44] : List UInt8) = L4 at *
            have HCS : Hid (∀ W, New wz W → W.cell? ⟨yb, 0, none⟩ = some (.string nm) ∧ yb < W.heap.size ∧ b < W.heap.size) := hId (fun W hW => ⟨((HYX.out.mod hW (fun e => e)).cell 0).trans rfl, (HYX.out.mod hW (fun e => e)).lt, Nat.lt_of_lt_of_le HB.out.lt.2 hW.size⟩)
            have HFD : Hid ((⟨(quoteL nm.data.toList).toArray⟩ : ByteArray).data.toList = quoteL nm.data.toList) := hId (by simp)
            have HFS : Hid ((⟨(quoteL nm.data.toList).toArray⟩ : ByteArray).size = (quoteL nm.data.toList).length) := hId (by simp [ByteArray.size])
            have hqt := fun W => quote_v nm W hnz
            generalize (⟨(quoteL nm.data.toList).toArray⟩ : ByteArray) = ST at *
            go_upto_region 9 with (fail)
            refine wp_region_held_ord (fun W => W.cell? ⟨yb, 0, none⟩ = some (.string nm) ∧ yb < W.heap.size ∧ b < W.heap.size) [5] [0, 1, 2, 3, 4, 5] (by kernel_rfl) (by kernel_rfl) (fun _ _ d _ _ h => by cases d <;> exact h) ?_ (fun hHeld => ?_)
            · exact HCS.out _ (Mod.refl _ _).drew
            simp only [List.length_cons, List.length_nil, List.drop_succ_cons, List.drop_zero]
            refine heldO_take ?_ (by rfl) (by rfl) (by rfl) (fun w hSw => ?_) ?_
            rotate_left
            · (try dsimp only at hSw); go_simp; any_goals (with_reducible rfl)
            simp only [Act.put, lst, lsz, lss]
            refine heldO_take ?_ (by rfl) (by rfl) (by rfl) (fun w hSw => ?_) ?_
            rotate_left
            · (try dsimp only at hSw); go_simp; any_goals (with_reducible rfl)
            simp only [Act.put, lst, lsz, lss]
            refine heldO_take ?_ (by rfl) (by rfl) (by rfl) (fun w hSw => ?_) ?_
            rotate_left
            · (try dsimp only at hSw); go_simp; any_goals (with_reducible rfl)
            simp only [Act.put, lst, lsz, lss]
            refine heldO_take ?_ (by rfl) (by rfl) (by rfl) (fun w hSw => ?_) ?_
            rotate_left
            · (try dsimp only at hSw); go_simp; any_goals (with_reducible rfl)
            simp only [Act.put, lst, lsz, lss]
            refine heldO_take ?_ (by rfl) (by rfl) (by rfl) (fun w hSw => ?_) ?_
            rotate_left
            · (try dsimp only at hSw); go_simp; any_goals (with_reducible rfl)
            simp only [Act.put, lst, lsz, lss]
            refine heldO_step (by rfl) (by rfl) (by rfl) (fun K hK => ?_)
            go_simp
            refine (hqt _).mono ?_
            clear hqt
            rintro e w3 ⟨rfl, hm3⟩
            have m3 : New wz w3 := (Mod.refl (fun _ => False) wz).drew.trans hm3
            clear hm3
            go_wp2_with fail
            refine hK.out _ _ (HCS.out _ m3) (fun hHeld => ?_)
            clear hK K
            try simp only [Act.put, lst, lsz, lss]
            refine heldO_nil ?_
            have HB1 := hId (HB.out.new m3)
            have HS1 := hId (HS.out.new m3)
            have HY1 := hId (HYX.out.mod m3 (fun e => e))
            have HT1 := hId (HTY.out.new m3)
            have hbl3 := HB1.out.lt.2
            clear HB HS HYX HTY HCS hbl m3 hHeld
            have HB := HB1
            have HS := HS1
            have HYX := HY1
            have HTY := HT1
            clear HB1 HS1 HY1 HT1
            go_wp2_with fail
            refine (bw_string buT_writer B b _ ST _ HB.out (by have hq := HFS.out; omega)).mono ?_
            rw [HFD.out]
            rintro e w4 ⟨rfl, hb1, hm1, hk1⟩
            have HY1 := hId (HYX.out.keep hk1 HYN.out (by decide))
            have HT1 := hId (HTY.out.step ⟨hm1, hk1⟩ HB.out.tb)
            have HS1 := hId (HS.out.trans ⟨hm1, hk1⟩)
            clear HB HS HYX HTY hm1 hk1 hbl3
            have HB := hId hb1
            have HS := HS1
            have HYX := HY1
            have HTY := HT1
            clear HS1 HY1 HT1 hb1
            have hbl4 := HB.out.lt.2
            go_wp2_with fail
            refine (bw_byte buT_writer B b _ 58 58 rfl _ HB.out (by simp only [List.length_append]; omega)).mono ?_
            rintro e w5 ⟨rfl, hb1, hm1, hk1⟩
            have HY1 := hId (HYX.out.keep hk1 HYN.out (by decide))
            have HT1 := hId (HTY.out.step ⟨hm1, hk1⟩ HB.out.tb)
            have HS1 := hId (HS.out.trans ⟨hm1, hk1⟩)
            clear HB HS HYX HTY hm1 hk1 hbl4
            have HB := hId hb1
            have HS := HS1
            have HYX := HY1
            have HTY := HT1
            clear HS1 HY1 HT1 hb1
            have hbl5 := HB.out.lt.2
            have e1 := HYX.out.cell 1
            have e2 := HYX.out.cell 2
            have e3 := HYX.out.cell 3
            have e4 := HYX.out.cell 4
            have e5 := HYX.out.cell 5
            have e6 := HYX.out.cell 6
            have el := HYX.out.lt
            simp only [lqt, lqz, lqs] at e1 e2 e3 e4 e5 e6
            have hI := HIH.out ⟨yk, yf, yn, yw, yla, yln, ylc, yma, ymn, ymc⟩ _ G _ w5 HTY.out HB.out HFT.out HFL.out (by simp only [List.length_append, List.length_cons, List.length_nil]; omega) (HPX.out _ (HS0.out.trans HS.out))
            go_wp2_with fail
            refine hI.mono ?_
            clear hI
            rintro e wy ⟨rfl, hb7, hs7⟩
            have HB7 := hId hb7
            have HS7 := hId (HS.out.trans hs7)
            clear hb7 hs7 HB HS
            go_wp2_with fail
            go_roundw
            case rel => exact ⟨k + 1, by omega, by go_num, hId (by rw [HTK2.out]; exact HB7.out), HS7⟩
            case measure => simp [intOf]; omega
        · obtain rfl : k = mn := by omega
          have hb := HB.out
          rw [List.take_of_length_le (by have := HMN.out; omega)] at hb
          have HB2 := hId hb
          have HTL : Hid ((l ++ 123 :: commas (v.mem.map fun p => quoteL p.1.data.toList ++ 58 :: vText d p.2)) ++ [125] = l ++ vText (d + 1) v) := hId (by rw [HVT.out]; simp)
          have hvl := vText_length (d + 1) v HR.out
          have hwl := HW.out
          have HL : Hid ((l ++ 123 :: commas (v.mem.map fun p => quoteL p.1.data.toList ++ 58 :: vText d p.2)).length + 40 ≤ 200040) := hId (by
            have := congrArg List.length HTL.out
            simp only [List.length_append, List.length_cons, List.length_nil] at this ⊢
            omega)
          generalize l ++ 123 :: commas (v.mem.map fun p => quoteL p.1.data.toList ++ 58 :: vText d p.2) = L at *
          clear HB hb hlt hk
          have HB := HB2
          clear HB2 hvl hwl
          have hbl := HB.out.lt.2
          go_wp2_with fail
          refine (bw_byte buT_writer B b _ 125 125 rfl _ HB.out (by have hq := HL.out; first | omega | (simp; done) | (simp at hq ⊢; omega))).mono ?_
          rintro e wz ⟨rfl, hb1, hm1, hk1⟩
          have HTBM := hId HB.out.tb
          have HKW : Hid (WStep B b _ _) := hId ⟨hm1, hk1⟩
          have HS1 := hId (HS.out.trans ⟨hm1, hk1⟩)
          clear HB HS hm1 hk1
          have HB := hId hb1
          have HS := HS1
          clear hb1 HS1
          go_wp2_with fail
          go_end0
          exact ⟨rfl, by rw [← HTL.out]; exact HB.out, HS0.out.trans HS.out⟩

end Go.Proofs.YtjmnkdkdjnmejaaGreatDoor
