/- limit.Text: what it writes. Conditions: limits that can be read, of modest size; strconv's table. -/
import Derived.Test.YtinnckbffblecaaGreatDoorText1
namespace Go.Proofs.YtinnckbffblecaaGreatDoor
open Go.RowKit
set_option linter.unusedVariables false
set_option linter.unusedSimpArgs false


def RText (w : World) (ls : List Lim) (e : Ending) (w' : World) : Prop :=
  e = .returned (.tuple #[.string (if limsFault ls = 0 then ⟨(textL ls).toArray⟩ else ⟨#[]⟩), .int .i64 (limsFault ls)]) ∧ New w w'

set_option maxRecDepth 100000 in
set_option maxHeartbeats 4000000 in
theorem limit_text (ls : List Lim) (A : Option Addr) (n c : Nat) (w : World) (hl : LimRows w A n ls) (hn : n ≤ 1000) (hks : ∀ l ∈ ls, l.key.size ≤ maxLen) (hLL : limsFault ls = 0 → ∀ l ∈ ls, LineLim l) (hT : Pow10 w) :
    Calls Tryz.prog 5 #[.slice A n c] w (RText w ls) := by
  have hcl := limit_checkLimits ls A n c w hl hn hks
  by_cases hf : limsFault ls = 0
  · have HE : Hid (∀ w', New w w' → RText w ls (.returned (.tuple #[.string ⟨(textL ls).toArray⟩, .int .i64 0])) w') := Lib.hid (fun w' h => ⟨by rw [if_pos hf, hf], h⟩)
    have HLL := Lib.hid (hLL hf)
    have HL := Lib.hid hl
    have HT := Lib.hid hT
    obtain rfl : ls.length = n := hl.1
    rw [hf] at hcl
    clear hf hl hT hLL hks
    go_enter Tryz.func5, Tryz.ntmps5
    go_wp2_with fail
    refine hcl.mono ?_
    clear hcl
    rintro e w1 ⟨rfl, hm1⟩
    have HT0 := HT
    have HL1 := Lib.hid (HL.out.new hm1)
    have HT1 := Lib.hid (HT.out.new hm1)
    have hzw := hm1.size
    go_upto_region 5 with (fail)
    have hm2 : New w1 (w1.alloc (.cells #[.pointer none, .slice none 0 0] 50)) := (Mod.refl _ _).alloc _
    have hb2 := Blk.new w1 50 #[.pointer none, .slice none 0 0]
    have hz2 : (w1.alloc (.cells #[.pointer none, .slice none 0 0] 50)).heap.size = w1.heap.size + 1 := by simp
    generalize w1.alloc (.cells #[.pointer none, .slice none 0 0] 50) = w2 at *
    generalize hbb : w1.heap.size = b at *
    have HB0 : Hid (Bld b b [] w2) := Lib.hid (Bld.fresh hb2 (Nat.le_refl _))
    have hltb : ∀ g, TB w2 g 38 → ¬ b ≤ g := fun g hg e => by
      have h1 := hg.lt
      have h2 := hg.ne hb2.tb (by decide)
      omega
    have HLTB := Lib.hid hltb
    have HL2 := Lib.hid (HL1.out.new hm2)
    have HT2 := Lib.hid (HT1.out.new hm2)
    have HMW : Hid (New w w2) := Lib.hid (hm1.trans hm2)
    clear hltb hb2 hm1 hm2 HL1 HT1 HL HT
    go_wp2_with fail
    go_loopw [15] (fun i wr => ∃ k : Nat, k ≤ ls.length ∧ i = .int .i64 k ∧ Hid (Bld b b (textL (ls.take k)) wr) ∧ Hid (Mod (fun x => b ≤ x) w2 wr)) (fun i _ => ls.length - (intOf i).toNat)
    case atStart => exact ⟨0, Nat.zero_le _, rfl, by simpa [textL] using HB0, Lib.hid (Mod.refl _ _)⟩
    case round =>
      rename World => wr
      obtain ⟨k, hk, rfl, HB, HM⟩ := hrel
      by_cases hlt : k < ls.length
      · obtain ⟨g, o, hA, htb, hc⟩ := (HL2.out.mod HM.out HLTB.out).2 (by omega)
        subst hA
        have c0 := hc k hlt 0 (by omega)
        have c1 := hc k hlt 1 (by omega)
        have c2 := hc k hlt 2 (by omega)
        have c3 := hc k hlt 3 (by omega)
        have c4 := hc k hlt 4 (by omega)
        simp only [Lim.enc, Nat.add_zero] at c0 c1 c2 c3 c4
        have hgl := htb.lt
        have hll := HLL.out _ (List.getElem_mem hlt)
        have HTK := Lib.hid (textL_take hlt)
        have hlen : (textL (ls.take k)).length ≤ 1200 * k := by
          have := textL_length (ls := ls.take k) (fun l hl => HLL.out l (List.mem_of_mem_take hl))
          rw [List.length_take, Nat.min_eq_left hk] at this
          exact this
        have hb1 : (0 : Int) ≤ k := by omega
        have hb2 : (k : Int) < ls.length := by omega
        clear hc
        generalize ls[k] = l at *
        generalize textL (ls.take k) = L at *
        go_upto_region 8 with (fail)
        have hAl : New wr (wr.alloc (.cells #[.string l.key, .int .i64 l.kind, .int .i64 l.most, .int .i64 l.per, .int .i64 l.burst] 38)) := (Mod.refl _ _).alloc _
        have hbx := Blk.new wr 38 #[.string l.key, .int .i64 l.kind, .int .i64 l.most, .int .i64 l.per, .int .i64 l.burst]
        have HBl := Lib.hid (HB.out.new hAl)
        have HM4 : Hid (Mod (fun x => b ≤ x) w2 (wr.alloc (.cells #[.string l.key, .int .i64 l.kind, .int .i64 l.most, .int .i64 l.per, .int .i64 l.burst] 38))) := Lib.hid (HM.out.alloc _)
        clear c0 c1 c2 c3 c4 hAl
        generalize wr.alloc (.cells #[.string l.key, .int .i64 l.kind, .int .i64 l.most, .int .i64 l.per, .int .i64 l.burst] 38) = w4 at *
        generalize wr.heap.size = xb at *
        obtain ⟨key, kind, most, per, burst⟩ := l
        obtain ⟨q1, q2, q3, q4, q5⟩ := hll
        simp only at q1 q2 q3 q4 q5 hbx
        obtain ⟨kn, hkn⟩ := Int.eq_ofNat_of_zero_le (show 0 ≤ kind by omega)
        subst hkn
        have hkn1 : (0 : Int) ≤ kn := by omega
        have hkn2 : (kn : Int) < 5 := by omega
        have hkw := fun (w' : World) (h : Blk w' w4.heap.size 9 wordsCs) => words_at h q2.1 q2.2
        simp only [Int.toNat_natCast] at hkw
        have z1 := kindWord_size kn
        have z2 := itoaB_size q3
        have z3 := itoaB_size q4
        have z4 := itoaB_size q5
        have y1 : ¬ 9223372036854775807 < key.size + 1 := by omega
        have y2 : ¬ 9223372036854775807 < key.size + 1 + (kindWord kn).size := by omega
        have y3 : ¬ 9223372036854775807 < key.size + 1 + (kindWord kn).size + 1 := by omega
        have y4 : ¬ 9223372036854775807 < key.size + 1 + (kindWord kn).size + 1 + (itoaB most).size := by omega
        have y5 : ¬ 9223372036854775807 < key.size + 1 + (kindWord kn).size + 1 + (itoaB most).size + 1 := by omega
        have y6 : ¬ 9223372036854775807 < key.size + 1 + (kindWord kn).size + 1 + (itoaB most).size + 1 + (itoaB per).size := by omega
        have y7 : ¬ 9223372036854775807 < key.size + 1 + (kindWord kn).size + 1 + (itoaB most).size + 1 + (itoaB per).size + 1 := by omega
        have y8 : ¬ 9223372036854775807 < key.size + 1 + (kindWord kn).size + 1 + (itoaB most).size + 1 + (itoaB per).size + 1 + (itoaB burst).size := by omega
        have y9 : ¬ 9223372036854775807 < key.size + 1 + (kindWord kn).size + 1 + (itoaB most).size + 1 + (itoaB per).size + 1 + (itoaB burst).size + 1 := by omega
        have HT4 : Hid (Pow10 w4) := Lib.hid (HT0.out.mod HT2.out HM4.out (fun g hg e => by omega))
        have hS : ∀ W, New w4 W → (W.cell? ⟨xb, 0, none⟩ = some (.string key) ∧ W.cell? ⟨xb, 1, none⟩ = some (.int .i64 kn) ∧ W.cell? ⟨xb, 2, none⟩ = some (.int .i64 most) ∧ W.cell? ⟨xb, 3, none⟩ = some (.int .i64 per) ∧ W.cell? ⟨xb, 4, none⟩ = some (.int .i64 burst) ∧ xb < W.heap.size) := fun W hW => by
          have hb := hbx.mod hW (fun e => e)
          exact ⟨(hb.cell 0).trans rfl, (hb.cell 1).trans rfl, (hb.cell 2).trans rfl, (hb.cell 3).trans rfl, (hb.cell 4).trans rfl, hb.lt⟩
        have HS := Lib.hid hS
        clear hS
        refine wp_region_held_mark (fun W => W.cell? ⟨xb, 0, none⟩ = some (.string key) ∧ W.cell? ⟨xb, 1, none⟩ = some (.int .i64 kn) ∧ W.cell? ⟨xb, 2, none⟩ = some (.int .i64 most) ∧ W.cell? ⟨xb, 3, none⟩ = some (.int .i64 per) ∧ W.cell? ⟨xb, 4, none⟩ = some (.int .i64 burst) ∧ xb < W.heap.size) (fun _ w' => w'.cell? ⟨w4.heap.size, kn, none⟩ = some (.string (kindWord kn)) ∧ w4.heap.size < w'.heap.size) [3, 12, 17, 22] [0, 1, 2, 4, 5, 10, 11, 15, 16, 20, 21, 3, 6, 7, 8, 9, 12, 13, 14, 17, 18, 19, 22, 23, 24] (by kernel_rfl) (by kernel_rfl) (fun _ _ d _ _ h => by cases d <;> exact h) ?_ (fun hHeld => ?_)
        · exact HS.out _ (Mod.refl _ _).drew
        simp only [List.length_cons, List.length_nil, List.drop_succ_cons, List.drop_zero]
        refine heldM_take ?_ (by rfl) (by rfl) (by rfl) (fun w hSw => ?_) ?_
        rotate_left
        · (try simp only [heldBy] at hSw); go_simp; any_goals (with_reducible rfl)
        simp only [Act.put, List.setIfInBounds_toArray, List.set_cons_zero, List.set_cons_succ]
        refine heldM_take ?_ (by rfl) (by rfl) (by rfl) (fun w hSw => ?_) ?_
        rotate_left
        · (try simp only [heldBy] at hSw); go_simp; any_goals (with_reducible rfl)
        simp only [Act.put, List.setIfInBounds_toArray, List.set_cons_zero, List.set_cons_succ]
        refine heldM_take ?_ (by rfl) (by rfl) (by rfl) (fun w hSw => ?_) ?_
        rotate_left
        · (try simp only [heldBy] at hSw); go_simp; any_goals (with_reducible rfl)
        simp only [Act.put, List.setIfInBounds_toArray, List.set_cons_zero, List.set_cons_succ]
        refine heldM_take ?_ (by rfl) (by rfl) (by rfl) (fun w hSw => ?_) ?_
        rotate_left
        · (try simp only [heldBy] at hSw); go_simp; any_goals (with_reducible rfl)
        simp only [Act.put, List.setIfInBounds_toArray, List.set_cons_zero, List.set_cons_succ]
        refine heldM_take ?_ (by rfl) (by rfl) (by rfl) (fun w hSw => ?_) ?_
        rotate_left
        · (try simp only [heldBy] at hSw); go_simp; any_goals (with_reducible rfl)
        simp only [Act.put, List.setIfInBounds_toArray, List.set_cons_zero, List.set_cons_succ]
        refine heldM_take ?_ (by rfl) (by rfl) (by rfl) (fun w hSw => ?_) ?_
        rotate_left
        · (try simp only [heldBy] at hSw); go_simp; any_goals (with_reducible rfl)
        simp only [Act.put, List.setIfInBounds_toArray, List.set_cons_zero, List.set_cons_succ]
        refine heldM_take ?_ (by rfl) (by rfl) (by rfl) (fun w hSw => ?_) ?_
        rotate_left
        · (try simp only [heldBy] at hSw); go_simp; any_goals (with_reducible rfl)
        simp only [Act.put, List.setIfInBounds_toArray, List.set_cons_zero, List.set_cons_succ]
        refine heldM_take ?_ (by rfl) (by rfl) (by rfl) (fun w hSw => ?_) ?_
        rotate_left
        · (try simp only [heldBy] at hSw); go_simp; any_goals (with_reducible rfl)
        simp only [Act.put, List.setIfInBounds_toArray, List.set_cons_zero, List.set_cons_succ]
        refine heldM_take ?_ (by rfl) (by rfl) (by rfl) (fun w hSw => ?_) ?_
        rotate_left
        · (try simp only [heldBy] at hSw); go_simp; any_goals (with_reducible rfl)
        simp only [Act.put, List.setIfInBounds_toArray, List.set_cons_zero, List.set_cons_succ]
        refine heldM_take ?_ (by rfl) (by rfl) (by rfl) (fun w hSw => ?_) ?_
        rotate_left
        · (try simp only [heldBy] at hSw); go_simp; any_goals (with_reducible rfl)
        simp only [Act.put, List.setIfInBounds_toArray, List.set_cons_zero, List.set_cons_succ]
        refine heldM_take ?_ (by rfl) (by rfl) (by rfl) (fun w hSw => ?_) ?_
        rotate_left
        · (try simp only [heldBy] at hSw); go_simp; any_goals (with_reducible rfl)
        simp only [Act.put, List.setIfInBounds_toArray, List.set_cons_zero, List.set_cons_succ]
        refine heldM_step (by rfl) (by rfl) (by rfl) (fun K hK => ?_)
        go_simp
        refine (kindWords_any _).mono ?_
        rintro e w5 ⟨rfl, hw5⟩
        have hm5 : New w4 w5 := by rw [hw5]; exact ((Mod.refl _ w4).drewN 1).alloc _
        have hb5 : Blk w5 w4.heap.size 9 wordsCs := by rw [hw5]; exact Blk.new _ _ _
        have HW : Hid (∀ W, New w5 W → W.cell? ⟨w4.heap.size, kn, none⟩ = some (.string (kindWord kn)) ∧ w4.heap.size < W.heap.size) := Lib.hid (fun W hW => ⟨hkw W (hb5.mod hW (fun e => e)), (hb5.mod hW (fun e => e)).lt⟩)
        clear hw5 hkw hb5
        go_wp2_with fail
        refine hK.out _ _ ⟨HW.out _ (Mod.refl _ _), HS.out _ hm5⟩ (fun hHeld => ?_)
        clear hK K
        try simp only [Act.put, List.setIfInBounds_toArray, List.set_cons_zero, List.set_cons_succ]
        refine heldM_take ?_ (by rfl) (by rfl) (by rfl) (fun w hSw => ?_) ?_
        rotate_left
        · (try simp only [heldBy] at hSw); go_simp; any_goals (with_reducible rfl)
        simp only [Act.put, List.setIfInBounds_toArray, List.set_cons_zero, List.set_cons_succ]
        refine heldM_take ?_ (by rfl) (by rfl) (by rfl) (fun w hSw => ?_) ?_
        rotate_left
        · (try simp only [heldBy] at hSw); go_simp; any_goals (with_reducible rfl)
        simp only [Act.put, List.setIfInBounds_toArray, List.set_cons_zero, List.set_cons_succ]
        refine heldM_take ?_ (by rfl) (by rfl) (by rfl) (fun w hSw => ?_) ?_
        rotate_left
        · (try simp only [heldBy] at hSw); go_simp; any_goals (with_reducible rfl)
        simp only [Act.put, List.setIfInBounds_toArray, List.set_cons_zero, List.set_cons_succ]
        refine heldM_take ?_ (by rfl) (by rfl) (by rfl) (fun w hSw => ?_) ?_
        rotate_left
        · (try simp only [heldBy] at hSw); go_simp; any_goals (with_reducible rfl)
        simp only [Act.put, List.setIfInBounds_toArray, List.set_cons_zero, List.set_cons_succ]
        have hit1 := itoa_any most q3 w5 (HT4.out.new hm5)
        refine heldM_step (by rfl) (by rfl) (by rfl) (fun K hK => ?_)
        go_simp
        refine hit1.mono ?_
        rintro e w6 ⟨rfl, hm6⟩
        have m56 := hm6
        have m46 := hm5.trans hm6
        go_wp2_with fail
        refine hK.out _ _ ⟨HW.out _ m56, HW.out _ m56, HS.out _ m46⟩ (fun hHeld => ?_)
        clear hK K hit1 hm6
        try simp only [Act.put, List.setIfInBounds_toArray, List.set_cons_zero, List.set_cons_succ]
        refine heldM_take ?_ (by rfl) (by rfl) (by rfl) (fun w hSw => ?_) ?_
        rotate_left
        · (try simp only [heldBy] at hSw); go_simp; any_goals (with_reducible rfl)
        simp only [Act.put, List.setIfInBounds_toArray, List.set_cons_zero, List.set_cons_succ]
        refine heldM_take ?_ (by rfl) (by rfl) (by rfl) (fun w hSw => ?_) ?_
        rotate_left
        · (try simp only [heldBy] at hSw); go_simp; any_goals (with_reducible rfl)
        simp only [Act.put, List.setIfInBounds_toArray, List.set_cons_zero, List.set_cons_succ]
        have hit1 := itoa_any per q4 w6 (HT4.out.new m46)
        refine heldM_step (by rfl) (by rfl) (by rfl) (fun K hK => ?_)
        go_simp
        refine hit1.mono ?_
        rintro e w7 ⟨rfl, hm7⟩
        have m57 := m56.trans hm7
        have m47 := m46.trans hm7
        go_wp2_with fail
        refine hK.out _ _ ⟨HW.out _ m57, HW.out _ m57, HW.out _ m57, HS.out _ m47⟩ (fun hHeld => ?_)
        clear hK K hit1 hm7
        try simp only [Act.put, List.setIfInBounds_toArray, List.set_cons_zero, List.set_cons_succ]
        refine heldM_take ?_ (by rfl) (by rfl) (by rfl) (fun w hSw => ?_) ?_
        rotate_left
        · (try simp only [heldBy] at hSw); go_simp; any_goals (with_reducible rfl)
        simp only [Act.put, List.setIfInBounds_toArray, List.set_cons_zero, List.set_cons_succ]
        refine heldM_take ?_ (by rfl) (by rfl) (by rfl) (fun w hSw => ?_) ?_
        rotate_left
        · (try simp only [heldBy] at hSw); go_simp; any_goals (with_reducible rfl)
        simp only [Act.put, List.setIfInBounds_toArray, List.set_cons_zero, List.set_cons_succ]
        have hit1 := itoa_any burst q5 w7 (HT4.out.new m47)
        refine heldM_step (by rfl) (by rfl) (by rfl) (fun K hK => ?_)
        go_simp
        refine hit1.mono ?_
        rintro e w8 ⟨rfl, hm8⟩
        have m58 := m57.trans hm8
        have m48 := m47.trans hm8
        go_wp2_with fail
        refine hK.out _ _ ⟨HW.out _ m58, HW.out _ m58, HW.out _ m58, HW.out _ m58, HS.out _ m48⟩ (fun hHeld => ?_)
        clear hK K hit1 hm8
        try simp only [Act.put, List.setIfInBounds_toArray, List.set_cons_zero, List.set_cons_succ]
        refine heldM_take ?_ (by rfl) (by rfl) (by rfl) (fun w hSw => ?_) ?_
        rotate_left
        · (try simp only [heldBy] at hSw); go_simp; any_goals (with_reducible rfl)
        simp only [Act.put, List.setIfInBounds_toArray, List.set_cons_zero, List.set_cons_succ]
        refine heldM_take ?_ (by rfl) (by rfl) (by rfl) (fun w hSw => ?_) ?_
        rotate_left
        · (try simp only [heldBy] at hSw); go_simp; any_goals (with_reducible rfl)
        simp only [Act.put, List.setIfInBounds_toArray, List.set_cons_zero, List.set_cons_succ]
        refine heldM_nil ?_
        have hLS : (lineB ⟨key, kn, most, per, burst⟩).size ≤ 1200 := lineB_size q1 q3 q4 q5
        have hwr := bld_write b b L (lineB ⟨key, kn, most, per, burst⟩) w8 (HBl.out.new m48) (by omega)
        have HM8 : Hid (Mod (fun x => b ≤ x) w2 w8) := Lib.hid (HM4.out.trans (m48.mono (fun _ _ e => e.elim)))
        unfold lineB at hwr
        simp only at hwr
        go_wp2_with fail
        refine hwr.mono ?_
        clear hwr
        rintro e w9 ⟨rfl, hb9, hm9⟩
        have HB9 : Hid (Bld b b (L ++ (lineB ⟨key, kn, most, per, burst⟩).data.toList) w9) := Lib.hid hb9
        have HM9 := Lib.hid (HM8.out.trans hm9)
        clear hb9 hm9
        go_wp2_with fail
        exact ⟨⟨k + 1, by omega, by go_num, Lib.hid (by rw [HTK.out]; exact HB9.out), HM9⟩, by simp [intOf]; omega⟩
      · obtain rfl : k = ls.length := by omega
        have hB := HB.out
        rw [List.take_of_length_le (Nat.le_refl _)] at hB
        have hst := bld_string b b _ wr hB
        clear hB
        generalize textL ls = L at *
        go_wp2_with fail
        refine hst.mono ?_
        clear hst
        rintro e w9 ⟨rfl, hm9⟩
        go_wp2_with fail
        go_ret2
        exact HE.out _ (HMW.out.step (HM.out.trans hm9) (fun i hi e => by omega))
  · have hf' : (limsFault ls != 0) = true := by simpa using hf
    have HE : Hid (∀ w', New w w' → RText w ls (.returned (.tuple #[.string ⟨#[]⟩, .int .i64 (limsFault ls)])) w') := Lib.hid (fun w' h => ⟨by rw [if_neg hf], h⟩)
    clear hl hT hLL hf
    generalize limsFault ls = F at *
    go_enter Tryz.func5, Tryz.ntmps5
    go_wp2_with fail
    refine hcl.mono ?_
    clear hcl
    rintro e w1 ⟨rfl, hm1⟩
    go_wp2_with fail
    go_ret2
    exact HE.out _ hm1

end Go.Proofs.YtinnckbffblecaaGreatDoor
