/- The reference's text of limits. Conditions: limits that can be read, of modest size; strconv's table. -/
import Derived.Test.YtinnckbffblecaaGreatDoorText2
import Derived.Test.YtinnckbffblecaaGreatDoorHeld2
namespace Go.Proofs.YtinnckbffblecaaGreatDoor
open Go.RowKit
set_option linter.unusedVariables false
set_option linter.unusedSimpArgs false


theorem mk_toList (s : ByteArray) : (⟨s.data.toList.toArray⟩ : ByteArray) = s := by cases s; simp
theorem join5 (a b c d e : ByteArray) : Lib.join ([a, b, c, d, e].map (·.data.toList)) sp.data.toList = ((((((((a ++ sp) ++ b) ++ sp) ++ c) ++ sp) ++ d) ++ sp) ++ e).data.toList := by
  simp [Lib.join, List.intercalate, ByteArray.data_append]

set_option maxRecDepth 100000 in
set_option maxHeartbeats 4000000 in
theorem ref_limitLines (ls : List Lim) (A : Option Addr) (n c : Nat) (w : World) (hl : LimRows w A n ls) (hn : n ≤ 1000) (hLL : ∀ l ∈ ls, LineLim l) (hT : Pow10 w) :
    Calls Tryz.prog 7 #[.slice A n c] w fun e w' => e = .returned (.string ⟨(textL ls).toArray⟩) ∧ New w w' := by
  have HLL := Lib.hid hLL
  have HL := Lib.hid hl
  have HT0 := Lib.hid hT
  obtain rfl : ls.length = n := hl.1
  clear hl hT hLL
  go_enter Tryz.func7, Tryz.ntmps7
  go_upto_region 2 with (fail)
  have hm2 : New w (w.alloc (.cells #[.pointer none, .slice none 0 0] 50)) := (Mod.refl _ _).alloc _
  have hb2 := Blk.new w 50 #[.pointer none, .slice none 0 0]
  have hz2 : (w.alloc (.cells #[.pointer none, .slice none 0 0] 50)).heap.size = w.heap.size + 1 := by simp
  generalize w.alloc (.cells #[.pointer none, .slice none 0 0] 50) = w2 at *
  generalize hbb : w.heap.size = b at *
  have HB0 : Hid (Bld b b [] w2) := Lib.hid (Bld.fresh hb2 (Nat.le_refl _))
  have hltb : ∀ g, TB w2 g 38 → ¬ b ≤ g := fun g hg e => by
    have h1 := hg.lt
    have h2 := hg.ne hb2.tb (by decide)
    omega
  have HLTB := Lib.hid hltb
  have HL2 := Lib.hid (HL.out.new hm2)
  have HT2 := Lib.hid (HT0.out.new hm2)
  have HMW : Hid (New w w2) := Lib.hid hm2
  clear hltb hb2 hm2 HL
  go_wp2_with fail
  go_loopw [8] (fun i wr => ∃ k : Nat, k ≤ ls.length ∧ i = .int .i64 k ∧ Hid (Bld b b (textL (ls.take k)) wr) ∧ Hid (Mod (fun x => b ≤ x) w2 wr)) (fun i _ => ls.length - (intOf i).toNat)
  case atStart => exact ⟨0, Nat.zero_le _, rfl, by simpa [textL] using HB0, Lib.hid (Mod.refl _ _)⟩
  case round =>
    rename World => wr
    obtain ⟨k, hk, rfl, HB, HM⟩ := hrel
    by_cases hlt : k < ls.length
    · obtain ⟨g, o, hA, htb, hc⟩ := (HL2.out.mod HM.out HLTB.out).2 (by omega)
      subst hA
      have c0 := hc k hlt 0 (by omega)
      have c1 := hc k hlt 1 (by omega)
      have c2 := hc k hlt 2 (by omega)
      have c3 := hc k hlt 3 (by omega)
      have c4 := hc k hlt 4 (by omega)
      simp only [Lim.enc, Nat.add_zero] at c0 c1 c2 c3 c4
      have hgl := htb.lt
      have hll := HLL.out _ (List.getElem_mem hlt)
      have HTK := Lib.hid (textL_take hlt)
      have hlen : (textL (ls.take k)).length ≤ 1200 * k := by
        have := textL_length (ls := ls.take k) (fun l hl => HLL.out l (List.mem_of_mem_take hl))
        rw [List.length_take, Nat.min_eq_left hk] at this
        exact this
      have hb1 : (0 : Int) ≤ k := by omega
      have hb2 : (k : Int) < ls.length := by omega
      clear hc
      generalize ls[k] = l at *
      generalize textL (ls.take k) = L at *
      go_upto_region 5 with (fail)
      have hAl : New wr (wr.alloc (.cells #[.string l.key, .int .i64 l.kind, .int .i64 l.most, .int .i64 l.per, .int .i64 l.burst] 38)) := (Mod.refl _ _).alloc _
      have hbx := Blk.new wr 38 #[.string l.key, .int .i64 l.kind, .int .i64 l.most, .int .i64 l.per, .int .i64 l.burst]
      have HBl := Lib.hid (HB.out.new hAl)
      have HM4 : Hid (Mod (fun x => b ≤ x) w2 (wr.alloc (.cells #[.string l.key, .int .i64 l.kind, .int .i64 l.most, .int .i64 l.per, .int .i64 l.burst] 38))) := Lib.hid (HM.out.alloc _)
      clear c0 c1 c2 c3 c4 hAl
      generalize wr.alloc (.cells #[.string l.key, .int .i64 l.kind, .int .i64 l.most, .int .i64 l.per, .int .i64 l.burst] 38) = w4 at *
      generalize wr.heap.size = xb at *
      obtain ⟨key, kind, most, per, burst⟩ := l
      obtain ⟨q1, q2, q3, q4, q5⟩ := hll
      simp only at q1 q2 q3 q4 q5 hbx
      have z1 := kindWord_size kind
      have z2 := itoaB_size q3
      have z3 := itoaB_size q4
      have z4 := itoaB_size q5
      have HT4 : Hid (Pow10 w4) := Lib.hid (HT0.out.mod HT2.out HM4.out (fun g hg e => by omega))
      have hS : ∀ W, New w4 W → (W.cell? ⟨xb, 0, none⟩ = some (.string key) ∧ W.cell? ⟨xb, 1, none⟩ = some (.int .i64 kind) ∧ W.cell? ⟨xb, 2, none⟩ = some (.int .i64 most) ∧ W.cell? ⟨xb, 3, none⟩ = some (.int .i64 per) ∧ W.cell? ⟨xb, 4, none⟩ = some (.int .i64 burst) ∧ xb < W.heap.size) := fun W hW => by
        have hb := hbx.mod hW (fun e => e)
        exact ⟨(hb.cell 0).trans rfl, (hb.cell 1).trans rfl, (hb.cell 2).trans rfl, (hb.cell 3).trans rfl, (hb.cell 4).trans rfl, hb.lt⟩
      have HS := Lib.hid hS
      clear hS
      refine wp_region_held_ord (fun W => W.cell? ⟨xb, 0, none⟩ = some (.string key) ∧ W.cell? ⟨xb, 1, none⟩ = some (.int .i64 kind) ∧ W.cell? ⟨xb, 2, none⟩ = some (.int .i64 most) ∧ W.cell? ⟨xb, 3, none⟩ = some (.int .i64 per) ∧ W.cell? ⟨xb, 4, none⟩ = some (.int .i64 burst) ∧ xb < W.heap.size) [4, 7, 10, 13, 14, 15] [0, 1, 2, 3, 5, 6, 8, 9, 11, 12, 4, 7, 10, 13, 14, 15, 16] (by kernel_rfl) (by kernel_rfl) (fun _ _ d _ _ h => by cases d <;> exact h) ?_ (fun hHeld => ?_)
      · exact HS.out _ (Mod.refl _ _).drew
      simp only [List.length_cons, List.length_nil, List.drop_succ_cons, List.drop_zero]
      refine heldO_take ?_ (by rfl) (by rfl) (by rfl) (fun w hSw => ?_) ?_
      rotate_left
      · (try dsimp only at hSw); go_simp; any_goals (with_reducible rfl)
      simp only [Act.put, List.setIfInBounds_toArray, List.set_cons_zero, List.set_cons_succ]
      refine heldO_take ?_ (by rfl) (by rfl) (by rfl) (fun w hSw => ?_) ?_
      rotate_left
      · (try dsimp only at hSw); go_simp; any_goals (with_reducible rfl)
      simp only [Act.put, List.setIfInBounds_toArray, List.set_cons_zero, List.set_cons_succ]
      refine heldO_take ?_ (by rfl) (by rfl) (by rfl) (fun w hSw => ?_) ?_
      rotate_left
      · (try dsimp only at hSw); go_simp; any_goals (with_reducible rfl)
      simp only [Act.put, List.setIfInBounds_toArray, List.set_cons_zero, List.set_cons_succ]
      refine heldO_take ?_ (by rfl) (by rfl) (by rfl) (fun w hSw => ?_) ?_
      rotate_left
      · (try dsimp only at hSw); go_simp; any_goals (with_reducible rfl)
      simp only [Act.put, List.setIfInBounds_toArray, List.set_cons_zero, List.set_cons_succ]
      refine heldO_take ?_ (by rfl) (by rfl) (by rfl) (fun w hSw => ?_) ?_
      rotate_left
      · (try dsimp only at hSw); go_simp; any_goals (with_reducible rfl)
      simp only [Act.put, List.setIfInBounds_toArray, List.set_cons_zero, List.set_cons_succ]
      refine heldO_take ?_ (by rfl) (by rfl) (by rfl) (fun w hSw => ?_) ?_
      rotate_left
      · (try dsimp only at hSw); go_simp; any_goals (with_reducible rfl)
      simp only [Act.put, List.setIfInBounds_toArray, List.set_cons_zero, List.set_cons_succ]
      refine heldO_take ?_ (by rfl) (by rfl) (by rfl) (fun w hSw => ?_) ?_
      rotate_left
      · (try dsimp only at hSw); go_simp; any_goals (with_reducible rfl)
      simp only [Act.put, List.setIfInBounds_toArray, List.set_cons_zero, List.set_cons_succ]
      refine heldO_take ?_ (by rfl) (by rfl) (by rfl) (fun w hSw => ?_) ?_
      rotate_left
      · (try dsimp only at hSw); go_simp; any_goals (with_reducible rfl)
      simp only [Act.put, List.setIfInBounds_toArray, List.set_cons_zero, List.set_cons_succ]
      refine heldO_take ?_ (by rfl) (by rfl) (by rfl) (fun w hSw => ?_) ?_
      rotate_left
      · (try dsimp only at hSw); go_simp; any_goals (with_reducible rfl)
      simp only [Act.put, List.setIfInBounds_toArray, List.set_cons_zero, List.set_cons_succ]
      refine heldO_take ?_ (by rfl) (by rfl) (by rfl) (fun w hSw => ?_) ?_
      rotate_left
      · (try dsimp only at hSw); go_simp; any_goals (with_reducible rfl)
      simp only [Act.put, List.setIfInBounds_toArray, List.set_cons_zero, List.set_cons_succ]
      refine heldO_step (by rfl) (by rfl) (by rfl) (fun K hK => ?_)
      go_simp
      refine (kindWord_any kind q2.1 q2.2 _).mono ?_
      rintro e w5 ⟨rfl, hw5⟩
      have hm5 : New w4 w5 := by rw [hw5]; exact ((Mod.refl _ w4).drewN 1).alloc _
      clear hw5
      go_wp2_with fail
      refine hK.out _ _ (HS.out _ hm5) (fun hHeld => ?_)
      clear hK K
      try simp only [Act.put, List.setIfInBounds_toArray, List.set_cons_zero, List.set_cons_succ]
      have hit1 := itoa_any most q3 w5 (HT4.out.new hm5)
      refine heldO_step (by rfl) (by rfl) (by rfl) (fun K hK => ?_)
      go_simp
      refine hit1.mono ?_
      rintro e w6 ⟨rfl, hm6⟩
      have m46 := hm5.trans hm6
      go_wp2_with fail
      refine hK.out _ _ (HS.out _ m46) (fun hHeld => ?_)
      clear hK K hit1 hm6
      try simp only [Act.put, List.setIfInBounds_toArray, List.set_cons_zero, List.set_cons_succ]
      have hit1 := itoa_any per q4 w6 (HT4.out.new m46)
      refine heldO_step (by rfl) (by rfl) (by rfl) (fun K hK => ?_)
      go_simp
      refine hit1.mono ?_
      rintro e w7 ⟨rfl, hm7⟩
      have m47 := m46.trans hm7
      go_wp2_with fail
      refine hK.out _ _ (HS.out _ m47) (fun hHeld => ?_)
      clear hK K hit1 hm7
      try simp only [Act.put, List.setIfInBounds_toArray, List.set_cons_zero, List.set_cons_succ]
      have hit1 := itoa_any burst q5 w7 (HT4.out.new m47)
      refine heldO_step (by rfl) (by rfl) (by rfl) (fun K hK => ?_)
      go_simp
      refine hit1.mono ?_
      rintro e w8 ⟨rfl, hm8⟩
      have m48 := m47.trans hm8
      go_wp2_with fail
      refine hK.out _ _ (HS.out _ m48) (fun hHeld => ?_)
      clear hK K hit1 hm8
      try simp only [Act.put, List.setIfInBounds_toArray, List.set_cons_zero, List.set_cons_succ]
      refine heldO_step (by rfl) (by rfl) (by rfl) (fun K hK => ?_)
      go_simp
      have m49 : New w4 (w8.alloc (.cells #[.string key, .string (kindWord kind), .string (itoaB most), .string (itoaB per), .string (itoaB burst)] 9)) := m48.alloc _
      have b9 := Blk.new w8 9 #[.string key, .string (kindWord kind), .string (itoaB most), .string (itoaB per), .string (itoaB burst)]
      refine hK.out _ _ (HS.out _ m49) (fun hHeld => ?_)
      clear hK K
      try simp only [Act.put, List.setIfInBounds_toArray, List.set_cons_zero, List.set_cons_succ]
      generalize hw9 : w8.alloc (.cells #[.string key, .string (kindWord kind), .string (itoaB most), .string (itoaB per), .string (itoaB burst)] 9) = w9 at *
      have hjo := Tryz.strings_Join w8.heap.size 0 5 [key, kindWord kind, itoaB most, itoaB per, itoaB burst] sp w9 (fun j x hx => by
        have := b9.cell j
        rw [Nat.zero_add]
        rw [this]
        match j, hx with
        | 0, hx => injection hx with hx; subst hx; rfl
        | 1, hx => injection hx with hx; subst hx; rfl
        | 2, hx => injection hx with hx; subst hx; rfl
        | 3, hx => injection hx with hx; subst hx; rfl
        | 4, hx => injection hx with hx; subst hx; rfl
        | j + 5, hx => cases hx) b9.lt (by simp) (by simp) (by
          rw [join5]
          show ((((((((key ++ sp) ++ kindWord kind) ++ sp) ++ itoaB most) ++ sp) ++ itoaB per) ++ sp) ++ itoaB burst).size ≤ _
          simp only [ByteArray.size_append]
          have e1 : (sp : ByteArray).size = 1 := rfl
          omega)
      rw [join5] at hjo
      refine heldO_step (by rfl) (by rfl) (by rfl) (fun K hK => ?_)
      go_simp
      refine hjo.mono ?_
      clear hjo
      rintro e w10 ⟨rfl, hm10⟩
      have m410 : New w4 w10 := m49.trans (Mod.of_below hm10)
      have hJE : (⟨((((((((key ++ sp) ++ kindWord kind) ++ sp) ++ itoaB most) ++ sp) ++ itoaB per) ++ sp) ++ itoaB burst).data.toList.toArray⟩ : ByteArray) = (((((((key ++ sp) ++ kindWord kind) ++ sp) ++ itoaB most) ++ sp) ++ itoaB per) ++ sp) ++ itoaB burst := mk_toList _
      rw [hJE]
      have HLB : Hid (((((((((key ++ sp) ++ kindWord kind) ++ sp) ++ itoaB most) ++ sp) ++ itoaB per) ++ sp) ++ itoaB burst) ++ nl = lineB ⟨key, kind, most, per, burst⟩) := Lib.hid rfl
      have hsz : ((((((((key ++ sp) ++ kindWord kind) ++ sp) ++ itoaB most) ++ sp) ++ itoaB per) ++ sp) ++ itoaB burst).size ≤ 1190 := by
        simp only [ByteArray.size_append]
        have e1 : (sp : ByteArray).size = 1 := rfl
        omega
      clear hJE
      generalize ((((((((key ++ sp) ++ kindWord kind) ++ sp) ++ itoaB most) ++ sp) ++ itoaB per) ++ sp) ++ itoaB burst) = J at *
      have hy : ¬ 9223372036854775807 < J.size + 1 := by omega
      go_wp2_with fail
      refine hK.out _ _ (HS.out _ m410) (fun hHeld => ?_)
      clear hK K
      try simp only [Act.put, List.setIfInBounds_toArray, List.set_cons_zero, List.set_cons_succ]
      refine heldO_take ?_ (by rfl) (by rfl) (by rfl) (fun w hSw => ?_) ?_
      rotate_left
      · (try dsimp only at hSw); go_simp; any_goals (with_reducible rfl)
      simp only [Act.put, List.setIfInBounds_toArray, List.set_cons_zero, List.set_cons_succ]
      refine heldO_nil ?_
      have hLS : (lineB ⟨key, kind, most, per, burst⟩).size ≤ 1200 := lineB_size q1 q3 q4 q5
      have hwr := bld_write b b L (lineB ⟨key, kind, most, per, burst⟩) w10 (HBl.out.new m410) (by omega)
      have HM8 : Hid (Mod (fun x => b ≤ x) w2 w10) := Lib.hid (HM4.out.trans (m410.mono (fun _ _ e => e.elim)))
      rw [← HLB.out] at hwr
      go_wp2_with fail
      refine hwr.mono ?_
      clear hwr
      rintro e w11 ⟨rfl, hb9, hm9⟩
      rw [HLB.out] at hb9
      have HB9 : Hid (Bld b b (L ++ (lineB ⟨key, kind, most, per, burst⟩).data.toList) w11) := Lib.hid hb9
      have HM9 := Lib.hid (HM8.out.trans hm9)
      clear hb9 hm9
      go_wp2_with fail
      exact ⟨⟨k + 1, by omega, by go_num, Lib.hid (by rw [HTK.out]; exact HB9.out), HM9⟩, by simp [intOf]; omega⟩
    · obtain rfl : k = ls.length := by omega
      have hB := HB.out
      rw [List.take_of_length_le (Nat.le_refl _)] at hB
      have hst := bld_string b b _ wr hB
      clear hB
      generalize hTX : textL ls = L at *
      have HTX := Lib.hid hTX
      clear hTX
      go_wp2_with fail
      refine hst.mono ?_
      clear hst
      rintro e w9 ⟨rfl, hm9⟩
      go_wp2_with fail
      go_ret
      exact ⟨by rw [HTX.out]; rfl, HMW.out.step (HM.out.trans hm9) (fun i hi e => by omega)⟩

end Go.Proofs.YtinnckbffblecaaGreatDoor
