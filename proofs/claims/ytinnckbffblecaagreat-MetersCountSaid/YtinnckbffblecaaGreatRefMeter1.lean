/- The reference's meter: how much of a limit is used, how much is in a bucket. Conditions: limits were checked, what was let in was checked. -/
import Derived.Test.YtinnckbffblecaaGreatVerdict
namespace Go.Proofs.YtinnckbffblecaaGreat
open Go.RowKit
set_option linter.unusedVariables false
set_option linter.unusedSimpArgs false

theorem usedR_take (l : Lim) {p : List AskD} {k : Nat} (hk : k < p.length) (t : Int) : usedR l (p.take (k + 1)) t = usedR l (p.take k) t + (if countsR l p[k] t then p[k].cost else 0) := by
  rw [List.take_succ_eq_append_getElem hk, usedR_append]
  simp [usedR]
theorem usedR_bd (l : Lim) {p : List AskD} (h : ∀ a ∈ p, RAskD a) (t : Int) : 0 ≤ usedR l p t ∧ usedR l p t ≤ 1000000000 * p.length := by
  induction p with
  | nil => simp [usedR]
  | cons a p ih =>
    have h1 := (h a (by simp)).cost
    have h2 := ih (fun b hb => h b (by simp [hb]))
    simp only [usedR, List.length_cons]
    split <;> omega


set_option maxRecDepth 100000 in
set_option maxHeartbeats 2000000 in
theorem ref_used (l : Lim) (hl : RLim' l) (h3 : l.kind ≠ 3) (p : List AskD) (A : Option Addr) (n c : Nat) (t : Int) (w : World) (h : AskRows w A n p) (hp : ∀ a ∈ p, RAskD a) (hn : n ≤ 100000) (ht : 0 ≤ t ∧ t ≤ 1000000000000) :
    Calls Tryz.prog 69 #[l.val, .slice A n c, .int .i64 t] w fun e w' => e = .returned (.int .i64 (usedR l p t)) ∧ New w w' := by
  have hlen := h.1
  have hbd := fun k => usedR_bd l (p := p.take k) (fun x hx => hp x (List.mem_of_mem_take hx)) t
  have hcn : ∀ a, countsR l a t = if l.kind = 1 then decide (a.at_ / l.per = t / l.per) else if l.kind = 2 then decide (t - l.per < a.at_) else decide (a.at_ ≤ t) && decide (t < a.at_ + a.long) := fun a => by
    unfold countsR
    have := hl.kind
    by_cases h1 : l.kind = 1
    · rw [if_pos h1, if_pos h1]
    · rw [if_neg h1, if_neg h1]
      by_cases h2 : l.kind = 2
      · rw [if_pos h2, if_pos h2]
      · rw [if_neg h2, if_neg h2, if_pos (by omega)]
  have hper := hl.per
  have hkd := hl.kind
  have hut := fun k (hk : k < p.length) => usedR_take l hk t
  generalize hU : usedR l = U at *
  generalize hC : countsR l = C at *
  obtain ⟨key, kind, most, per, burst⟩ := l
  simp only at hper hkd hcn h3
  simp only [Lim.val]
  have H := Lib.hid h
  have HP := Lib.hid hp
  have HBD := Lib.hid hbd
  have HCN := Lib.hid hcn
  have HUT := Lib.hid hut
  have HLEN := Lib.hid hlen
  have HU0 : Hid (U [] t = 0) := Lib.hid (by rw [← hU]; rfl)
  clear h hp hbd hcn hut hlen hU hC hl
  go_enter Tryz.func69, Tryz.ntmps69
  go_wp2_with fail
  have hA1 := (Mod.refl (fun _ => False) w).alloc (.cells #[.string key, .int .i64 kind, .int .i64 most, .int .i64 per, .int .i64 burst] 28)
  have bl := Blk.new w 28 #[.string key, .int .i64 kind, .int .i64 most, .int .i64 per, .int .i64 burst]
  have H1 := Lib.hid (H.out.new hA1)
  generalize w.alloc (.cells #[.string key, .int .i64 kind, .int .i64 most, .int .i64 per, .int .i64 burst] 28) = w1 at *
  have HA1 := Lib.hid hA1
  have HBL := Lib.hid bl
  clear hA1 bl
  go_loopw [7, 9, 10, 13] (fun s _ _ i wr => ∃ k : Nat, k ≤ n ∧ i = .int .i64 k ∧ s = .int .i64 (U (p.take k) t) ∧ New w1 wr) (fun _ _ _ i _ => n - (intOf i).toNat)
  case atStart => exact ⟨0, Nat.zero_le _, rfl, by rw [List.take_zero, HU0.out], Mod.refl _ _⟩
  case round =>
    rename World => wr
    obtain ⟨k, hk, rfl, rfl, hm⟩ := hrel
    by_cases hlt : k < n
    · obtain ⟨g, o, hA, hg, hc⟩ := (H1.out.new hm).2 (by omega)
      subst hA
      have hkl : k < p.length := by have := HLEN.out; omega
      have c0 := hc k hkl 0 (by omega)
      have c1 := hc k hkl 1 (by omega)
      have c2 := hc k hkl 2 (by omega)
      have c3 := hc k hkl 3 (by omega)
      simp only [AskD.enc, Nat.add_zero] at c0 c1 c2 c3
      have hgl := hg.lt
      have hbw := HBL.out.new'' hm
      have b1 := hbw.cell 1
      have b3 := hbw.cell 3
      have hbl := hbw.lt
      simp at b1 b3
      have hra := HP.out p[k] (List.getElem_mem _)
      have hbd := HBD.out k
      have hle : (1000000000 : Int) * (p.take k).length ≤ 1000000000 * 100000 := Int.mul_le_mul_of_nonneg_left (by have := HLEN.out; simp; omega) (by omega)
      have hbd1 := hbd.1
      have hbd2 : U (p.take k) t ≤ 100000000000000 := by omega
      have HST := Lib.hid (HUT.out k hkl)
      have HCC := Lib.hid (HCN.out p[k])
      obtain ⟨⟨a1, a2⟩, ⟨a3, a4⟩, ⟨a5, a6⟩⟩ := hra
      have hb1 : (0 : Int) ≤ k := by omega
      have hb2 : (k : Int) < n := by omega
      clear hc hbd hle hbw
      generalize p[k] = x at *
      generalize U (p.take k) t = S at *
      obtain ⟨at_, who, cost, long⟩ := x
      simp only at c0 c1 c2 c3 a1 a2 a3 a4 a5 a6
      by_cases h1 : kind = 1
      · subst h1
        have hp := hper (by omega)
        have hp0 : (per == 0) = false := by simp; omega
        have hpne : ¬ per = 0 := by omega
        have d1 := Int.ediv_le_self per a1
        have d2 := Int.ediv_nonneg a1 (show 0 ≤ per by omega)
        have d3 := Int.ediv_le_self per ht.1
        have d4 := Int.ediv_nonneg ht.1 (show 0 ≤ per by omega)
        have e1 : IntKind.i64.wrap (at_ / per) = at_ / per := IntWalk.i64_in _ (by omega)
        have e2 : at_.tdiv per = at_ / per := Int.tdiv_eq_ediv_of_nonneg a1
        have e3 : IntKind.i64.wrap (t / per) = t / per := IntWalk.i64_in _ (by omega)
        have e4 : t.tdiv per = t / per := Int.tdiv_eq_ediv_of_nonneg ht.1
        by_cases hq : at_ / per = t / per
        · have HCX : Hid (C ⟨at_, who, cost, long⟩ t = true) := Lib.hid (by rw [HCC.out]; simp [hq])
          have hq1 : (at_ / per == t / per) = true := by simpa using hq
          clear hq
          go_wp2_with fail
          go_quiet (fail)
          go_wp2_with fail
          refine ⟨⟨k + 1, by omega, by go_num, by rw [HST.out, HCX.out]; simp, hm.trans (by with_reducible (repeat (first | exact Mod.refl _ _ | refine Mod.drewN ?_ _ | refine Mod.drew ?_ | refine Mod.alloc ?_ _)))⟩, by simp [intOf]; omega⟩
        · have HCX : Hid (C ⟨at_, who, cost, long⟩ t = false) := Lib.hid (by rw [HCC.out]; simp [hq])
          have hq1 : (at_ / per == t / per) = false := by simpa using hq
          clear hq
          go_wp2_with fail
          go_quiet (fail)
          go_wp2_with fail
          refine ⟨⟨k + 1, by omega, by go_num, by rw [HST.out, HCX.out]; simp, hm.trans (by with_reducible (repeat (first | exact Mod.refl _ _ | refine Mod.drewN ?_ _ | refine Mod.drew ?_ | refine Mod.alloc ?_ _)))⟩, by simp [intOf]; omega⟩
      · have h1' : (kind == 1) = false := by simpa using h1
        by_cases h2 : kind = 2
        · subst h2
          have hp := hper (by omega)
          by_cases hq : t - per < at_
          · have HCX : Hid (C ⟨at_, who, cost, long⟩ t = true) := Lib.hid (by rw [HCC.out]; simp [hq])
            go_wp2_with fail
            refine ⟨⟨k + 1, by omega, by go_num, by rw [HST.out, HCX.out]; simp, hm.trans (by with_reducible (repeat (first | exact Mod.refl _ _ | refine Mod.drewN ?_ _ | refine Mod.drew ?_ | refine Mod.alloc ?_ _)))⟩, by simp [intOf]; omega⟩
          · have HCX : Hid (C ⟨at_, who, cost, long⟩ t = false) := Lib.hid (by rw [HCC.out]; simp [hq])
            go_wp2_with fail
            refine ⟨⟨k + 1, by omega, by go_num, by rw [HST.out, HCX.out]; simp, hm.trans (by with_reducible (repeat (first | exact Mod.refl _ _ | refine Mod.drewN ?_ _ | refine Mod.drew ?_ | refine Mod.alloc ?_ _)))⟩, by simp [intOf]; omega⟩
        · have h2' : (kind == 2) = false := by simpa using h2
          obtain rfl : kind = 4 := by omega
          by_cases hq : at_ ≤ t
          · by_cases hq2 : t < at_ + long
            · have HCX : Hid (C ⟨at_, who, cost, long⟩ t = true) := Lib.hid (by rw [HCC.out]; simp [hq, hq2])
              have hd1 : decide (at_ ≤ t) = true := by simpa using hq
              have hd2 : decide (t < at_ + long) = true := by simpa using hq2
              go_wp2_with fail
              refine ⟨⟨k + 1, by omega, by go_num, by rw [HST.out, HCX.out]; simp, hm.trans (by with_reducible (repeat (first | exact Mod.refl _ _ | refine Mod.drewN ?_ _ | refine Mod.drew ?_ | refine Mod.alloc ?_ _)))⟩, by simp [intOf]; omega⟩
            · have HCX : Hid (C ⟨at_, who, cost, long⟩ t = false) := Lib.hid (by rw [HCC.out]; simp [hq, hq2])
              have hd1 : decide (at_ ≤ t) = true := by simpa using hq
              have hd2 : decide (t < at_ + long) = false := by simpa using hq2
              go_wp2_with fail
              refine ⟨⟨k + 1, by omega, by go_num, by rw [HST.out, HCX.out]; simp, hm.trans (by with_reducible (repeat (first | exact Mod.refl _ _ | refine Mod.drewN ?_ _ | refine Mod.drew ?_ | refine Mod.alloc ?_ _)))⟩, by simp [intOf]; omega⟩
          · have HCX : Hid (C ⟨at_, who, cost, long⟩ t = false) := Lib.hid (by rw [HCC.out]; simp [hq])
            have hd1 : decide (at_ ≤ t) = false := by simpa using hq
            go_wp2_with fail
            refine ⟨⟨k + 1, by omega, by go_num, by rw [HST.out, HCX.out]; simp, hm.trans (by with_reducible (repeat (first | exact Mod.refl _ _ | refine Mod.drewN ?_ _ | refine Mod.drew ?_ | refine Mod.alloc ?_ _)))⟩, by simp [intOf]; omega⟩
    · obtain rfl : k = n := by omega
      go_wp2_with fail
      go_ret
      exact ⟨ret_int (by rw [List.take_of_length_le (by have := HLEN.out; omega)]), HA1.out.trans hm⟩

end Go.Proofs.YtinnckbffblecaaGreat
