/- What lasts: sums and waits over pieces. Conditions: pieces with modest numbers. -/
import Derived.Test.YtinnckbffblecaaGreatMeterLaw3
import Derived.Test.YtinnckbffblecaaGreatRow
namespace Go.Proofs.YtinnckbffblecaaGreat
open Go.RowKit
set_option linter.unusedVariables false
set_option linter.unusedSimpArgs false

def Pc.enc (x : Pc) : Nat → Value
  | 0 => .int .i64 x.until_
  | 1 => .int .i64 x.cost
  | _ => .nilFunc
theorem Pc.one (x : Pc) (j : Nat) (hj : j < 2) : (x.enc j).oneCell' = true := by
  obtain rfl | rfl : j = 0 ∨ j = 1 := by omega
  all_goals rfl
theorem einfo_pc : EInfo Tryz.prog 211 2 16 := EInfo.of (z := .agg #[.int .i64 0, .int .i64 0]) (by kernel_rfl) rfl (by decide)
abbrev PcRows (w : World) (A : Option Addr) (n : Nat) (l : List Pc) : Prop := Sl w 211 2 Pc.enc A n l
def Pc.Mild (x : Pc) : Prop := (-1000000000000 ≤ x.until_ ∧ x.until_ ≤ 1000000000000) ∧ 0 ≤ x.cost ∧ x.cost ≤ 1000000000

theorem sumC_bd {l : List Pc} (h : ∀ x ∈ l, x.Mild) (t : Int) : 0 ≤ sumC l t ∧ sumC l t ≤ 1000000000 * l.length := by
  induction l with
  | nil => simp [sumC]
  | cons x l ih =>
    have h1 := (h x (by simp)).2
    have h2 := ih (fun y hy => h y (by simp [hy]))
    simp only [sumC, List.length_cons]
    split <;> omega
theorem sumC_take {l : List Pc} {k : Nat} (hk : k < l.length) (t : Int) : sumC (l.take (k + 1)) t = sumC (l.take k) t + (if t < l[k].until_ then l[k].cost else 0) := by
  rw [List.take_succ_eq_append_getElem hk, sumC_append]
  simp [sumC]

set_option maxHeartbeats 1000000 in
theorem pieces_sum (ps : List Pc) (A : Option Addr) (n c : Nat) (w : World) (h : PcRows w A n ps) (hm : ∀ x ∈ ps, x.Mild) (hn : n ≤ 1000000) (t : Int) :
    Calls Tryz.prog 151 #[.slice A n c, .int .i64 t] w fun e w' => e = .returned (.int .i64 (sumC ps t)) ∧ New w w' := by
  have hlen := h.1
  have H := Lib.hid h
  have HM := Lib.hid hm
  clear h hm
  go_enter Tryz.func151, Tryz.ntmps151
  go_wp2_with fail
  go_loopw [5, 7, 10] (fun s _ i wr => ∃ k : Nat, k ≤ n ∧ i = .int .i64 k ∧ s = .int .i64 (sumC (ps.take k) t) ∧ New w wr) (fun _ _ i _ => n - (intOf i).toNat)
  case atStart => exact ⟨0, Nat.zero_le _, rfl, rfl, Mod.refl _ _⟩
  case round =>
    rename World => wr
    obtain ⟨k, hk, rfl, rfl, hmw⟩ := hrel
    by_cases hlt : k < n
    · obtain ⟨g, o, hA, hg, hc⟩ := (H.out.new hmw).2 (by omega)
      subst hA
      have hkl : k < ps.length := by omega
      have c0 := hc k hkl 0 (by omega)
      have c1 := hc k hkl 1 (by omega)
      simp only [Pc.enc, Nat.add_zero] at c0 c1
      have hgl := hg.lt
      have HST := Lib.hid (sumC_take hkl t)
      have hml := (HM.out ps[k] (List.getElem_mem _)).2
      have hbd := sumC_bd (l := ps.take k) (fun x hx => HM.out x (List.mem_of_mem_take hx)) t
      have hb0 : (ps.take k).length ≤ 1000000 := by simp; omega
      have hb1 : (0 : Int) ≤ k := by omega
      have hb2 : (k : Int) < n := by omega
      have hs1 : sumC (ps.take k) t ≤ 1000000000000000 := by
        have : (1000000000 : Int) * (ps.take k).length ≤ 1000000000 * 1000000 := Int.mul_le_mul_of_nonneg_left (by omega) (by omega)
        omega
      have hs0 := hbd.1
      clear hc hbd hb0
      generalize ps[k] = x at *
      generalize sumC (ps.take k) t = S at *
      by_cases hx : t < x.until_
      · have hst := HST.out
        rw [if_pos hx] at hst
        have HS2 := Lib.hid hst
        clear hst
        go_wp2_with fail
        exact ⟨⟨k + 1, by omega, by go_num, by rw [HS2.out], hmw.alloc _⟩, by simp [intOf]; omega⟩
      · have hst := HST.out
        rw [if_neg hx] at hst
        have HS2 := Lib.hid hst
        clear hst
        go_wp2_with fail
        exact ⟨⟨k + 1, by omega, by go_num, by rw [HS2.out]; simp, hmw.alloc _⟩, by simp [intOf]; omega⟩
    · obtain rfl : k = n := by omega
      go_wp2_with fail
      go_ret
      exact ⟨ret_int (by rw [List.take_of_length_le (by omega)]), hmw⟩

theorem waitGo_drop {ps : List Pc} {k : Nat} (hk : k < ps.length) (t m S : Int) : waitGo t m (ps.drop k) S = if ps[k].until_ ≤ t then waitGo t m (ps.drop (k + 1)) S else if S - ps[k].cost ≤ m then ps[k].until_ - t else waitGo t m (ps.drop (k + 1)) (S - ps[k].cost) := by
  rw [List.drop_eq_getElem_cons hk, waitGo]

set_option maxHeartbeats 1000000 in
theorem pieces_wait (ps : List Pc) (A : Option Addr) (n c : Nat) (w : World) (h : PcRows w A n ps) (hm : ∀ x ∈ ps, x.Mild) (hn : n ≤ 1000000) (t m : Int) (ht : 0 ≤ t ∧ t ≤ 1000000000000) :
    Calls Tryz.prog 152 #[.slice A n c, .int .i64 t, .int .i64 m] w fun e w' => e = .returned (.int .i64 (waitP ps t m)) ∧ New w w' := by
  have hlen := h.1
  have hsum := pieces_sum ps A n c w h hm hn t
  have hbd := sumC_bd hm t
  have hs0 : -1000000000000000000 ≤ sumC ps t ∧ sumC ps t ≤ 1000000000000000 := by
    have : (1000000000 : Int) * ps.length ≤ 1000000000 * 1000000 := Int.mul_le_mul_of_nonneg_left (by omega) (by omega)
    omega
  have H := Lib.hid h
  have HM := Lib.hid hm
  have HW : Hid (waitP ps t m = waitGo t m ps (sumC ps t)) := Lib.hid rfl
  clear h hm hbd
  generalize sumC ps t = S0 at *
  go_enter Tryz.func152, Tryz.ntmps152
  go_wp2_with (go_at_call 151; refine hsum.mono ?_; clear hsum; rintro e w1 ⟨rfl, m1⟩)
  go_loopw [7, 9, 15] (fun s _ i wr => ∃ (k : Nat) (S : Int), k ≤ n ∧ i = .int .i64 k ∧ s = .int .i64 S ∧ S ≤ 1000000000000000 ∧ -1000000000000000000 - 1000000000 * k ≤ S ∧ Hid (waitGo t m ps S0 = waitGo t m (ps.drop k) S) ∧ New w wr) (fun _ _ i _ => n - (intOf i).toNat)
  case atStart => exact ⟨0, S0, Nat.zero_le _, rfl, rfl, by omega, by omega, Lib.hid rfl, m1⟩
  case round =>
    rename World => wr
    obtain ⟨k, S, hk, rfl, rfl, hS1, hS0, HG, hmw⟩ := hrel
    by_cases hlt : k < n
    · obtain ⟨g, o, hA, hg, hc⟩ := (H.out.new hmw).2 (by omega)
      subst hA
      have hkl : k < ps.length := by omega
      have c0 := hc k hkl 0 (by omega)
      have c1 := hc k hkl 1 (by omega)
      simp only [Pc.enc, Nat.add_zero] at c0 c1
      have hgl := hg.lt
      have HST := Lib.hid (HG.out.trans (waitGo_drop hkl t m S))
      obtain ⟨hmu, hml⟩ := HM.out ps[k] (List.getElem_mem _)
      have hb1 : (0 : Int) ≤ k := by omega
      have hb2 : (k : Int) < n := by omega
      clear hc HG
      generalize ps[k] = x at *
      by_cases hx : x.until_ ≤ t
      · have hst := HST.out
        rw [if_pos hx] at hst
        have HS2 := Lib.hid hst
        clear hst
        go_wp2_with fail
        exact ⟨⟨k + 1, S, by omega, by go_num, rfl, hS1, by omega, HS2, hmw.alloc _⟩, by simp [intOf]; omega⟩
      · have hst := HST.out
        rw [if_neg hx] at hst
        by_cases hy : S - x.cost ≤ m
        · rw [if_pos hy] at hst
          have HS2 := Lib.hid hst
          clear hst
          go_wp2_with fail
          go_ret
          exact ⟨ret_int (by rw [HW.out, HS2.out]), hmw.alloc _⟩
        · rw [if_neg hy] at hst
          have HS2 := Lib.hid hst
          clear hst
          go_wp2_with fail
          exact ⟨⟨k + 1, S - x.cost, by omega, by go_num, rfl, by omega, by omega, HS2, hmw.alloc _⟩, by simp [intOf]; omega⟩
    · obtain rfl : k = n := by omega
      go_wp2_with fail
      go_ret
      exact ⟨ret_int (by rw [HW.out, HG.out, List.drop_of_length_le (by omega), waitGo]), hmw⟩

end Go.Proofs.YtinnckbffblecaaGreat
