/- Small functions of the statements: an error under a condition, the first error of several. No conditions. -/
import Derived.Test.YtinnckbffblecaaGreatRoom
import Derived.Test.YtinnckbffblecaaGreatOwn
namespace Go.Proofs.YtinnckbffblecaaGreat
open Go.RowKit
set_option linter.unusedVariables false
set_option linter.unusedSimpArgs false

def whenE (b : Bool) (e : Int) : Int := if b then e else 0
def orL : List Int → Int
  | [] => 0
  | x :: xs => if x = 0 then orL xs else x
theorem orL_drop {xs : List Int} {k : Nat} (h : k < xs.length) : orL (xs.drop k) = if xs[k] = 0 then orL (xs.drop (k + 1)) else xs[k] := by
  rw [List.drop_eq_getElem_cons h, orL]

set_option maxHeartbeats 1000000 in
theorem cmpOr_any (xs : List Int) (g n : Nat) (w : World) (hb : Blk w g 36 (xs.map (Value.int .i64)).toArray) (hn : xs.length = n) (hn2 : n ≤ 1000) :
    Calls Tryz.prog 26 #[.slice (some ⟨g, 0, none⟩) n n] w fun e w' => e = .returned (.int .i64 (orL xs)) ∧ w = w' := by
  go_enter Tryz.func26, Tryz.ntmps26
  go_wp2_with fail
  go_loop [5, 8] (fun _ i => ∃ k : Nat, k ≤ n ∧ i = .int .i64 k ∧ orL xs = orL (xs.drop k)) (fun _ i => n - (intOf i).toNat)
  case atStart => exact ⟨0, Nat.zero_le _, rfl, by simp⟩
  case round =>
    obtain ⟨k, hk, rfl, hor⟩ := hrel
    have HO := Lib.hid hor
    clear hor
    by_cases hlt : k < n
    · have hc := hb.cell k
      rw [show (xs.map (Value.int .i64)).toArray[k]? = some (.int .i64 (xs[k]'(by omega))) by simp] at hc
      have HD := Lib.hid (orL_drop (xs := xs) (k := k) (by omega))
      generalize xs[k]'(by omega) = x at *
      have hb1 : (0 : Int) ≤ k := by omega
      have hb2 : (k : Int) < n := by omega
      by_cases hx : x = 0
      · subst hx
        go_wp2_with fail
        go_round
        case rel => exact ⟨k + 1, by omega, by go_num, by rw [HO.out, HD.out]; simp⟩
        case measure => simp [intOf]; omega
      · have hx' : (x != 0) = true := by simp [hx]
        go_wp2_with fail
        go_ret
        exact ⟨ret_int (by rw [HO.out, HD.out, if_neg hx]), rfl⟩
    · obtain rfl : k = n := by omega
      go_wp2_with fail
      go_ret
      exact ⟨ret_int (by rw [HO.out, List.drop_of_length_le (by omega)]; rfl), rfl⟩

theorem room_fault (x : Lim) (long : Int) : orL [limsFault [x], whenE (x.kind == 4) 10, whenE (decide (long < 1) || decide (100000 < long)) 1] = (roomSpec x long).2 := by
  unfold roomSpec orL orL orL whenE
  by_cases h1 : limsFault [x] = 0
  · by_cases h2 : x.kind = 4
    · simp [h1, h2]
    · by_cases h3 : 1 ≤ long ∧ long ≤ 100000
      · have h4 : ¬ long < 1 := by omega
        have h5 : ¬ 100000 < long := by omega
        simp [h1, h2, h3, h4, h5, orL]
      · have h6 : (decide (long < 1) || decide (100000 < long)) = true := by simp; omega
        rw [h6]
        simp only [h1, h2, h3]
        simp [h2]
  · simp [h1]


theorem equal_ints (zs : List Int) (A1 A2 : Option Addr) (n c1 c2 : Nat) (w : World) (h1 : IntSl w A1 n zs) (h2 : IntSl w A2 n zs) (hn : n ≤ 1000000) :
    Calls Tryz.prog 34 #[.slice A1 n c1, .slice A2 n c2] w fun e w' => e = .returned (.bool true) ∧ ∃ q, w' = w.drewN q := by
  rcases Nat.eq_zero_or_pos n with rfl | h0
  · refine (Tryz.slices_Equal_int_empty A1 A2 c1 0 c2 w (by omega)).mono ?_
    rintro e w' ⟨rfl, rfl⟩
    exact ⟨by simp, 0, rfl⟩
  · obtain ⟨g1, o1, rfl, _, k1⟩ := h1.2 h0
    obtain ⟨g2, o2, rfl, _, k2⟩ := h2.2 h0
    have hl := h1.1
    refine (Tryz.slices_Equal_int g1 o1 n c1 g2 o2 n c2 zs zs w (by omega) (by omega) (by omega) (by omega) (fun j hj => ?_) (fun j hj => ?_)).mono ?_
    · have := k1 j hj 0 (by omega)
      simpa [List.getD_eq_getElem?_getD, hj] using this
    · have := k2 j hj 0 (by omega)
      simpa [List.getD_eq_getElem?_getD, hj] using this
    · rintro e w' ⟨rfl, q, rfl⟩
      exact ⟨by simp, q, rfl⟩

end Go.Proofs.YtinnckbffblecaaGreat
