/- Fair shares: the program's and the reference's are one function of the numbers. Conditions: numbers that an int holds. -/
import Derived.Test.YtinnckbffblecaaLimits
import Derived.Test.YtinnckbffblecaaOwn
namespace Go.Proofs.Ytinnckbffblecaa
open Go.RowKit

def wantOk (n q : Int) : Bool := decide (0 ≤ n) && decide (n ≤ 1000000000) && (decide (1 ≤ q) && decide (q ≤ 1000))
def okPairs (wants weights : List Int) : Bool := (List.zipWith wantOk wants weights).all id
def fairFault (most : Int) (wants weights : List Int) : Int :=
  if !(decide (0 ≤ most) && decide (most ≤ 1000000000)) then 1 else if 500 < wants.length then 2 else if weights.length ≠ wants.length then 3 else if okPairs wants weights then 0 else 1

theorem okPairs_take {a b : List Int} {k : Nat} (ha : k < a.length) (hb : k < b.length) : okPairs (a.take (k + 1)) (b.take (k + 1)) = (okPairs (a.take k) (b.take k) && wantOk a[k] b[k]) := by
  simp only [okPairs]
  rw [← List.take_zipWith, ← List.take_zipWith, List.take_succ_eq_append_getElem (by simp; omega)]
  simp
theorem okPairs_false {a b : List Int} {k : Nat} (h : okPairs (a.take k) (b.take k) = false) : okPairs a b = false := by
  simp only [okPairs] at *
  rw [← List.take_zipWith] at h
  simp only [List.all_eq_false, List.mem_iff_getElem?] at *
  obtain ⟨x, ⟨i, hi⟩, hx⟩ := h
  refine ⟨x, ⟨i, ?_⟩, hx⟩
  rw [List.getElem?_take] at hi
  split at hi
  · exact hi
  · cases hi

theorem IntSl.at {w : World} {A : Option Addr} {n : Nat} {xs : List Int} (h : IntSl w A n xs) {k : Nat} (hk : k < n) : ∃ g o, A = some ⟨g, o, none⟩ ∧ g < w.heap.size ∧ w.cell? ⟨g, o + k, none⟩ = some (.int .i64 (xs[k]'(by have := h.1; omega))) := by
  obtain ⟨g, o, hA, hg, hc⟩ := h.2 (by omega)
  have := hc k (by have := h.1; omega) 0 (by omega)
  exact ⟨g, o, hA, hg.lt, by simpa using this⟩

set_option maxHeartbeats 1000000 in
theorem limit_shareFault (most : Int) (xs ys : List Int) (A1 A2 : Option Addr) (n1 c1 n2 c2 : Nat) (w : World) (h1 : IntSl w A1 n1 xs) (h2 : IntSl w A2 n2 ys) (hn1 : n1 ≤ 1000000) (hn2 : n2 ≤ 1000000) :
    Calls Try.prog 38 #[.int .i64 most, .slice A1 n1 c1, .slice A2 n2 c2] w fun e w' => e = .returned (.int .i64 (fairFault most xs ys)) ∧ w = w' := by
  have l1 := h1.1
  have l2 := h2.1
  go_enter Try.func38, Try.ntmps38
  go_wp2_with fail
  refine (outside_any _ _ _ _).mono ?_
  rintro e w1 ⟨rfl, rfl⟩
  cases hm : (decide (0 ≤ most) && decide (most ≤ 1000000000))
  · go_wp2_with fail
    go_ret
    exact ⟨ret_int (by simp only [fairFault, hm]; simp), rfl⟩
  · by_cases h5 : 500 < n1
    · have h5' : (500 : Int) < n1 := by omega
      go_wp2_with fail
      go_ret
      exact ⟨ret_int (by simp only [fairFault, hm, l1, h5]; simp), rfl⟩
    · have h5' : ¬ (500 : Int) < n1 := by omega
      by_cases hne : n2 = n1
      · subst hne
        have hb : ((n2 : Int) != (n2 : Int)) = false := by simp
        have hfin : fairFault most xs ys = if okPairs xs ys then 0 else 1 := by simp only [fairFault, hm, l1, l2, h5]; simp
        have HF := Lib.hid hfin
        clear hfin
        go_wp2_with fail
        go_loop [7, 8, 21] (fun _ _ i => ∃ k : Nat, k ≤ n2 ∧ i = .int .i64 k ∧ okPairs (xs.take k) (ys.take k) = true) (fun _ _ i => n2 - (intOf i).toNat)
        case atStart => exact ⟨0, Nat.zero_le _, rfl, rfl⟩
        case round =>
          obtain ⟨k, hk, rfl, hok⟩ := hrel
          have HK := Lib.hid hok
          clear hok
          by_cases hlt : k < n2
          · obtain ⟨g1, o1, rfl, hg1, c1⟩ := h1.at hlt
            obtain ⟨g2, o2, rfl, hg2, c2⟩ := h2.at hlt
            have HS := Lib.hid (okPairs_take (a := xs) (b := ys) (k := k) (by omega) (by omega))
            have HO := Lib.hid (show wantOk xs[k] ys[k] = (decide (0 ≤ xs[k]) && decide (xs[k] ≤ 1000000000) && (decide (1 ≤ ys[k]) && decide (ys[k] ≤ 1000))) from rfl)
            generalize xs[k] = x at *
            generalize ys[k] = y at *
            have hb1 : (0 : Int) ≤ k := by omega
            have hb2 : (k : Int) < n2 := by omega
            go_wp2_with fail
            refine (outside_any _ _ _ _).mono ?_
            rintro e w1 ⟨rfl, rfl⟩
            cases hx : (decide (0 ≤ x) && decide (x ≤ 1000000000))
            · go_wp2_with fail
              go_ret
              exact ⟨ret_int (by rw [HF.out, okPairs_false (k := k + 1) (by rw [HS.out, HO.out, hx]; simp)]; simp), rfl⟩
            · go_wp2_with fail
              refine (outside_any _ _ _ _).mono ?_
              rintro e w1 ⟨rfl, rfl⟩
              cases hy : (decide (1 ≤ y) && decide (y ≤ 1000))
              · go_wp2_with fail
                go_ret
                exact ⟨ret_int (by rw [HF.out, okPairs_false (k := k + 1) (by rw [HS.out, HO.out, hy]; simp)]; simp), rfl⟩
              · go_wp2_with fail
                go_round
                case rel => exact ⟨k + 1, by omega, by go_num, by rw [HS.out, HO.out, HK.out, hx, hy]; rfl⟩
                case measure => simp [intOf]; omega
          · obtain rfl : k = n2 := by omega
            go_wp2_with fail
            go_ret
            have := HK.out
            rw [List.take_of_length_le (by omega), List.take_of_length_le (by omega)] at this
            exact ⟨ret_int (by rw [HF.out, this]; simp), rfl⟩
      · have hb : ((n2 : Int) != (n1 : Int)) = true := by simp; omega
        go_wp2_with fail
        go_ret
        exact ⟨ret_int (by simp only [fairFault, hm, l1, l2, h5]; simp [hne]), rfl⟩

set_option maxHeartbeats 1000000 in
theorem ref_fairFault (most : Int) (xs ys : List Int) (A1 A2 : Option Addr) (n1 c1 n2 c2 : Nat) (w : World) (h1 : IntSl w A1 n1 xs) (h2 : IntSl w A2 n2 ys) (hn1 : n1 ≤ 1000000) (hn2 : n2 ≤ 1000000) :
    Calls Try.prog 16 #[.int .i64 most, .slice A1 n1 c1, .slice A2 n2 c2] w fun e w' => e = .returned (.int .i64 (fairFault most xs ys)) ∧ w = w' := by
  have l1 := h1.1
  have l2 := h2.1
  go_enter Try.func16, Try.ntmps16
  go_wp2_with fail
  refine (ref1_in _ _ _ _).mono ?_
  rintro e w1 ⟨rfl, rfl⟩
  cases hm : (decide (0 ≤ most) && decide (most ≤ 1000000000))
  · go_wp2_with fail
    go_ret
    exact ⟨ret_int (by simp only [fairFault, hm]; simp), rfl⟩
  · by_cases h5 : 500 < n1
    · have h5' : (500 : Int) < n1 := by omega
      go_wp2_with fail
      go_ret
      exact ⟨ret_int (by simp only [fairFault, hm, l1, h5]; simp), rfl⟩
    · have h5' : ¬ (500 : Int) < n1 := by omega
      by_cases hne : n2 = n1
      · subst hne
        have hb : ((n2 : Int) != (n2 : Int)) = false := by simp
        have hfin : fairFault most xs ys = if okPairs xs ys then 0 else 1 := by simp only [fairFault, hm, l1, l2, h5]; simp
        have HF := Lib.hid hfin
        clear hfin
        go_wp2_with fail
        go_loop [7, 8, 25] (fun _ _ i => ∃ k : Nat, k ≤ n2 ∧ i = .int .i64 k ∧ okPairs (xs.take k) (ys.take k) = true) (fun _ _ i => n2 - (intOf i).toNat)
        case atStart => exact ⟨0, Nat.zero_le _, rfl, rfl⟩
        case round =>
          obtain ⟨k, hk, rfl, hok⟩ := hrel
          have HK := Lib.hid hok
          clear hok
          by_cases hlt : k < n2
          · obtain ⟨g1, o1, rfl, hg1, c1⟩ := h1.at hlt
            obtain ⟨g2, o2, rfl, hg2, c2⟩ := h2.at hlt
            have HS := Lib.hid (okPairs_take (a := xs) (b := ys) (k := k) (by omega) (by omega))
            have HO := Lib.hid (show wantOk xs[k] ys[k] = (decide (0 ≤ xs[k]) && decide (xs[k] ≤ 1000000000) && (decide (1 ≤ ys[k]) && decide (ys[k] ≤ 1000))) from rfl)
            generalize xs[k] = x at *
            generalize ys[k] = y at *
            have hb1 : (0 : Int) ≤ k := by omega
            have hb2 : (k : Int) < n2 := by omega
            go_wp2_with fail
            refine (ref1_in _ _ _ _).mono ?_
            rintro e w1 ⟨rfl, rfl⟩
            cases hx : (decide (0 ≤ x) && decide (x ≤ 1000000000))
            · go_wp2_with fail
              go_ret
              exact ⟨ret_int (by rw [HF.out, okPairs_false (k := k + 1) (by rw [HS.out, HO.out, hx]; simp)]; simp), rfl⟩
            · go_wp2_with fail
              refine (ref1_in _ _ _ _).mono ?_
              rintro e w1 ⟨rfl, rfl⟩
              cases hy : (decide (1 ≤ y) && decide (y ≤ 1000))
              · go_wp2_with fail
                go_ret
                exact ⟨ret_int (by rw [HF.out, okPairs_false (k := k + 1) (by rw [HS.out, HO.out, hy]; simp)]; simp), rfl⟩
              · go_wp2_with fail
                go_round
                case rel => exact ⟨k + 1, by omega, by go_num, by rw [HS.out, HO.out, HK.out, hx, hy]; rfl⟩
                case measure => simp [intOf]; omega
          · obtain rfl : k = n2 := by omega
            go_wp2_with fail
            go_ret
            have := HK.out
            rw [List.take_of_length_le (by omega), List.take_of_length_le (by omega)] at this
            exact ⟨ret_int (by rw [HF.out, this]; simp), rfl⟩
      · have hb : ((n1 : Int) != (n2 : Int)) = true := by simp; omega
        go_wp2_with fail
        go_ret
        exact ⟨ret_int (by simp only [fairFault, hm, l1, l2, h5]; simp [hne]), rfl⟩

def shareL (xs ys : List Int) (v : Int) : List Int := List.zipWith (fun n q => min n (q * v)) xs ys
theorem shareL_take {a b : List Int} {k : Nat} (v : Int) (ha : k < a.length) (hb : k < b.length) : shareL (a.take (k + 1)) (b.take (k + 1)) v = shareL (a.take k) (b.take k) v ++ [min a[k] (b[k] * v)] := by
  simp only [shareL]
  rw [← List.take_zipWith, ← List.take_zipWith, List.take_succ_eq_append_getElem (by simp; omega)]
  simp

/-- each want and each weight is as it must be -/
def Good (xs ys : List Int) : Prop := xs.length = ys.length ∧ xs.length ≤ 500 ∧ (∀ x ∈ xs, 0 ≤ x ∧ x ≤ 1000000000) ∧ (∀ y ∈ ys, 1 ≤ y ∧ y ≤ 1000)
theorem Good.of {most : Int} {xs ys : List Int} (h : fairFault most xs ys = 0) : Good xs ys ∧ 0 ≤ most ∧ most ≤ 1000000000 := by
  unfold fairFault at h
  split at h
  · cases h
  split at h
  · cases h
  split at h
  · cases h
  split at h
  · rename_i h1 h2 h3 h4
    have hl : ys.length = xs.length := by simpa using h3
    simp only [okPairs, List.all_eq_true, List.mem_iff_getElem] at h4
    have hp : ∀ i (h : i < xs.length) (h' : i < ys.length), wantOk xs[i] ys[i] = true := fun i h h' => by
      have := h4 (wantOk xs[i] ys[i]) ⟨i, by simp; omega, by simp⟩
      simpa using this
    refine ⟨⟨hl.symm, by omega, fun x hx => ?_, fun y hy => ?_⟩, ?_⟩
    · obtain ⟨i, hi, rfl⟩ := List.mem_iff_getElem.1 hx
      have := hp i hi (by omega)
      simp [wantOk] at this
      omega
    · obtain ⟨i, hi, rfl⟩ := List.mem_iff_getElem.1 hy
      have := hp i (by omega) hi
      simp [wantOk] at this
      omega
    · simp at h1
      omega
  · cases h

theorem share_bd {xs ys : List Int} (h : Good xs ys) (v : Int) (hv : 0 ≤ v) (hv2 : v ≤ 1000000000) (k : Nat) (hk : k ≤ xs.length) :
    0 ≤ (shareL (xs.take k) (ys.take k) v).sum ∧ (shareL (xs.take k) (ys.take k) v).sum ≤ k * 1000000000 := by
  induction k with
  | zero => simp [shareL]
  | succ k ih =>
    have hx := h.2.2.1 xs[k] (List.getElem_mem _)
    have hy := h.2.2.2 (ys[k]'(by have := h.1; omega)) (List.getElem_mem _)
    have hm := Int.mul_nonneg (show 0 ≤ ys[k]'(by have := h.1; omega) by omega) hv
    rw [shareL_take v (by omega) (by have := h.1; omega)]
    have := ih (by omega)
    simp only [List.sum_append, List.sum_cons, List.sum_nil]
    omega

def RShares (w : World) (n : Nat) (zs : List Int) (s : Int) (e : Ending) (w' : World) : Prop := ∃ A c, e = .returned (.tuple #[.slice A n c, .int .i64 s]) ∧ IntOwn w' w.heap.size A n c zs ∧ New w w'

set_option maxHeartbeats 1000000 in
theorem limit_shares (xs ys : List Int) (v : Int) (A1 A2 : Option Addr) (n c1 c2 : Nat) (w : World) (h1 : IntSl w A1 n xs) (h2 : IntSl w A2 n ys) (hg : Good xs ys) (hv : 0 ≤ v) (hv2 : v ≤ 1000000000) :
    Calls Try.prog 39 #[.slice A1 n c1, .slice A2 n c2, .int .i64 v] w (RShares w n (shareL xs ys v) (shareL xs ys v).sum) := by
  have l1 := h1.1
  have l2 := h2.1
  have hn := hg.2.1
  go_enter Try.func39, Try.ntmps39
  go_wp2_with fail
  go_loopw [8, 9, 10, 11, 12, 15] (fun o s _ _ _ i wr => ∃ (k : Nat) (A : Option Addr) (c : Nat), k ≤ n ∧ i = .int .i64 k ∧ o = .slice A k c ∧ IntOwn wr w.heap.size A k c (shareL (xs.take k) (ys.take k) v) ∧
    s = .int .i64 (shareL (xs.take k) (ys.take k) v).sum ∧ New w wr) (fun _ _ _ _ _ i _ => n - (intOf i).toNat)
  case atStart => exact ⟨0, none, 0, Nat.zero_le _, rfl, rfl, Own.nil, rfl, Mod.refl _ _⟩
  case round =>
    obtain ⟨k, A, c, hk, rfl, rfl, hown, rfl, hm⟩ := hrel
    by_cases hlt : k < n
    · obtain ⟨g1, o1, rfl, hg1, c1⟩ := IntSl.at (h1.new hm) hlt
      obtain ⟨g2, o2, rfl, hg2, c2⟩ := IntSl.at (h2.new hm) hlt
      have HS := Lib.hid (shareL_take (a := xs) (b := ys) (k := k) v (by omega) (by omega))
      have hbd := share_bd hg v hv hv2 k (by omega)
      have hbd2 := share_bd hg v hv hv2 (k + 1) (by omega)
      have hx := hg.2.2.1 xs[k] (List.getElem_mem _)
      have hy := hg.2.2.2 (ys[k]'(by omega)) (List.getElem_mem _)
      have hyv := Int.mul_le_mul hy.2 hv2 hv (by omega)
      have hyv0 := Int.mul_nonneg (show 0 ≤ ys[k]'(by omega) by omega) hv
      generalize xs[k] = x at *
      generalize ys[k]'(by omega) = y at *
      rw [HS.out] at hbd2
      simp only [List.sum_append, List.sum_cons, List.sum_nil] at hbd2
      have hb1 : (0 : Int) ≤ k := by omega
      have hb2 : (k : Int) < n := by omega
      have hmn : -9000000000000000000 ≤ min x (y * v) ∧ min x (y * v) ≤ 1000000000 := by omega
      generalize hzs : shareL (xs.take k) (ys.take k) v = zs at *
      clear hzs
      have hmsz := hm.size
      go_wp2_with (at_builtin; refine wpList_push rfl _ _ _ rfl 8 Try.underlying22 einfo_int rfl (hown.alloc _) (min x (y * v)) wr.heap.size rfl (Blk.new _ _ _) (fun _ _ => rfl) (by omega) (by omega) (by simp; omega) ?_; intro g cap w1 hown1 hm1 hat hlt1)
      have hm2 := (hown.alloc _).push_mod (hm.alloc _) hm1 (Nat.le_refl _)
      refine ⟨⟨k + 1, some ⟨g, 0, none⟩, cap, by omega, by go_num, rfl, by rw [HS.out]; exact hown1, by rw [HS.out]; simp, hm2⟩, by simp [intOf]; omega⟩
    · obtain rfl : k = n := by omega
      go_wp2_with fail
      go_ret2
      rw [List.take_of_length_le (by omega), List.take_of_length_le (by omega)] at *
      exact ⟨A, c, rfl, hown, hm⟩

end Go.Proofs.Ytinnckbffblecaa
