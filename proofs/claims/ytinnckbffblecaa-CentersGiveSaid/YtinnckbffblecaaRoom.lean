/- How much a limit can let in: the program's count and the reference's are one. Conditions: a limit that was checked. -/
import Derived.Test.YtinnckbffblecaaBucket
namespace Go.Proofs.Ytinnckbffblecaa
open Go.RowKit

theorem limSelf_zero {l : Lim} (h : limSelf l = 0) : (1 ≤ l.kind ∧ l.kind ≤ 4) ∧ (1 ≤ l.most ∧ l.most ≤ 1000000000) ∧ (l.kind = 4 → l.per = 0) ∧ (l.kind ≠ 4 → 1 ≤ l.per ∧ l.per ≤ 8640000000) ∧
    (l.kind ≠ 3 → l.burst = 0) ∧ (l.kind = 3 → 1 ≤ l.burst ∧ l.burst ≤ 1000000000) := by
  unfold limSelf at h
  split at h
  · cases h
  split at h
  · cases h
  split at h
  · cases h
  split at h
  · cases h
  simp at *
  omega

/-- the levels of a bucket that is emptied at each moment, and what came out, moment by moment -/
def drain (l : Lim) : Nat → Int × Int
  | 0 => (l.burst * l.per, 0)
  | k + 1 => let p := drain l k; (min (l.burst * l.per) (p.1 % l.per + l.most), p.2 + p.1 / l.per)

theorem drain_bd (l : Lim) (hl : BLim l) (k : Nat) : 0 ≤ (drain l k).1 ∧ (drain l k).1 ≤ l.burst * l.per ∧ 0 ≤ (drain l k).2 ∧ (drain l k).2 ≤ k * 1000000000 := by
  obtain ⟨hf1, hf2⟩ := hl.full
  obtain ⟨hm1, hm2⟩ := hl.most
  obtain ⟨hp1, hp2⟩ := hl.per
  obtain ⟨hb1, hb2⟩ := hl.burst
  induction k with
  | zero => simp [drain]; omega
  | succ k ih =>
    obtain ⟨h1, h2, h3, h4⟩ := ih
    have h5 := Int.emod_nonneg (drain l k).1 (show l.per ≠ 0 by omega)
    have h6 := Int.ediv_nonneg h1 (show 0 ≤ l.per by omega)
    have h7 : (drain l k).1 / l.per ≤ l.burst := Int.ediv_le_of_le_mul (by omega) h2
    simp only [drain]
    refine ⟨by omega, by omega, by omega, by omega⟩

theorem upDiv_le (a b d : Int) (h1 : 1 ≤ b) (hd : upDiv a b ≤ d) : a ≤ b * d := by
  have h3 := Int.mul_ediv_add_emod a b
  have h4 := Int.emod_nonneg a (by omega : b ≠ 0)
  have h5 := Int.emod_lt_of_pos a (by omega : 0 < b)
  unfold upDiv at hd
  split at hd
  · have h5 : b * (a / b) ≤ b * d := Int.mul_le_mul_of_nonneg_left (by omega) (by omega)
    omega
  · have h5 : b * (a / b + 1) ≤ b * d := Int.mul_le_mul_of_nonneg_left (by omega) (by omega)
    rw [Int.mul_add] at h5
    omega

/-- the program's bucket, emptied at the moment before, is at the next moment as the reference says -/
theorem bucketNow_next (l : Lim) (hl : BLim l) (n : Int) (k : Int) (h0 : 0 ≤ n) (h1 : n ≤ l.burst * l.per) : bucketNow l k (n - n / l.per * l.per) (k + 1) = min (l.burst * l.per) (n % l.per + l.most) := by
  obtain ⟨hf1, hf2⟩ := hl.full
  obtain ⟨hm1, hm2⟩ := hl.most
  obtain ⟨hp1, hp2⟩ := hl.per
  have h2 := Int.mul_ediv_add_emod n l.per
  have h3 : n - n / l.per * l.per = n % l.per := by rw [Int.mul_comm (n / l.per)]; omega
  have h4 := Int.emod_nonneg n (show l.per ≠ 0 by omega)
  have h6 := Int.mul_nonneg (show 0 ≤ l.per by omega) (Int.ediv_nonneg h0 (show 0 ≤ l.per by omega))
  rw [h3]
  unfold bucketNow
  by_cases h : upDiv (l.burst * l.per - n % l.per) l.most ≤ k + 1 - k
  · rw [if_pos h]
    have := upDiv_le _ _ _ hm1 h
    have e : l.most * (k + 1 - k) = l.most := by rw [show k + 1 - k = 1 by omega, Int.mul_one]
    omega
  · rw [if_neg h]
    have := upDiv_mul (l.burst * l.per - n % l.per) l.most (k + 1 - k) (by omega) hm1 (by omega) (by omega)
    have e : l.most * (k + 1 - k) = l.most := by rw [show k + 1 - k = 1 by omega, Int.mul_one]
    omega
theorem bucketNow_first (l : Lim) (hl : BLim l) : bucketNow l 0 (l.burst * l.per) 0 = l.burst * l.per := by
  unfold bucketNow
  rw [if_pos (by simp [upDiv])]

/-- how much a limit can let in within so many moments -/
def roomOf (l : Lim) (long : Nat) : Int :=
  if l.kind = 1 then l.most * (1 + upDiv ((long : Int) - 1) l.per)
  else if l.kind = 2 then l.most * upDiv (long : Int) l.per
  else (drain l long).2

def roomSpec (l : Lim) (long : Int) : Int × Int :=
  if limsFault [l] ≠ 0 then (0, limsFault [l]) else if l.kind = 4 then (0, 10) else if ¬ (1 ≤ long ∧ long ≤ 100000) then (0, 1) else (roomOf l long.toNat, 0)

theorem limsFault_one {l : Lim} (h : limsFault [l] = 0) : isKey l.key = true ∧ limSelf l = 0 := by
  simp [limsFault, firstFault, limAt] at h
  split at h
  · cases h
  · rename_i hk
    exact ⟨by simpa using hk, h⟩

theorem BLim.of_fault {l : Lim} (h : limsFault [l] = 0) (h3 : l.kind = 3) : BLim l := by
  obtain ⟨_, h⟩ := limsFault_one h
  obtain ⟨a, b, c, d, e, f⟩ := limSelf_zero h
  exact ⟨b, d (by omega), f h3⟩

theorem LimRows.one (w : World) (l : Lim) {g : Nat} (h : Blk w g 27 #[.string l.key, .int .i64 l.kind, .int .i64 l.most, .int .i64 l.per, .int .i64 l.burst]) : LimRows w (some ⟨g, 0, none⟩) 1 [l] := by
  refine Sl.of_blk h rfl fun i hi j hj => ?_
  simp at hi
  subst hi
  match j, hj with
  | 0, _ => rfl
  | 1, _ => rfl
  | 2, _ => rfl
  | 3, _ => rfl
  | 4, _ => rfl

set_option maxHeartbeats 1000000 in
theorem limit_room (l : Lim) (long : Int) (w : World) (hs : l.key.size ≤ maxLen) :
    Calls Try.prog 9 #[l.val, .int .i64 long] w fun e w' => e = .returned (.tuple #[.int .i64 (roomSpec l long).1, .int .i64 (roomSpec l long).2]) ∧ New w w' := by
  obtain ⟨key, kind, most, per, burst⟩ := l
  simp only [Lim.val]
  go_enter Try.func9, Try.ntmps9
  go_wp2_with fail
  refine (limit_checkLimits [⟨key, kind, most, per, burst⟩] _ 1 _ _ (LimRows.one _ _ (Blk.new' _ _ (by simp))) (by omega) (by simpa using hs)).mono ?_
  rintro e w1 ⟨rfl, hm⟩
  obtain ⟨hm1, hz1, -⟩ := hm.pre
  obtain ⟨hm2, hz2, B2⟩ := hm1.pre
  have B3 : Blk w1 w.heap.size 27 _ := B2 (fun h => h)
  clear B2 hm hm1
  generalize hef : limsFault [⟨key, kind, most, per, burst⟩] = ef at *
  by_cases he : ef = 0
  · subst he
    have HE := Lib.hid hef
    have hall := limSelf_zero (limsFault_one hef).2
    have HB := fun h3 => BLim.of_fault (l := ⟨key, kind, most, per, burst⟩) hef h3
    clear hef
    have hc := B3.cell
    have c0 := hc 0
    have c1 := hc 1
    have c2 := hc 2
    have c3 := hc 3
    have c4 := hc 4
    simp at c0 c1 c2 c3 c4
    simp only at hall
    have hmost : 1 ≤ most ∧ most ≤ 1000000000 := hall.2.1
    have hkind : 1 ≤ kind ∧ kind ≤ 4 := hall.1
    have hper : kind ≠ 4 → 1 ≤ per ∧ per ≤ 8640000000 := hall.2.2.2.1
    have HP := Lib.hid hper
    have HBL := Lib.hid HB
    clear hc hall hper HB
    by_cases hk4 : kind = 4
    · subst hk4
      go_wp2_with fail
      go_ret2
      exact ⟨by simp [roomSpec, HE.out], hm2⟩
    · have hk4' : (kind == 4) = false := by simpa using hk4
      go_wp2_with fail
      refine (outside_any _ _ _ _).mono ?_
      rintro e w2 ⟨rfl, rfl⟩
      by_cases hlo : 1 ≤ long ∧ long ≤ 100000
      · have ho : (!(decide (1 ≤ long) && decide (long ≤ 100000))) = false := by simp; omega
        rw [ho]
        obtain ⟨n, rfl⟩ := Int.eq_ofNat_of_zero_le (show 0 ≤ long by omega)
        have hsp : roomSpec ⟨key, kind, most, per, burst⟩ n = (roomOf ⟨key, kind, most, per, burst⟩ n, 0) := by
          simp [roomSpec, HE.out, hk4]; omega
        have HSP := Lib.hid hsp
        have hroom : roomOf ⟨key, kind, most, per, burst⟩ n = if kind = 1 then most * (1 + upDiv ((n : Int) - 1) per) else if kind = 2 then most * upDiv (n : Int) per else (drain ⟨key, kind, most, per, burst⟩ n).2 := rfl
        have HR := Lib.hid hroom
        clear hroom hsp ho
        have hper := HP.out hk4
        by_cases hk1 : kind = 1
        · subst hk1
          have hu := upDiv_bd ((n : Int) - 1) per (by omega) (by omega)
          have hmu := Int.mul_le_mul (show most ≤ 1000000000 by omega) (show 1 + upDiv ((n : Int) - 1) per ≤ 100001 by omega) (by omega) (by omega)
          have hmu0 := Int.mul_nonneg (show 0 ≤ most by omega) (show 0 ≤ 1 + upDiv ((n : Int) - 1) per by omega)
          go_wp2_with fail
          go_quiet ((go_at_call 32; exact quiet_left (up_any _ _ _ (by omega) (by omega) (by omega) (by omega))))
          go_wp2_with fail
          go_ret2
          exact ⟨by rw [HSP.out, HR.out]; simp, hm2.drewN _⟩
        · have hk1' : (kind == 1) = false := by simpa using hk1
          by_cases hk2 : kind = 2
          · subst hk2
            have hu := upDiv_bd (n : Int) per (by omega) (by omega)
            have hmu := Int.mul_le_mul (show most ≤ 1000000000 by omega) (show upDiv (n : Int) per ≤ 100000 by omega) (by omega) (by omega)
            have hmu0 := Int.mul_nonneg (show 0 ≤ most by omega) (show 0 ≤ upDiv (n : Int) per by omega)
            go_wp2_with fail
            go_quiet ((go_at_call 32; exact quiet_left (up_any _ _ _ (by omega) (by omega) (by omega) (by omega))))
            go_wp2_with fail
            go_ret2
            exact ⟨by rw [HSP.out, HR.out]; simp, hm2.drewN _⟩
          · have hk2' : (kind == 2) = false := by simpa using hk2
            have hb := HBL.out (show kind = 3 by omega)
            have hfull := hb.full
            have hfirst := bucketNow_first _ hb
            simp only at hfull hfirst
            have HF := Lib.hid hfirst
            clear hfirst
            go_wp2_with fail
            have BB := Blk.new w1 60 #[.string key, .int .i64 kind, .int .i64 most, .int .i64 per, .int .i64 burst, .int .i64 0, .int .i64 (burst * per)]
            go_loopw [8, 9, 10, 53] (fun s _ _ i wr => ∃ (k : Nat) (at0 level : Int), k ≤ n ∧ i = .int .i64 k ∧ s = .int .i64 (drain ⟨key, kind, most, per, burst⟩ k).2 ∧ New w wr ∧
              BucketAt wr w1.heap.size ⟨key, kind, most, per, burst⟩ at0 level ∧ 0 ≤ level ∧ level ≤ burst * per ∧ 0 ≤ at0 ∧ at0 ≤ k ∧ bucketNow ⟨key, kind, most, per, burst⟩ at0 level k = (drain ⟨key, kind, most, per, burst⟩ k).1) (fun _ _ _ i _ => n - (intOf i).toNat)
            case atStart => exact ⟨0, 0, burst * per, Nat.zero_le _, rfl, rfl, hm2.alloc _, BB, by omega, by omega, by omega, by omega, HF.out⟩
            case round =>
              clear BB
              obtain ⟨k, at0, level, hk, rfl, rfl, hmr, hbr, hl0, hl1, ha0, ha1, hnow⟩ := hrel
              by_cases hlt : k < n
              · have hdb := drain_bd ⟨key, kind, most, per, burst⟩ hb k
                simp only at hdb
                go_wp2_with fail
                refine (bucket_most _ _ at0 level k _ hbr hb hl0 hl1 ha0 ha1 (by omega)).mono ?_
                rintro e w2 ⟨rfl, q, rfl⟩
                rw [hnow]
                have HN := Lib.hid hnow
                have hnx := bucketNow_next ⟨key, kind, most, per, burst⟩ hb (drain ⟨key, kind, most, per, burst⟩ k).1 k hdb.1 hdb.2.1
                have HNX := Lib.hid hnx
                have hdiv : (drain ⟨key, kind, most, per, burst⟩ k).1 / per * per ≤ (drain ⟨key, kind, most, per, burst⟩ k).1 := Int.ediv_mul_le _ (by omega)
                have hdiv0 := Int.mul_nonneg (Int.ediv_nonneg hdb.1 (show 0 ≤ per by omega)) (show 0 ≤ per by omega)
                have hdiv1 : (drain ⟨key, kind, most, per, burst⟩ k).1 / per ≤ burst := Int.ediv_le_of_le_mul (by omega) hdb.2.1
                have hdiv2 := Int.ediv_nonneg hdb.1 (show 0 ≤ per by omega)
                have hbu : burst ≤ 1000000000 := hb.burst.2
                have hsu : (drain ⟨key, kind, most, per, burst⟩ (k + 1)) = (min (burst * per) ((drain ⟨key, kind, most, per, burst⟩ k).1 % per + most), (drain ⟨key, kind, most, per, burst⟩ k).2 + (drain ⟨key, kind, most, per, burst⟩ k).1 / per) := rfl
                have HSU := Lib.hid hsu
                clear hnow hnx hsu
                generalize hD : drain ⟨key, kind, most, per, burst⟩ k = D at *
                clear hD
                go_wp2_with fail
                refine (bucket_add _ _ at0 level k (D.1 / per) _ _ (by exact hbr) hb hl0 hl1 ha0 ha1 (by omega) hdiv2 (by rw [HN.out]; exact hdiv)).mono ?_
                rintro e w3 ⟨rfl, ho3, hb3⟩
                rw [HN.out] at hb3
                have hm3 : New w w3 := (hmr.drewN q).step ho3 (fun i hi e => by omega)
                go_wp2_with fail
                go_roundw
                case rel => exact ⟨k + 1, k, D.1 - D.1 / per * per, by omega, by go_num, by rw [HSU.out], hm3, hb3, by omega, by omega, by omega, by omega, by rw [HSU.out]; exact HNX.out⟩
                case measure => simp [intOf]; omega
              · obtain rfl : k = n := by omega
                have hk3 : ¬ kind = 1 := hk1
                go_wp2_with fail
                go_ret2
                exact ⟨by rw [HSP.out, HR.out]; simp [hk1, hk2], hmr⟩
      · have ho : (!(decide (1 ≤ long) && decide (long ≤ 100000))) = true := by simp; omega
        rw [ho]
        go_wp2_with fail
        go_ret2
        exact ⟨by simp [roomSpec, HE.out, hk4, hlo], hm2⟩
  · have he' : (ef != 0) = true := by simp [he]
    have HE := Lib.hid hef
    clear hef
    go_wp2_with fail
    go_ret2
    exact ⟨by simp [roomSpec, HE.out, he], hm2⟩

theorem upDiv_unique (a b j : Int) (h0 : 0 ≤ a) (h1 : 1 ≤ b) (hj : 0 ≤ j) (h2 : a ≤ b * j) (h3 : j = 0 ∨ b * (j - 1) < a) : upDiv a b = j := by
  have hb := upDiv_bd a b h0 h1
  by_cases hlt : upDiv a b < j
  · have h4 := upDiv_le a b (j - 1) h1 (by omega)
    omega
  · by_cases hgt : j < upDiv a b
    · have := upDiv_mul a b j h0 h1 hgt hj
      omega
    · omega
theorem upDiv_quo (a b : Int) (h0 : 0 ≤ a) (h1 : 1 ≤ b) : (a + b - 1) / b = upDiv a b := by
  have h2 := Int.mul_ediv_add_emod (a + b - 1) b
  have h3 := Int.emod_nonneg (a + b - 1) (show b ≠ 0 by omega)
  have h4 := Int.emod_lt_of_pos (a + b - 1) (show 0 < b by omega)
  have h5 := Int.ediv_nonneg (show 0 ≤ a + b - 1 by omega) (show 0 ≤ b by omega)
  refine (upDiv_unique a b _ h0 h1 h5 (by omega) (.inr ?_)).symm
  rw [Int.mul_sub]
  omega

set_option maxHeartbeats 1000000 in
theorem ref_roomOf (l : Lim) (n : Nat) (w : World) (hf : limsFault [l] = 0) (hk4 : l.kind ≠ 4) (hn1 : 1 ≤ n) (hn2 : n ≤ 100000) :
    Calls Try.prog 13 #[l.val, .int .i64 n] w fun e w' => e = .returned (.int .i64 (roomOf l n)) ∧ New w w' := by
  have hall := limSelf_zero (limsFault_one hf).2
  have HBL := Lib.hid (fun h3 => BLim.of_fault hf h3)
  have hm := hall.2.1
  have hp := hall.2.2.2.1 hk4
  have hkind := hall.1
  obtain ⟨key, kind, most, per, burst⟩ := l
  simp only [Lim.val]
  simp only at hm hp hk4 hkind
  have hroom : roomOf ⟨key, kind, most, per, burst⟩ n = if kind = 1 then most * (1 + upDiv ((n : Int) - 1) per) else if kind = 2 then most * upDiv (n : Int) per else (drain ⟨key, kind, most, per, burst⟩ n).2 := rfl
  have HR := Lib.hid hroom
  clear hroom hall hf
  have hp0 : (per == 0) = false := by simp; omega
  by_cases hk1 : kind = 1
  · subst hk1
    go_enter Try.func13, Try.ntmps13
    go_wp2_with fail
    go_loop [5, 6] (fun s i => ∃ j : Nat, s = .int .i64 (1 + (j : Int)) ∧ i = .int .i64 ((n : Int) - 2 - per * j) ∧ (j = 0 ∨ per * ((j : Int) - 1) < (n : Int) - 1) ∧ j ≤ 100000) (fun _ i => (intOf i + 1).toNat)
    case atStart => exact ⟨0, rfl, by simp, .inl rfl, by omega⟩
    case round =>
      obtain ⟨j, rfl, rfl, hj, hj2⟩ := hrel
      have hpj := Int.mul_nonneg (show 0 ≤ per by omega) (show 0 ≤ (j : Int) by omega)
      have hpj2 := Int.mul_le_mul hp.2 (show (j : Int) ≤ 100000 by omega) (by omega) (by omega)
      by_cases hge : 0 ≤ (n : Int) - 2 - per * j
      · have hjn : (j : Int) ≤ per * j := by have := Int.mul_le_mul_of_nonneg_right hp.1 (show 0 ≤ (j : Int) by omega); omega
        go_wp2_with fail
        go_round
        case rel => exact ⟨j + 1, by go_num, by rw [show ((j + 1 : Nat) : Int) = (j : Int) + 1 by omega, Int.mul_add]; go_num, .inr (by rw [show ((j + 1 : Nat) : Int) - 1 = (j : Int) by omega]; omega), by omega⟩
        case measure => simp [intOf]; omega
      · have hup : upDiv ((n : Int) - 1) per = j := upDiv_unique _ _ _ (by omega) hp.1 (by omega) (by omega) (by omega)
        have HU := Lib.hid hup
        have hmu := Int.mul_le_mul (show 1 + (j : Int) ≤ 100001 by omega) (show most ≤ 1000000000 by omega) (by omega) (by omega)
        have hmu0 := Int.mul_nonneg (show 0 ≤ 1 + (j : Int) by omega) (show 0 ≤ most by omega)
        clear hup
        go_wp2_with fail
        go_ret
        exact ⟨ret_int (by rw [HR.out, HU.out]; simp [Int.mul_comm]), (by with_reducible (repeat (first | exact Mod.refl _ _ | refine Mod.drewN ?_ _ | refine Mod.drew ?_ | refine Mod.alloc ?_ _)))⟩
  · have hk1' : (kind == 1) = false := by simpa using hk1
    by_cases hk2 : kind = 2
    · subst hk2
      have hu := upDiv_bd (n : Int) per (by omega) (by omega)
      have hq := upDiv_quo (n : Int) per (by omega) (by omega)
      have hmu := Int.mul_le_mul (show upDiv (n : Int) per ≤ 100000 by omega) (show most ≤ 1000000000 by omega) (by omega) (by omega)
      have hmu0 := Int.mul_nonneg (show 0 ≤ upDiv (n : Int) per by omega) (show 0 ≤ most by omega)
      rw [← hq] at hmu hmu0 hu
      have HU := Lib.hid hq
      clear hq
      have e1 : IntKind.i64.wrap ((n : Int) + per) = (n : Int) + per := IntWalk.i64_in _ (by omega)
      have e2 : IntKind.i64.wrap ((n : Int) + per - 1) = (n : Int) + per - 1 := IntWalk.i64_in _ (by omega)
      have e3 : IntKind.i64.wrap (((n : Int) + per - 1) / per) = ((n : Int) + per - 1) / per := IntWalk.i64_in _ (by omega)
      have e4 : IntKind.i64.wrap (((n : Int) + per - 1) / per * most) = ((n : Int) + per - 1) / per * most := IntWalk.i64_in _ (by omega)
      go_enter Try.func13, Try.ntmps13
      go_wp2_with fail
      go_quiet (fail)
      go_wp2_with fail
      go_ret
      exact ⟨ret_int (by rw [HR.out, ← HU.out]; simp [Int.mul_comm]), (by with_reducible (repeat (first | exact Mod.refl _ _ | refine Mod.drewN ?_ _ | refine Mod.drew ?_ | refine Mod.alloc ?_ _)))⟩
    · have hk2' : (kind == 2) = false := by simpa using hk2
      have hb := HBL.out (show kind = 3 by omega)
      have hfull := hb.full
      have hbu := hb.burst
      simp only at hfull hbu
      go_enter Try.func13, Try.ntmps13
      go_wp2_with fail
      go_loopw [7, 8, 46] (fun m s i wr => ∃ k : Nat, k ≤ n ∧ i = .int .i64 k ∧ m = .int .i64 (drain ⟨key, kind, most, per, burst⟩ k).1 ∧ s = .int .i64 (drain ⟨key, kind, most, per, burst⟩ k).2 ∧
        ∃ q, wr = (w.alloc (.cells #[.string key, .int .i64 kind, .int .i64 most, .int .i64 per, .int .i64 burst] 27)).drewN q) (fun _ _ i _ => n - (intOf i).toNat)
      case atStart => exact ⟨0, Nat.zero_le _, rfl, rfl, rfl, 0, rfl⟩
      case round =>
        obtain ⟨k, hk, rfl, rfl, rfl, q, rfl⟩ := hrel
        by_cases hlt : k < n
        · have hdb := drain_bd ⟨key, kind, most, per, burst⟩ hb k
          simp only at hdb
          have hdiv1 : (drain ⟨key, kind, most, per, burst⟩ k).1 / per ≤ burst := Int.ediv_le_of_le_mul (by omega) hdb.2.1
          have hdiv2 := Int.ediv_nonneg hdb.1 (show 0 ≤ per by omega)
          have hmd := Int.emod_nonneg (drain ⟨key, kind, most, per, burst⟩ k).1 (show per ≠ 0 by omega)
          have hmd2 := Int.emod_lt_of_pos (drain ⟨key, kind, most, per, burst⟩ k).1 (show 0 < per by omega)
          have hsu : (drain ⟨key, kind, most, per, burst⟩ (k + 1)) = (min (burst * per) ((drain ⟨key, kind, most, per, burst⟩ k).1 % per + most), (drain ⟨key, kind, most, per, burst⟩ k).2 + (drain ⟨key, kind, most, per, burst⟩ k).1 / per) := rfl
          have HSU := Lib.hid hsu
          clear hsu
          generalize hD : drain ⟨key, kind, most, per, burst⟩ k = D at *
          clear hD
          have e1 : IntKind.i64.wrap (burst * per) = burst * per := IntWalk.i64_in _ (by omega)
          have e2 : IntKind.i64.wrap (D.1 % per + most) = D.1 % per + most := IntWalk.i64_in _ (by omega)
          have e3 : D.1.tmod per = D.1 % per := Int.tmod_eq_emod_of_nonneg hdb.1
          go_wp2_with fail
          go_quiet (fail)
          go_wp2_with fail
          go_roundw
          case rel => exact ⟨k + 1, by omega, by go_num, by rw [HSU.out], by rw [HSU.out], _, rfl⟩
          case measure => simp [intOf]; omega
        · obtain rfl : k = n := by omega
          go_wp2_with fail
          go_ret
          exact ⟨ret_int (by rw [HR.out]; simp [hk1, hk2]), (by with_reducible (repeat (first | exact Mod.refl _ _ | refine Mod.drewN ?_ _ | refine Mod.drew ?_ | refine Mod.alloc ?_ _)))⟩

end Go.Proofs.Ytinnckbffblecaa
