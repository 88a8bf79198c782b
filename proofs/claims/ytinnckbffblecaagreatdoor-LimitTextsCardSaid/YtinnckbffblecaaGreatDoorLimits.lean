/- Limits: the program's checks and the reference's are one function of the limits. Conditions: the keys are no longer than an int can count. -/
import Derived.Test.YtinnckbffblecaaGreatDoorKeys
import Derived.Test.YtinnckbffblecaaGreatDoorMake
namespace Go.Proofs.YtinnckbffblecaaGreatDoor
open Go.RowKit
set_option linter.unusedVariables false
set_option linter.unusedSimpArgs false

/-- what is wrong with a limit by itself, its key aside -/
def limSelf (l : Lim) : Int :=
  if !(decide (1 ≤ l.kind) && decide (l.kind ≤ 4)) then 4
  else if !(decide (1 ≤ l.most) && decide (l.most ≤ 1000000000)) then 1
  else if (l.kind = 4 ∧ l.per ≠ 0) ∨ (l.kind ≠ 4 ∧ ¬ (1 ≤ l.per ∧ l.per ≤ 8640000000)) then 1
  else if (l.kind ≠ 3 ∧ l.burst ≠ 0) ∨ (l.kind = 3 ∧ ¬ (1 ≤ l.burst ∧ l.burst ≤ 1000000000)) then 1
  else 0

abbrev LimRows (w : World) (A : Option Addr) (n : Nat) (ls : List Lim) : Prop := Sl w 38 5 Lim.enc A n ls

theorem outside_any (n a b : Int) (w : World) :
    Calls Tryz.prog 57 #[.int .i64 n, .int .i64 a, .int .i64 b] w fun e w' => e = .returned (.bool (!(decide (a ≤ n) && decide (n ≤ b)))) ∧ w = w' := by
  by_cases h : n < a
  · go_enter Tryz.func57, Tryz.ntmps57
    go_wp2
    go_ret
    refine ⟨?_, rfl⟩
    have : ¬ a ≤ n := by omega
    simp [this]
  · have h' : decide (n < a) = false := by simpa using h
    have h2 : decide (a ≤ n) = true := by simp; omega
    go_enter Tryz.func57, Tryz.ntmps57
    go_wp2
    go_ret
    refine ⟨?_, rfl⟩
    refine ret_bool ?_
    rw [Bool.eq_iff_iff]
    simp

theorem ref1_in (n a b : Int) (w : World) :
    Calls Tryz.prog 45 #[.int .i64 n, .int .i64 a, .int .i64 b] w fun e w' => e = .returned (.bool (decide (a ≤ n) && decide (n ≤ b))) ∧ w = w' := by
  by_cases h : a ≤ n
  · go_enter Tryz.func45, Tryz.ntmps45
    go_wp2
    go_ret
    exact ⟨by simp [h], rfl⟩
  · have h' : decide (a ≤ n) = false := by simpa using h
    go_enter Tryz.func45, Tryz.ntmps45
    go_wp2
    go_ret
    exact ⟨by simp [h'], rfl⟩

def limAlone (l : Lim) : Int := if isKey l.key then limSelf l else 5

set_option maxHeartbeats 1000000 in
theorem ref_limitFault (l : Lim) (w : World) (hs : l.key.size ≤ maxLen) :
    Calls Tryz.prog 24 #[l.val] w fun e w' => e = .returned (.int .i64 (limAlone l)) ∧ New w w' := by
  obtain ⟨key, kind, most, per, burst⟩ := l
  simp only [Lim.val]
  go_enter Tryz.func24, Tryz.ntmps24
  go_wp2_with fail
  go_quiet (fail)
  go_wp2_with fail
  refine (ref_key _ _ hs).mono ?_
  rintro e w1 ⟨rfl, rfl⟩
  cases hk : isKey key
  · go_wp2_with fail
    go_ret
    exact ⟨ret_int (by simp [limAlone, hk]), (by with_reducible (repeat (first | exact Mod.refl _ _ | refine Mod.drewN ?_ _ | refine Mod.drew ?_ | refine Mod.alloc ?_ _)))⟩
  · go_wp2_with fail
    refine (ref1_in _ _ _ _).mono ?_
    rintro e w1 ⟨rfl, rfl⟩
    cases h1 : (decide (1 ≤ kind) && decide (kind ≤ 4))
    · go_wp2_with fail
      go_ret
      exact ⟨ret_int (by simp only [limAlone, hk, limSelf, h1]; simp), (by with_reducible (repeat (first | exact Mod.refl _ _ | refine Mod.drewN ?_ _ | refine Mod.drew ?_ | refine Mod.alloc ?_ _)))⟩
    · go_wp2_with fail
      refine (ref1_in _ _ _ _).mono ?_
      rintro e w1 ⟨rfl, rfl⟩
      cases h2 : (decide (1 ≤ most) && decide (most ≤ 1000000000))
      · go_wp2_with fail
        go_ret
        exact ⟨ret_int (by simp only [limAlone, hk, limSelf, h1, h2]; simp), (by with_reducible (repeat (first | exact Mod.refl _ _ | refine Mod.drewN ?_ _ | refine Mod.drew ?_ | refine Mod.alloc ?_ _)))⟩
      · go_wp2_with (go_at_call 45; refine (ref1_in _ _ _ _).mono ?_; rintro e w1 ⟨rfl, rfl⟩)
        all_goals go_ret
        all_goals refine ⟨ret_int ?_, (by with_reducible (repeat (first | exact Mod.refl _ _ | refine Mod.drewN ?_ _ | refine Mod.drew ?_ | refine Mod.alloc ?_ _)))⟩
        all_goals simp only [limAlone, hk, limSelf, h1, h2]
        all_goals simp at *
        all_goals (try omega)

/-- the model's word for 'a <= b' on strings -/
def strLe (a b : ByteArray) : Bool := Op.bytesLess a.toList b.toList || a.toList == b.toList
def limAt (ls : List Lim) (i : Nat) : Int :=
  match ls[i]? with
  | none => 0
  | some l => if !isKey l.key then 5 else
    if decide (0 < i) && strLe l.key ((ls[i-1]?.map (·.key)).getD ⟨#[]⟩) then 7 else limSelf l

theorem limAt_eq {ls : List Lim} {i : Nat} {l : Lim} (h : ls[i]? = some l) (p : ByteArray) (hp : 0 < i → ls[i-1]?.map (·.key) = some p) :
    limAt ls i = if !isKey l.key then 5 else if decide (0 < i) && strLe l.key p then 7 else limSelf l := by
  unfold limAt
  rw [h]
  by_cases hi : 0 < i
  · simp [hp hi]
  · simp [hi]

set_option maxHeartbeats 2000000 in
theorem limit_limitFault (ls : List Lim) (i : Nat) (A : Option Addr) (n c : Nat) (w : World) (hl : LimRows w A n ls) (hi : i < n) (hn : n ≤ 1000) (hs : ∀ l ∈ ls, l.key.size ≤ maxLen) :
    Calls Tryz.prog 40 #[.slice A n c, .int .i64 i] w fun e w' => e = .returned (.int .i64 (limAt ls i)) ∧ New w w' := by
  obtain ⟨hlen, hr⟩ := hl
  obtain ⟨g, o, rfl, hg, hc⟩ := hr (by omega)
  have hgl := hg.lt
  have hx : ls[i]? = some ls[i] := by simp
  have c0 := hc i (by omega) 0 (by omega)
  have c1 := hc i (by omega) 1 (by omega)
  have c2 := hc i (by omega) 2 (by omega)
  have c3 := hc i (by omega) 3 (by omega)
  have c4 := hc i (by omega) 4 (by omega)
  simp only [Lim.enc, Nat.add_zero] at c0 c1 c2 c3 c4
  have hb1 : (0 : Int) ≤ i := by omega
  have hb2 : (i : Int) < n := by omega
  have hks : ls[i].key.size ≤ maxLen := hs _ (List.getElem_mem _)
  have hprev : ∃ p : ByteArray, (0 < i → ls[i-1]?.map (·.key) = some p ∧ w.cell? ⟨g, o + (i - 1) * 5, none⟩ = some (.string p)) := by
    by_cases h0 : 0 < i
    · refine ⟨ls[i-1].key, fun _ => ⟨?_, ?_⟩⟩
      · rw [List.getElem?_eq_getElem (by omega)]; rfl
      · simpa [Lim.enc] using hc (i - 1) (by omega) 0 (by omega)
    · exact ⟨⟨#[]⟩, fun h => absurd h h0⟩
  obtain ⟨p, hp⟩ := hprev
  have HE := Lib.hid (limAt_eq hx p (fun h => (hp h).1))
  clear hc hx hs hr
  generalize ls[i] = l at *
  obtain ⟨key, kind, most, per, burst⟩ := l
  simp only at c0 c1 c2 c3 c4 hks
  go_enter Tryz.func40, Tryz.ntmps40
  go_wp2_with fail
  go_quiet (fail)
  go_wp2_with fail
  refine (kit_isKey _ _ hks).mono ?_
  rintro e w1 ⟨rfl, rfl⟩
  cases hk : isKey key
  · go_wp2_with fail
    go_ret
    exact ⟨ret_int (by rw [HE.out]; simp [hk]), (by with_reducible (repeat (first | exact Mod.refl _ _ | refine Mod.drewN ?_ _ | refine Mod.drew ?_ | refine Mod.alloc ?_ _)))⟩
  · by_cases h0 : 0 < i
    · obtain ⟨hp1, hp2⟩ := hp h0
      have hb3 : (0 : Int) < i := by omega
      have hb4 : (0 : Int) ≤ (i : Int) - 1 := by omega
      have hb5 : (i : Int) - 1 < n := by omega
      go_wp2_with fail
      go_quiet (fail)
      cases hle : (Op.bytesLess key.toList p.toList || key.toList == p.toList)
      · have hq : (decide (0 < i) && strLe key p) = false := by simp [strLe, hle]
        have HQ := Lib.hid hq
        clear hq hle hp
        go_wp2_with fail
        refine (outside_any _ _ _ _).mono ?_
        rintro e w1 ⟨rfl, rfl⟩
        cases h1 : (decide (1 ≤ kind) && decide (kind ≤ 4))
        · go_wp2_with fail
          go_ret
          exact ⟨ret_int (by rw [HE.out]; simp only [hk, limSelf, h1, HQ.out]; simp), (by with_reducible (repeat (first | exact Mod.refl _ _ | refine Mod.drewN ?_ _ | refine Mod.drew ?_ | refine Mod.alloc ?_ _)))⟩
        · go_wp2_with fail
          refine (outside_any _ _ _ _).mono ?_
          rintro e w1 ⟨rfl, rfl⟩
          cases h2 : (decide (1 ≤ most) && decide (most ≤ 1000000000))
          · go_wp2_with fail
            go_ret
            exact ⟨ret_int (by rw [HE.out]; simp only [hk, limSelf, h1, h2, HQ.out]; simp), (by with_reducible (repeat (first | exact Mod.refl _ _ | refine Mod.drewN ?_ _ | refine Mod.drew ?_ | refine Mod.alloc ?_ _)))⟩
          · go_wp2_with (go_at_call 57; refine (outside_any _ _ _ _).mono ?_; rintro e w1 ⟨rfl, rfl⟩)
            all_goals go_ret
            all_goals refine ⟨ret_int ?_, (by with_reducible (repeat (first | exact Mod.refl _ _ | refine Mod.drewN ?_ _ | refine Mod.drew ?_ | refine Mod.alloc ?_ _)))⟩
            all_goals rw [HE.out]
            all_goals simp only [hk, limSelf, h1, h2, HQ.out]
            all_goals simp at *
            all_goals (try omega)
      · go_wp2_with fail
        go_ret
        exact ⟨ret_int (by rw [HE.out]; simp [hk, h0, strLe, hle]), (by with_reducible (repeat (first | exact Mod.refl _ _ | refine Mod.drewN ?_ _ | refine Mod.drew ?_ | refine Mod.alloc ?_ _)))⟩
    · obtain rfl : i = 0 := by omega
      have hd : decide ((0 : Int) < ((0 : Nat) : Int)) = false := by simp
      go_wp2_with fail
      go_quiet (fail)
      have hq : (decide (0 < 0) && strLe key p) = false := by simp
      have HQ := Lib.hid hq
      clear hq
      go_wp2_with fail
      refine (outside_any _ _ _ _).mono ?_
      rintro e w1 ⟨rfl, rfl⟩
      cases h1 : (decide (1 ≤ kind) && decide (kind ≤ 4))
      · go_wp2_with fail
        go_ret
        exact ⟨ret_int (by rw [HE.out]; simp only [hk, limSelf, h1, HQ.out]; simp), (by with_reducible (repeat (first | exact Mod.refl _ _ | refine Mod.drewN ?_ _ | refine Mod.drew ?_ | refine Mod.alloc ?_ _)))⟩
      · go_wp2_with fail
        refine (outside_any _ _ _ _).mono ?_
        rintro e w1 ⟨rfl, rfl⟩
        cases h2 : (decide (1 ≤ most) && decide (most ≤ 1000000000))
        · go_wp2_with fail
          go_ret
          exact ⟨ret_int (by rw [HE.out]; simp only [hk, limSelf, h1, h2, HQ.out]; simp), (by with_reducible (repeat (first | exact Mod.refl _ _ | refine Mod.drewN ?_ _ | refine Mod.drew ?_ | refine Mod.alloc ?_ _)))⟩
        · go_wp2_with (go_at_call 57; refine (outside_any _ _ _ _).mono ?_; rintro e w1 ⟨rfl, rfl⟩)
          all_goals go_ret
          all_goals refine ⟨ret_int ?_, (by with_reducible (repeat (first | exact Mod.refl _ _ | refine Mod.drewN ?_ _ | refine Mod.drew ?_ | refine Mod.alloc ?_ _)))⟩
          all_goals rw [HE.out]
          all_goals simp only [hk, limSelf, h1, h2, HQ.out]
          all_goals simp at *
          all_goals (try omega)

/-- the first error of a list of errors, by places -/
def firstFault (f : Nat → Int) : Nat → Int
  | 0 => 0
  | k + 1 => if firstFault f k = 0 then f k else firstFault f k
def limsFault (ls : List Lim) : Int := if 20 < ls.length then 2 else firstFault (limAt ls) ls.length
theorem firstFault_stop {f : Nat → Int} {k n : Nat} (h0 : firstFault f k = 0) (h : f k ≠ 0) (hk : k < n) : firstFault f n = f k := by
  induction n with
  | zero => omega
  | succ n ih =>
    unfold firstFault
    by_cases e : k = n
    · subst e; rw [if_pos h0]
    · rw [ih (by omega), if_neg h]
theorem firstFault_zero {f : Nat → Int} {k : Nat} (h0 : firstFault f k = 0) (h : f k = 0) : firstFault f (k + 1) = 0 := by
  unfold firstFault; rw [if_pos h0, h]

set_option maxHeartbeats 1000000 in
theorem limit_checkLimits (ls : List Lim) (A : Option Addr) (n c : Nat) (w : World) (hl : LimRows w A n ls) (hn : n ≤ 1000) (hs : ∀ l ∈ ls, l.key.size ≤ maxLen) :
    Calls Tryz.prog 18 #[.slice A n c] w fun e w' => e = .returned (.int .i64 (limsFault ls)) ∧ New w w' := by
  have hlen := hl.1
  by_cases h20 : 20 < n
  · have h21 : (20 : Int) < n := by omega
    go_enter Tryz.func18, Tryz.ntmps18
    go_wp2_with fail
    go_ret
    exact ⟨ret_int (by simp [limsFault, hlen, h20]), Mod.refl _ _⟩
  · have h21 : ¬ (20 : Int) < n := by omega
    have HS := Lib.hid hs
    clear hs
    go_enter Tryz.func18, Tryz.ntmps18
    go_wp2_with fail
    go_loopw [3, 4, 10] (fun _ _ i wr => ∃ k : Nat, k ≤ n ∧ i = .int .i64 k ∧ firstFault (limAt ls) k = 0 ∧ New w wr) (fun _ _ i _ => n - (intOf i).toNat)
    case atStart => exact ⟨0, Nat.zero_le _, rfl, rfl, Mod.refl _ _⟩
    case round =>
      obtain ⟨k, hk, rfl, h0, hm⟩ := hrel
      have H0 := Lib.hid h0
      clear h0
      by_cases hlt : k < n
      · go_wp2_with fail
        refine (limit_limitFault ls k A n c _ (hl.new hm) hlt hn HS.out).mono ?_
        rintro e w1 ⟨rfl, hm1⟩
        have hm2 := hm.trans hm1
        go_wp2_with fail
        · go_ret
          exact ⟨ret_int (by simp only [limsFault, hlen]; rw [if_neg h20, firstFault_stop H0.out (by simpa using ‹(limAt ls k != 0) = true›) hlt]), hm2⟩
        · go_roundw
          case rel => exact ⟨k + 1, by omega, by go_num, firstFault_zero H0.out (by simpa using ‹(limAt ls k != 0) = false›), hm2⟩
          case measure => simp [intOf]; omega
      · obtain rfl : k = n := by omega
        go_wp2_with fail
        go_ret
        exact ⟨ret_int (by simp only [limsFault, hlen]; rw [if_neg h20, H0.out]), hm⟩

set_option maxHeartbeats 2000000 in
theorem ref_limitsFault (ls : List Lim) (A : Option Addr) (n c : Nat) (w : World) (hl : LimRows w A n ls) (hn : n ≤ 1000) (hs : ∀ l ∈ ls, l.key.size ≤ maxLen) :
    Calls Tryz.prog 6 #[.slice A n c] w fun e w' => e = .returned (.int .i64 (limsFault ls)) ∧ New w w' := by
  have hlen := hl.1
  by_cases h20 : 20 < n
  · have h21 : (20 : Int) < n := by omega
    go_enter Tryz.func6, Tryz.ntmps6
    go_wp2_with fail
    go_ret
    exact ⟨ret_int (by simp [limsFault, hlen, h20]), Mod.refl _ _⟩
  · have h21 : ¬ (20 : Int) < n := by omega
    have HS := Lib.hid hs
    clear hs
    go_enter Tryz.func6, Tryz.ntmps6
    go_wp2_with fail
    go_loopw [3, 4, 5, 11] (fun _ _ _ i wr => ∃ k : Nat, k ≤ n ∧ i = .int .i64 k ∧ firstFault (limAt ls) k = 0 ∧ New w wr) (fun _ _ _ i _ => n - (intOf i).toNat)
    case atStart => exact ⟨0, Nat.zero_le _, rfl, rfl, Mod.refl _ _⟩
    case round =>
      obtain ⟨k, hk, rfl, h0, hm⟩ := hrel
      have H0 := Lib.hid h0
      clear h0
      by_cases hlt : k < n
      · obtain ⟨g, o, rfl, hg, hc⟩ := (hl.new hm).2 (by omega)
        have hgl := hg.lt
        have hx : ls[k]? = some ls[k] := by simp
        have c0 := hc k (by omega) 0 (by omega)
        have c1 := hc k (by omega) 1 (by omega)
        have c2 := hc k (by omega) 2 (by omega)
        have c3 := hc k (by omega) 3 (by omega)
        have c4 := hc k (by omega) 4 (by omega)
        simp only [Lim.enc, Nat.add_zero] at c0 c1 c2 c3 c4
        have hb1 : (0 : Int) ≤ k := by omega
        have hb2 : (k : Int) < n := by omega
        have hks : ls[k].key.size ≤ maxLen := HS.out _ (List.getElem_mem _)
        have hprev : ∃ p : ByteArray, (0 < k → ls[k-1]?.map (·.key) = some p ∧ wr.cell? ⟨g, o + (k - 1) * 5, none⟩ = some (.string p)) := by
          by_cases h0 : 0 < k
          · refine ⟨ls[k-1].key, fun _ => ⟨?_, ?_⟩⟩
            · rw [List.getElem?_eq_getElem (by omega)]; rfl
            · simpa [Lim.enc] using hc (k - 1) (by omega) 0 (by omega)
          · exact ⟨⟨#[]⟩, fun h => absurd h h0⟩
        obtain ⟨p, hp⟩ := hprev
        have HE := Lib.hid (limAt_eq hx p (fun h => (hp h).1))
        clear hc hx
        generalize ls[k] = l at *
        obtain ⟨key, kind, most, per, burst⟩ := l
        simp only at c0 c1 c2 c3 c4 hks
        go_wp2_with fail
        refine (ref_key _ _ hks).mono ?_
        rintro e w1 ⟨rfl, rfl⟩
        cases hk' : isKey key
        · go_wp2_with fail
          go_ret
          have hl5 : limAt ls k = 5 := by rw [HE.out]; simp [hk']
          exact ⟨ret_int (by simp only [limsFault, hlen]; rw [if_neg h20, firstFault_stop H0.out (by omega) hlt, hl5]), hm.alloc _⟩
        · by_cases h0 : 0 < k
          · obtain ⟨hp1, hp2⟩ := hp h0
            have hb3 : (0 : Int) < k := by omega
            have hb4 : (0 : Int) ≤ (k : Int) - 1 := by omega
            have hb5 : (k : Int) - 1 < n := by omega
            go_wp2_with fail
            go_quiet (fail)
            cases hle : (Op.bytesLess key.toList p.toList || key.toList == p.toList)
            · have hq : (decide (0 < k) && strLe key p) = false := by simp [strLe, hle]
              have HQ := Lib.hid hq
              clear hq hle hp hp1
              go_wp2_with fail
              refine (ref_limitFault ⟨key, kind, most, per, burst⟩ _ hks).mono ?_
              rintro e w1 ⟨rfl, hm1⟩
              have hm3 := ((hm.alloc _).drewN _).trans hm1
              have ha : limAt ls k = limAlone ⟨key, kind, most, per, burst⟩ := by rw [HE.out]; simp only [hk', HQ.out, limAlone]; simp
              have HA := Lib.hid ha
              clear ha
              go_wp2_with fail
              · go_ret
                exact ⟨ret_int (by simp only [limsFault, hlen]; rw [if_neg h20, firstFault_stop H0.out (by rw [HA.out]; simpa using ‹(limAlone _ != 0) = true›) hlt, HA.out]), hm3⟩
              · go_roundw
                case rel => exact ⟨k + 1, by omega, by go_num, firstFault_zero H0.out (by rw [HA.out]; simpa using ‹(limAlone _ != 0) = false›), hm3⟩
                case measure => simp [intOf]; omega
            · go_wp2_with fail
              go_ret
              have hl5 : limAt ls k = 7 := by rw [HE.out]; simp [hk', h0, strLe, hle]
              exact ⟨ret_int (by simp only [limsFault, hlen]; rw [if_neg h20, firstFault_stop H0.out (by omega) hlt, hl5]), (hm.alloc _).drewN _⟩
          · obtain rfl : k = 0 := by omega
            have hd : decide ((0 : Int) < ((0 : Nat) : Int)) = false := by simp
            go_wp2_with fail
            go_quiet (fail)
            have hq : (decide (0 < 0) && strLe key p) = false := by simp
            have HQ := Lib.hid hq
            clear hq
            go_wp2_with fail
            refine (ref_limitFault ⟨key, kind, most, per, burst⟩ _ hks).mono ?_
            rintro e w1 ⟨rfl, hm1⟩
            have hm3 := ((hm.alloc _).drewN _).trans hm1
            have ha : limAt ls 0 = limAlone ⟨key, kind, most, per, burst⟩ := by rw [HE.out]; simp only [hk', HQ.out, limAlone]; simp
            have HA := Lib.hid ha
            clear ha
            go_wp2_with fail
            · go_ret
              exact ⟨ret_int (by simp only [limsFault, hlen]; rw [if_neg h20, firstFault_stop H0.out (by rw [HA.out]; simpa using ‹(limAlone _ != 0) = true›) hlt, HA.out]), hm3⟩
            · go_roundw
              case rel => exact ⟨0 + 1, by omega, by go_num, firstFault_zero H0.out (by rw [HA.out]; simpa using ‹(limAlone _ != 0) = false›), hm3⟩
              case measure => simp [intOf]; omega
      · obtain rfl : k = n := by omega
        go_wp2_with fail
        go_ret
        exact ⟨ret_int (by simp only [limsFault, hlen]; rw [if_neg h20, H0.out]), hm⟩

end Go.Proofs.YtinnckbffblecaaGreatDoor
