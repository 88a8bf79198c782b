/- Small functions of values: is a number outside, is a string UTF-8, is what a kind does not use nought. (the walk of value.idle is printed by mkval2.py) Conditions: the library's tables lie as they should. -/
import Derived.Test.YtahofcopedlenaaGreatDoorVal1
import Derived.Test.YtahofcopedlenaaGreatDoorShelf
namespace Go.Proofs.YtahofcopedlenaaGreatDoor
open Go.RowKit
set_option linter.unusedVariables false
set_option linter.unusedSimpArgs false

theorem outside_v (n a b : Int) (w : World) :
    Calls Tryz.prog 55 #[.int .i64 n, .int .i64 a, .int .i64 b] w fun e w' => e = .returned (.bool (!(decide (a ≤ n) && decide (n ≤ b)))) ∧ w = w' := by
  by_cases h : n < a
  · go_enter Tryz.func55, Tryz.ntmps55
    go_wp2
    go_ret
    refine ⟨?_, rfl⟩
    have : ¬ a ≤ n := by omega
    simp [this]
  · have h' : decide (n < a) = false := by simpa using h
    have h2 : decide (a ≤ n) = true := by simp; omega
    go_enter Tryz.func55, Tryz.ntmps55
    go_wp2
    go_ret
    refine ⟨?_, rfl⟩
    refine ret_bool ?_
    rw [Bool.eq_iff_iff]
    simp

theorem in_v (n a b : Int) (w : World) :
    Calls Tryz.prog 31 #[.int .i64 n, .int .i64 a, .int .i64 b] w fun e w' => e = .returned (.bool (decide (a ≤ n) && decide (n ≤ b))) ∧ w = w' := by
  by_cases h : a ≤ n
  · go_enter Tryz.func31, Tryz.ntmps31
    go_wp2
    go_ret
    exact ⟨by simp [h], rfl⟩
  · have h' : decide (a ≤ n) = false := by simpa using h
    go_enter Tryz.func31, Tryz.ntmps31
    go_wp2
    go_ret
    exact ⟨by simp [h'], rfl⟩

/-- the tables of unicode/utf8 lie as they should -/
def Utf8T (w : World) : Prop := Lib.Utf8Tabs 0 1 w
theorem Utf8T.lt {w : World} (h : Utf8T w) : 0 < w.heap.size ∧ 1 < w.heap.size := by
  have key : ∀ g i (v : Value), w.cell? ⟨g, i, none⟩ = some v → g < w.heap.size := fun g i v hc => by
    rcases Nat.lt_or_ge g w.heap.size with hlt | hge
    · exact hlt
    · simp [World.cell?, Array.getElem?_eq_none hge] at hc
  exact ⟨key _ _ _ (h.1 0 (by omega)), key _ _ _ (h.2 0 (by omega)).1⟩
theorem Utf8T.mod {S : Nat → Prop} {w0 w w' : World} (h0 : Utf8T w0) (h : Utf8T w) (hm : Mod S w w') (hS : ∀ g, g < w0.heap.size → ¬ S g) : Utf8T w' := by
  obtain ⟨a0, b0⟩ := h0.lt
  obtain ⟨a1, b1⟩ := h.lt
  exact ⟨fun c hc => (hm.cell (p := ⟨_, c, none⟩) a1 (hS _ a0)).trans (h.1 c hc), fun i hi => ⟨(hm.cell (p := ⟨_, 2 * i, none⟩) b1 (hS _ b0)).trans (h.2 i hi).1, (hm.cell (p := ⟨_, 2 * i + 1, none⟩) b1 (hS _ b0)).trans (h.2 i hi).2⟩⟩
theorem Utf8T.new {w w' : World} (h : Utf8T w) (hm : New w w') : Utf8T w' := h.mod h hm (fun _ _ e => e)
theorem valid_v (s : ByteArray) (w : World) (hs : s.size ≤ 1000000) (hT : Utf8T w) :
    Calls Tryz.prog 70 #[.string s] w fun e w' => e = .returned (.bool (validW s)) ∧ New w w' :=
  (Tryz.utf8_ValidString s w (by omega) hT).mono (by rintro e w' ⟨rfl, hb⟩; exact ⟨rfl, Mod.of_below hb⟩)

theorem nameFault_v (s : ByteArray) (w : World) (hs : s.size ≤ 1000000) (hT : Utf8T w) :
    Calls Tryz.prog 73 #[.string s] w fun e w' => e = .returned (.int .i64 (nameF s)) ∧ New w w' := by
  by_cases h : 100 < s.size
  · have h1 : (100 : Int) < s.size := by omega
    have HE : Hid (nameF s = 2) := Lib.hid (by unfold nameF; rw [if_pos h])
    clear h
    go_enter Tryz.func73, Tryz.ntmps73
    go_wp2_with fail
    go_ret
    exact ⟨ret_int HE.out.symm, Mod.refl _ _⟩
  · have h1 : ¬ (100 : Int) < s.size := by omega
    have HE : Hid (nameF s = if validW s = false then 3 else 0) := Lib.hid (by unfold nameF; rw [if_neg h])
    have hv := valid_v s w hs hT
    clear h
    generalize validW s = b at *
    go_enter Tryz.func73, Tryz.ntmps73
    go_wp2_with fail
    refine hv.mono ?_
    rintro e w1 ⟨rfl, m1⟩
    cases b
    · go_wp2_with fail
      go_ret
      exact ⟨ret_int HE.out.symm, m1⟩
    · go_wp2_with fail
      go_ret
      exact ⟨ret_int HE.out.symm, m1⟩
theorem ref_nameFault_v (s : ByteArray) (w : World) (hs : s.size ≤ 1000000) (hT : Utf8T w) :
    Calls Tryz.prog 54 #[.string s] w fun e w' => e = .returned (.int .i64 (nameF s)) ∧ New w w' := by
  by_cases h : 100 < s.size
  · have h1 : (100 : Int) < s.size := by omega
    have HE : Hid (nameF s = 2) := Lib.hid (by unfold nameF; rw [if_pos h])
    clear h
    go_enter Tryz.func54, Tryz.ntmps54
    go_wp2_with fail
    go_ret
    exact ⟨ret_int HE.out.symm, Mod.refl _ _⟩
  · have h1 : ¬ (100 : Int) < s.size := by omega
    have HE : Hid (nameF s = if validW s = false then 3 else 0) := Lib.hid (by unfold nameF; rw [if_neg h])
    have hv := valid_v s w hs hT
    clear h
    generalize validW s = b at *
    go_enter Tryz.func54, Tryz.ntmps54
    go_wp2_with fail
    refine hv.mono ?_
    rintro e w1 ⟨rfl, m1⟩
    cases b
    · go_wp2_with fail
      go_ret
      exact ⟨ret_int HE.out.symm, m1⟩
    · go_wp2_with fail
      go_ret
      exact ⟨ret_int HE.out.symm, m1⟩
theorem flagNumber_v (b : Bool) (w : World) : Calls Tryz.prog 96 #[.bool b] w fun e w' => e = .returned (.int .i64 (flagN b)) ∧ w = w' := by
  cases b <;>
  · go_enter Tryz.func96, Tryz.ntmps96
    go_wp2_with fail
    go_ret
    exact ⟨rfl, rfl⟩

/-- what a kind does not use is nought: over the cells -/
def idleX (x : VA) : Bool := (decide (x.kind = 1) || !x.flag) && (decide (x.kind = 2) || decide (x.num = 0)) && (decide (x.kind = 3) || decide (x.words = ⟨#[]⟩)) && (decide (x.kind = 4) || decide (x.ln = 0)) && (decide (x.kind = 5) || decide (x.mn = 0))
theorem Tree.idle {w : World} {G : Nat → Prop} {d : Nat} {x : VA} {v : VT} (h : Tree w G d x v) : idleV v = idleX x := by
  obtain ⟨h1, h2, h3, h4, h5, h6⟩ := h.fields
  unfold idleV idleX
  rw [h1, h2, h3, h4, h5, h6]
theorem str_nil' (z : ByteArray) : (z.toList == []) = decide (z = ⟨#[]⟩) := by
  rw [Bool.eq_iff_iff, ByteArray.toList_eq]
  simp only [beq_iff_eq, decide_eq_true_eq]
  constructor
  · intro h
    exact ByteArray.ext (Array.toList_inj.mp h)
  · rintro rfl
    rfl
set_option maxHeartbeats 4000000 in
theorem idle_v (x : VA) (w : World) : Calls Tryz.prog 72 #[x.val] w fun e w' => e = .returned (.bool (idleX x)) ∧ New w w' := by
  obtain ⟨kind, flag, num, words, la, ln, lc, ma, mn, mc⟩ := x
  have hz := str_nil' words
  obtain ⟨I, hI⟩ : ∃ I, idleX ⟨kind, flag, num, words, la, ln, lc, ma, mn, mc⟩ = I := ⟨_, rfl⟩
  rw [hI]
  have HI := Lib.hid hI
  clear hI
  unfold VA.val
  simp only
  by_cases k1 : kind = 1
  · subst k1
    by_cases hnum : num = 0
    · have fnum : (num == 0) = true := by simpa using hnum
      by_cases hwords : words = ⟨#[]⟩
      · rw [decide_eq_true hwords] at hz
        by_cases hln : ln = 0
        · have fln : ((ln : Int) == 0) = true := by simp; omega
          by_cases hmn : mn = 0
          · have fmn : ((mn : Int) == 0) = true := by simp; omega
            have HID : Hid (((decide ((1 : Int) = 1) || !flag) && (decide ((1 : Int) = 2) || decide (num = 0)) && (decide ((1 : Int) = 3) || decide (words = ⟨#[]⟩)) && (decide ((1 : Int) = 4) || decide (ln = 0)) && (decide ((1 : Int) = 5) || decide (mn = 0))) = true) := Lib.hid (by simp [hnum, hwords, hln, hmn])
            go_enter Tryz.func72, Tryz.ntmps72
            go_wp2_with fail
            go_ret
            exact ⟨ret_bool (HID.out.symm.trans HI.out), (Mod.refl _ _).alloc _⟩
          · have fmn : ((mn : Int) == 0) = false := by simp; omega
            have HID : Hid (((decide ((1 : Int) = 1) || !flag) && (decide ((1 : Int) = 2) || decide (num = 0)) && (decide ((1 : Int) = 3) || decide (words = ⟨#[]⟩)) && (decide ((1 : Int) = 4) || decide (ln = 0)) && (decide ((1 : Int) = 5) || decide (mn = 0))) = false) := Lib.hid (by simp [hnum, hwords, hln, hmn])
            go_enter Tryz.func72, Tryz.ntmps72
            go_wp2_with fail
            go_ret
            exact ⟨ret_bool (HID.out.symm.trans HI.out), (Mod.refl _ _).alloc _⟩
        · have fln : ((ln : Int) == 0) = false := by simp; omega
          have HID : Hid (((decide ((1 : Int) = 1) || !flag) && (decide ((1 : Int) = 2) || decide (num = 0)) && (decide ((1 : Int) = 3) || decide (words = ⟨#[]⟩)) && (decide ((1 : Int) = 4) || decide (ln = 0)) && (decide ((1 : Int) = 5) || decide (mn = 0))) = false) := Lib.hid (by simp [hnum, hwords, hln])
          go_enter Tryz.func72, Tryz.ntmps72
          go_wp2_with fail
          go_ret
          exact ⟨ret_bool (HID.out.symm.trans HI.out), (Mod.refl _ _).alloc _⟩
      · rw [decide_eq_false hwords] at hz
        have HID : Hid (((decide ((1 : Int) = 1) || !flag) && (decide ((1 : Int) = 2) || decide (num = 0)) && (decide ((1 : Int) = 3) || decide (words = ⟨#[]⟩)) && (decide ((1 : Int) = 4) || decide (ln = 0)) && (decide ((1 : Int) = 5) || decide (mn = 0))) = false) := Lib.hid (by simp [hnum, hwords])
        go_enter Tryz.func72, Tryz.ntmps72
        go_wp2_with fail
        go_ret
        exact ⟨ret_bool (HID.out.symm.trans HI.out), (Mod.refl _ _).alloc _⟩
    · have fnum : (num == 0) = false := by simpa using hnum
      have HID : Hid (((decide ((1 : Int) = 1) || !flag) && (decide ((1 : Int) = 2) || decide (num = 0)) && (decide ((1 : Int) = 3) || decide (words = ⟨#[]⟩)) && (decide ((1 : Int) = 4) || decide (ln = 0)) && (decide ((1 : Int) = 5) || decide (mn = 0))) = false) := Lib.hid (by simp [hnum])
      go_enter Tryz.func72, Tryz.ntmps72
      go_wp2_with fail
      go_ret
      exact ⟨ret_bool (HID.out.symm.trans HI.out), (Mod.refl _ _).alloc _⟩
  · by_cases k2 : kind = 2
    · subst k2
      cases flag with
      | true =>
        have HID : Hid (((decide ((2 : Int) = 1) || !true) && (decide ((2 : Int) = 2) || decide (num = 0)) && (decide ((2 : Int) = 3) || decide (words = ⟨#[]⟩)) && (decide ((2 : Int) = 4) || decide (ln = 0)) && (decide ((2 : Int) = 5) || decide (mn = 0))) = false) := Lib.hid (by simp [Nat.add_zero])
        go_enter Tryz.func72, Tryz.ntmps72
        go_wp2_with fail
        go_ret
        exact ⟨ret_bool (HID.out.symm.trans HI.out), (Mod.refl _ _).alloc _⟩
      | false =>
        by_cases hwords : words = ⟨#[]⟩
        · rw [decide_eq_true hwords] at hz
          by_cases hln : ln = 0
          · have fln : ((ln : Int) == 0) = true := by simp; omega
            by_cases hmn : mn = 0
            · have fmn : ((mn : Int) == 0) = true := by simp; omega
              have HID : Hid (((decide ((2 : Int) = 1) || !false) && (decide ((2 : Int) = 2) || decide (num = 0)) && (decide ((2 : Int) = 3) || decide (words = ⟨#[]⟩)) && (decide ((2 : Int) = 4) || decide (ln = 0)) && (decide ((2 : Int) = 5) || decide (mn = 0))) = true) := Lib.hid (by simp [hwords, hln, hmn])
              go_enter Tryz.func72, Tryz.ntmps72
              go_wp2_with fail
              go_ret
              exact ⟨ret_bool (HID.out.symm.trans HI.out), (Mod.refl _ _).alloc _⟩
            · have fmn : ((mn : Int) == 0) = false := by simp; omega
              have HID : Hid (((decide ((2 : Int) = 1) || !false) && (decide ((2 : Int) = 2) || decide (num = 0)) && (decide ((2 : Int) = 3) || decide (words = ⟨#[]⟩)) && (decide ((2 : Int) = 4) || decide (ln = 0)) && (decide ((2 : Int) = 5) || decide (mn = 0))) = false) := Lib.hid (by simp [hwords, hln, hmn])
              go_enter Tryz.func72, Tryz.ntmps72
              go_wp2_with fail
              go_ret
              exact ⟨ret_bool (HID.out.symm.trans HI.out), (Mod.refl _ _).alloc _⟩
          · have fln : ((ln : Int) == 0) = false := by simp; omega
            have HID : Hid (((decide ((2 : Int) = 1) || !false) && (decide ((2 : Int) = 2) || decide (num = 0)) && (decide ((2 : Int) = 3) || decide (words = ⟨#[]⟩)) && (decide ((2 : Int) = 4) || decide (ln = 0)) && (decide ((2 : Int) = 5) || decide (mn = 0))) = false) := Lib.hid (by simp [hwords, hln])
            go_enter Tryz.func72, Tryz.ntmps72
            go_wp2_with fail
            go_ret
            exact ⟨ret_bool (HID.out.symm.trans HI.out), (Mod.refl _ _).alloc _⟩
        · rw [decide_eq_false hwords] at hz
          have HID : Hid (((decide ((2 : Int) = 1) || !false) && (decide ((2 : Int) = 2) || decide (num = 0)) && (decide ((2 : Int) = 3) || decide (words = ⟨#[]⟩)) && (decide ((2 : Int) = 4) || decide (ln = 0)) && (decide ((2 : Int) = 5) || decide (mn = 0))) = false) := Lib.hid (by simp [hwords])
          go_enter Tryz.func72, Tryz.ntmps72
          go_wp2_with fail
          go_ret
          exact ⟨ret_bool (HID.out.symm.trans HI.out), (Mod.refl _ _).alloc _⟩
    · by_cases k3 : kind = 3
      · subst k3
        cases flag with
        | true =>
          have HID : Hid (((decide ((3 : Int) = 1) || !true) && (decide ((3 : Int) = 2) || decide (num = 0)) && (decide ((3 : Int) = 3) || decide (words = ⟨#[]⟩)) && (decide ((3 : Int) = 4) || decide (ln = 0)) && (decide ((3 : Int) = 5) || decide (mn = 0))) = false) := Lib.hid (by simp [Nat.add_zero])
          go_enter Tryz.func72, Tryz.ntmps72
          go_wp2_with fail
          go_ret
          exact ⟨ret_bool (HID.out.symm.trans HI.out), (Mod.refl _ _).alloc _⟩
        | false =>
          by_cases hnum : num = 0
          · have fnum : (num == 0) = true := by simpa using hnum
            by_cases hln : ln = 0
            · have fln : ((ln : Int) == 0) = true := by simp; omega
              by_cases hmn : mn = 0
              · have fmn : ((mn : Int) == 0) = true := by simp; omega
                have HID : Hid (((decide ((3 : Int) = 1) || !false) && (decide ((3 : Int) = 2) || decide (num = 0)) && (decide ((3 : Int) = 3) || decide (words = ⟨#[]⟩)) && (decide ((3 : Int) = 4) || decide (ln = 0)) && (decide ((3 : Int) = 5) || decide (mn = 0))) = true) := Lib.hid (by simp [hnum, hln, hmn])
                go_enter Tryz.func72, Tryz.ntmps72
                go_wp2_with fail
                go_ret
                exact ⟨ret_bool (HID.out.symm.trans HI.out), (Mod.refl _ _).alloc _⟩
              · have fmn : ((mn : Int) == 0) = false := by simp; omega
                have HID : Hid (((decide ((3 : Int) = 1) || !false) && (decide ((3 : Int) = 2) || decide (num = 0)) && (decide ((3 : Int) = 3) || decide (words = ⟨#[]⟩)) && (decide ((3 : Int) = 4) || decide (ln = 0)) && (decide ((3 : Int) = 5) || decide (mn = 0))) = false) := Lib.hid (by simp [hnum, hln, hmn])
                go_enter Tryz.func72, Tryz.ntmps72
                go_wp2_with fail
                go_ret
                exact ⟨ret_bool (HID.out.symm.trans HI.out), (Mod.refl _ _).alloc _⟩
            · have fln : ((ln : Int) == 0) = false := by simp; omega
              have HID : Hid (((decide ((3 : Int) = 1) || !false) && (decide ((3 : Int) = 2) || decide (num = 0)) && (decide ((3 : Int) = 3) || decide (words = ⟨#[]⟩)) && (decide ((3 : Int) = 4) || decide (ln = 0)) && (decide ((3 : Int) = 5) || decide (mn = 0))) = false) := Lib.hid (by simp [hnum, hln])
              go_enter Tryz.func72, Tryz.ntmps72
              go_wp2_with fail
              go_ret
              exact ⟨ret_bool (HID.out.symm.trans HI.out), (Mod.refl _ _).alloc _⟩
          · have fnum : (num == 0) = false := by simpa using hnum
            have HID : Hid (((decide ((3 : Int) = 1) || !false) && (decide ((3 : Int) = 2) || decide (num = 0)) && (decide ((3 : Int) = 3) || decide (words = ⟨#[]⟩)) && (decide ((3 : Int) = 4) || decide (ln = 0)) && (decide ((3 : Int) = 5) || decide (mn = 0))) = false) := Lib.hid (by simp [hnum])
            go_enter Tryz.func72, Tryz.ntmps72
            go_wp2_with fail
            go_ret
            exact ⟨ret_bool (HID.out.symm.trans HI.out), (Mod.refl _ _).alloc _⟩
      · by_cases k4 : kind = 4
        · subst k4
          cases flag with
          | true =>
            have HID : Hid (((decide ((4 : Int) = 1) || !true) && (decide ((4 : Int) = 2) || decide (num = 0)) && (decide ((4 : Int) = 3) || decide (words = ⟨#[]⟩)) && (decide ((4 : Int) = 4) || decide (ln = 0)) && (decide ((4 : Int) = 5) || decide (mn = 0))) = false) := Lib.hid (by simp [Nat.add_zero])
            go_enter Tryz.func72, Tryz.ntmps72
            go_wp2_with fail
            go_ret
            exact ⟨ret_bool (HID.out.symm.trans HI.out), (Mod.refl _ _).alloc _⟩
          | false =>
            by_cases hnum : num = 0
            · have fnum : (num == 0) = true := by simpa using hnum
              by_cases hwords : words = ⟨#[]⟩
              · rw [decide_eq_true hwords] at hz
                by_cases hmn : mn = 0
                · have fmn : ((mn : Int) == 0) = true := by simp; omega
                  have HID : Hid (((decide ((4 : Int) = 1) || !false) && (decide ((4 : Int) = 2) || decide (num = 0)) && (decide ((4 : Int) = 3) || decide (words = ⟨#[]⟩)) && (decide ((4 : Int) = 4) || decide (ln = 0)) && (decide ((4 : Int) = 5) || decide (mn = 0))) = true) := Lib.hid (by simp [hnum, hwords, hmn])
                  go_enter Tryz.func72, Tryz.ntmps72
                  go_wp2_with fail
                  go_ret
                  exact ⟨ret_bool (HID.out.symm.trans HI.out), (Mod.refl _ _).alloc _⟩
                · have fmn : ((mn : Int) == 0) = false := by simp; omega
                  have HID : Hid (((decide ((4 : Int) = 1) || !false) && (decide ((4 : Int) = 2) || decide (num = 0)) && (decide ((4 : Int) = 3) || decide (words = ⟨#[]⟩)) && (decide ((4 : Int) = 4) || decide (ln = 0)) && (decide ((4 : Int) = 5) || decide (mn = 0))) = false) := Lib.hid (by simp [hnum, hwords, hmn])
                  go_enter Tryz.func72, Tryz.ntmps72
                  go_wp2_with fail
                  go_ret
                  exact ⟨ret_bool (HID.out.symm.trans HI.out), (Mod.refl _ _).alloc _⟩
              · rw [decide_eq_false hwords] at hz
                have HID : Hid (((decide ((4 : Int) = 1) || !false) && (decide ((4 : Int) = 2) || decide (num = 0)) && (decide ((4 : Int) = 3) || decide (words = ⟨#[]⟩)) && (decide ((4 : Int) = 4) || decide (ln = 0)) && (decide ((4 : Int) = 5) || decide (mn = 0))) = false) := Lib.hid (by simp [hnum, hwords])
                go_enter Tryz.func72, Tryz.ntmps72
                go_wp2_with fail
                go_ret
                exact ⟨ret_bool (HID.out.symm.trans HI.out), (Mod.refl _ _).alloc _⟩
            · have fnum : (num == 0) = false := by simpa using hnum
              have HID : Hid (((decide ((4 : Int) = 1) || !false) && (decide ((4 : Int) = 2) || decide (num = 0)) && (decide ((4 : Int) = 3) || decide (words = ⟨#[]⟩)) && (decide ((4 : Int) = 4) || decide (ln = 0)) && (decide ((4 : Int) = 5) || decide (mn = 0))) = false) := Lib.hid (by simp [hnum])
              go_enter Tryz.func72, Tryz.ntmps72
              go_wp2_with fail
              go_ret
              exact ⟨ret_bool (HID.out.symm.trans HI.out), (Mod.refl _ _).alloc _⟩
        · by_cases k5 : kind = 5
          · subst k5
            cases flag with
            | true =>
              have HID : Hid (((decide ((5 : Int) = 1) || !true) && (decide ((5 : Int) = 2) || decide (num = 0)) && (decide ((5 : Int) = 3) || decide (words = ⟨#[]⟩)) && (decide ((5 : Int) = 4) || decide (ln = 0)) && (decide ((5 : Int) = 5) || decide (mn = 0))) = false) := Lib.hid (by simp [Nat.add_zero])
              go_enter Tryz.func72, Tryz.ntmps72
              go_wp2_with fail
              go_ret
              exact ⟨ret_bool (HID.out.symm.trans HI.out), (Mod.refl _ _).alloc _⟩
            | false =>
              by_cases hnum : num = 0
              · have fnum : (num == 0) = true := by simpa using hnum
                by_cases hwords : words = ⟨#[]⟩
                · rw [decide_eq_true hwords] at hz
                  by_cases hln : ln = 0
                  · have fln : ((ln : Int) == 0) = true := by simp; omega
                    have HID : Hid (((decide ((5 : Int) = 1) || !false) && (decide ((5 : Int) = 2) || decide (num = 0)) && (decide ((5 : Int) = 3) || decide (words = ⟨#[]⟩)) && (decide ((5 : Int) = 4) || decide (ln = 0)) && (decide ((5 : Int) = 5) || decide (mn = 0))) = true) := Lib.hid (by simp [hnum, hwords, hln])
                    go_enter Tryz.func72, Tryz.ntmps72
                    go_wp2_with fail
                    go_ret
                    exact ⟨ret_bool (HID.out.symm.trans HI.out), (Mod.refl _ _).alloc _⟩
                  · have fln : ((ln : Int) == 0) = false := by simp; omega
                    have HID : Hid (((decide ((5 : Int) = 1) || !false) && (decide ((5 : Int) = 2) || decide (num = 0)) && (decide ((5 : Int) = 3) || decide (words = ⟨#[]⟩)) && (decide ((5 : Int) = 4) || decide (ln = 0)) && (decide ((5 : Int) = 5) || decide (mn = 0))) = false) := Lib.hid (by simp [hnum, hwords, hln])
                    go_enter Tryz.func72, Tryz.ntmps72
                    go_wp2_with fail
                    go_ret
                    exact ⟨ret_bool (HID.out.symm.trans HI.out), (Mod.refl _ _).alloc _⟩
                · rw [decide_eq_false hwords] at hz
                  have HID : Hid (((decide ((5 : Int) = 1) || !false) && (decide ((5 : Int) = 2) || decide (num = 0)) && (decide ((5 : Int) = 3) || decide (words = ⟨#[]⟩)) && (decide ((5 : Int) = 4) || decide (ln = 0)) && (decide ((5 : Int) = 5) || decide (mn = 0))) = false) := Lib.hid (by simp [hnum, hwords])
                  go_enter Tryz.func72, Tryz.ntmps72
                  go_wp2_with fail
                  go_ret
                  exact ⟨ret_bool (HID.out.symm.trans HI.out), (Mod.refl _ _).alloc _⟩
              · have fnum : (num == 0) = false := by simpa using hnum
                have HID : Hid (((decide ((5 : Int) = 1) || !false) && (decide ((5 : Int) = 2) || decide (num = 0)) && (decide ((5 : Int) = 3) || decide (words = ⟨#[]⟩)) && (decide ((5 : Int) = 4) || decide (ln = 0)) && (decide ((5 : Int) = 5) || decide (mn = 0))) = false) := Lib.hid (by simp [hnum])
                go_enter Tryz.func72, Tryz.ntmps72
                go_wp2_with fail
                go_ret
                exact ⟨ret_bool (HID.out.symm.trans HI.out), (Mod.refl _ _).alloc _⟩
          · have b1 : (kind == 1) = false := by simpa using k1
            have b2 : (kind == 2) = false := by simpa using k2
            have b3 : (kind == 3) = false := by simpa using k3
            have b4 : (kind == 4) = false := by simpa using k4
            have b5 : (kind == 5) = false := by simpa using k5
            cases flag with
            | true =>
              have HID : Hid (((decide ((kind : Int) = 1) || !true) && (decide ((kind : Int) = 2) || decide (num = 0)) && (decide ((kind : Int) = 3) || decide (words = ⟨#[]⟩)) && (decide ((kind : Int) = 4) || decide (ln = 0)) && (decide ((kind : Int) = 5) || decide (mn = 0))) = false) := Lib.hid (by simp [k1, k2, k3, k4, k5])
              go_enter Tryz.func72, Tryz.ntmps72
              go_wp2_with fail
              go_ret
              exact ⟨ret_bool (HID.out.symm.trans HI.out), (Mod.refl _ _).alloc _⟩
            | false =>
              by_cases hnum : num = 0
              · have fnum : (num == 0) = true := by simpa using hnum
                by_cases hwords : words = ⟨#[]⟩
                · rw [decide_eq_true hwords] at hz
                  by_cases hln : ln = 0
                  · have fln : ((ln : Int) == 0) = true := by simp; omega
                    by_cases hmn : mn = 0
                    · have fmn : ((mn : Int) == 0) = true := by simp; omega
                      have HID : Hid (((decide ((kind : Int) = 1) || !false) && (decide ((kind : Int) = 2) || decide (num = 0)) && (decide ((kind : Int) = 3) || decide (words = ⟨#[]⟩)) && (decide ((kind : Int) = 4) || decide (ln = 0)) && (decide ((kind : Int) = 5) || decide (mn = 0))) = true) := Lib.hid (by simp [hnum, hwords, hln, hmn, k1, k2, k3, k4, k5])
                      go_enter Tryz.func72, Tryz.ntmps72
                      go_wp2_with fail
                      go_ret
                      exact ⟨ret_bool (HID.out.symm.trans HI.out), (Mod.refl _ _).alloc _⟩
                    · have fmn : ((mn : Int) == 0) = false := by simp; omega
                      have HID : Hid (((decide ((kind : Int) = 1) || !false) && (decide ((kind : Int) = 2) || decide (num = 0)) && (decide ((kind : Int) = 3) || decide (words = ⟨#[]⟩)) && (decide ((kind : Int) = 4) || decide (ln = 0)) && (decide ((kind : Int) = 5) || decide (mn = 0))) = false) := Lib.hid (by simp [hnum, hwords, hln, hmn, k1, k2, k3, k4, k5])
                      go_enter Tryz.func72, Tryz.ntmps72
                      go_wp2_with fail
                      go_ret
                      exact ⟨ret_bool (HID.out.symm.trans HI.out), (Mod.refl _ _).alloc _⟩
                  · have fln : ((ln : Int) == 0) = false := by simp; omega
                    have HID : Hid (((decide ((kind : Int) = 1) || !false) && (decide ((kind : Int) = 2) || decide (num = 0)) && (decide ((kind : Int) = 3) || decide (words = ⟨#[]⟩)) && (decide ((kind : Int) = 4) || decide (ln = 0)) && (decide ((kind : Int) = 5) || decide (mn = 0))) = false) := Lib.hid (by simp [hnum, hwords, hln, k1, k2, k3, k4, k5])
                    go_enter Tryz.func72, Tryz.ntmps72
                    go_wp2_with fail
                    go_ret
                    exact ⟨ret_bool (HID.out.symm.trans HI.out), (Mod.refl _ _).alloc _⟩
                · rw [decide_eq_false hwords] at hz
                  have HID : Hid (((decide ((kind : Int) = 1) || !false) && (decide ((kind : Int) = 2) || decide (num = 0)) && (decide ((kind : Int) = 3) || decide (words = ⟨#[]⟩)) && (decide ((kind : Int) = 4) || decide (ln = 0)) && (decide ((kind : Int) = 5) || decide (mn = 0))) = false) := Lib.hid (by simp [hnum, hwords, k1, k2, k3, k4, k5])
                  go_enter Tryz.func72, Tryz.ntmps72
                  go_wp2_with fail
                  go_ret
                  exact ⟨ret_bool (HID.out.symm.trans HI.out), (Mod.refl _ _).alloc _⟩
              · have fnum : (num == 0) = false := by simpa using hnum
                have HID : Hid (((decide ((kind : Int) = 1) || !false) && (decide ((kind : Int) = 2) || decide (num = 0)) && (decide ((kind : Int) = 3) || decide (words = ⟨#[]⟩)) && (decide ((kind : Int) = 4) || decide (ln = 0)) && (decide ((kind : Int) = 5) || decide (mn = 0))) = false) := Lib.hid (by simp [hnum, k1, k2, k3, k4, k5])
                go_enter Tryz.func72, Tryz.ntmps72
                go_wp2_with fail
                go_ret
                exact ⟨ret_bool (HID.out.symm.trans HI.out), (Mod.refl _ _).alloc _⟩

end Go.Proofs.YtahofcopedlenaaGreatDoor
