/- Several texts in one. (1) Small functions of values: is a number outside, is a string UTF-8, is what a kind does not use nought. (the walk of value.idle is printed by mkval2.py) Conditions: the library's tables lie as they should. (2) strconv's table of powers of ten; strconv.Itoa. No conditions. (3) Values written: the program's writer. Conditions: a right value, a text that is not too large; strconv's table. -/
import Derived.Test.YtjmnkdkdjnmejaaGreatDoorVal1Grp
import Derived.Test.YtjmnkdkdjnmejaaGreatDoorShelf
import Derived.Lib.LaidTab
import Derived.Lib.ItoaLen
import Derived.Test.YtjmnkdkdjnmejaaGreatDoorBuGrp
import Derived.Test.YtjmnkdkdjnmejaaGreatDoorHeldGrp
import Derived.Lib.ItoaMem

namespace Go.Proofs.YtjmnkdkdjnmejaaGreatDoor
open Go.RowKit
set_option linter.unusedVariables false
set_option linter.unusedSimpArgs false

theorem outside_v (n a b : Int) (w : World) :
    Calls Tryz.prog 72 #[.int .i64 n, .int .i64 a, .int .i64 b] w fun e w' => e = .returned (.bool (!(decide (a ≤ n) && decide (n ≤ b)))) ∧ w = w' := by
  by_cases h : n < a
  · go_enter Tryz.func72, Tryz.ntmps72
    go_wp2
    go_ret
    refine ⟨?_, rfl⟩
    have : ¬ a ≤ n := by omega
    simp [this]
  · have h' : decide (n < a) = false := by simpa using h
    have h2 : decide (a ≤ n) = true := by simp; omega
    go_enter Tryz.func72, Tryz.ntmps72
    go_wp2
    go_ret
    refine ⟨?_, rfl⟩
    refine ret_bool ?_
    rw [Bool.eq_iff_iff]
    simp

theorem in_v (n a b : Int) (w : World) :
    Calls Tryz.prog 117 #[.int .i64 n, .int .i64 a, .int .i64 b] w fun e w' => e = .returned (.bool (decide (a ≤ n) && decide (n ≤ b))) ∧ w = w' := by
  by_cases h : a ≤ n
  · go_enter Tryz.func117, Tryz.ntmps117
    go_wp2
    go_ret
    exact ⟨by simp [h], rfl⟩
  · have h' : decide (a ≤ n) = false := by simpa using h
    go_enter Tryz.func117, Tryz.ntmps117
    go_wp2
    go_ret
    exact ⟨by simp [h'], rfl⟩

/-- the tables of unicode/utf8 lie as they should -/
def Utf8T (w : World) : Prop := Lib.Utf8Tabs 0 1 w
theorem Utf8T.lt {w : World} (h : Utf8T w) : 0 < w.heap.size ∧ 1 < w.heap.size := by
  have key : ∀ g i (v : Value), w.cell? ⟨g, i, none⟩ = some v → g < w.heap.size := fun g i v hc => by
    rcases Nat.lt_or_ge g w.heap.size with hlt | hge
    · exact hlt
    · simp [World.cell?, Array.getElem?_eq_none hge] at hc
  exact ⟨key _ _ _ (h.1 0 (by omega)), key _ _ _ (h.2 0 (by omega)).1⟩
theorem Utf8T.mod {S : Nat → Prop} {w0 w w' : World} (h0 : Utf8T w0) (h : Utf8T w) (hm : Mod S w w') (hS : ∀ g, g < w0.heap.size → ¬ S g) : Utf8T w' := by
  obtain ⟨a0, b0⟩ := h0.lt
  obtain ⟨a1, b1⟩ := h.lt
  exact ⟨fun c hc => (hm.cell (p := ⟨_, c, none⟩) a1 (hS _ a0)).trans (h.1 c hc), fun i hi => ⟨(hm.cell (p := ⟨_, 2 * i, none⟩) b1 (hS _ b0)).trans (h.2 i hi).1, (hm.cell (p := ⟨_, 2 * i + 1, none⟩) b1 (hS _ b0)).trans (h.2 i hi).2⟩⟩
theorem Utf8T.new {w w' : World} (h : Utf8T w) (hm : New w w') : Utf8T w' := h.mod h hm (fun _ _ e => e)
theorem valid_v (s : ByteArray) (w : World) (hs : s.size ≤ 1000000) (hT : Utf8T w) :
    Calls Tryz.prog 74 #[.string s] w fun e w' => e = .returned (.bool (validW s)) ∧ New w w' :=
  (Tryz.utf8_ValidString s w (by omega) hT).mono (by rintro e w' ⟨rfl, hb⟩; exact ⟨rfl, Mod.of_below hb⟩)

theorem nameFault_v (s : ByteArray) (w : World) (hs : s.size ≤ 1000000) (hT : Utf8T w) :
    Calls Tryz.prog 75 #[.string s] w fun e w' => e = .returned (.int .i64 (nameF s)) ∧ New w w' := by
  by_cases h : 100 < s.size
  · have h1 : (100 : Int) < s.size := by omega
    have HE : Hid (nameF s = 2) := hId (by unfold nameF; rw [if_pos h])
    clear h
    go_enter Tryz.func75, Tryz.ntmps75
    go_wp2_with fail
    go_ret
    exact ⟨ret_int HE.out.symm, Mod.refl _ _⟩
  · have h1 : ¬ (100 : Int) < s.size := by omega
    have HE : Hid (nameF s = if validW s = false then 3 else 0) := hId (by unfold nameF; rw [if_neg h])
    have hv := valid_v s w hs hT
    clear h
    generalize validW s = b at *
    go_enter Tryz.func75, Tryz.ntmps75
    go_wp2_with fail
    refine hv.mono ?_
    rintro e w1 ⟨rfl, m1⟩
    cases b
    · go_wp2_with fail
      go_ret
      exact ⟨ret_int HE.out.symm, m1⟩
    · go_wp2_with fail
      go_ret
      exact ⟨ret_int HE.out.symm, m1⟩
theorem ref_nameFault_v (s : ByteArray) (w : World) (hs : s.size ≤ 1000000) (hT : Utf8T w) :
    Calls Tryz.prog 151 #[.string s] w fun e w' => e = .returned (.int .i64 (nameF s)) ∧ New w w' := by
  by_cases h : 100 < s.size
  · have h1 : (100 : Int) < s.size := by omega
    have HE : Hid (nameF s = 2) := hId (by unfold nameF; rw [if_pos h])
    clear h
    go_enter Tryz.func151, Tryz.ntmps151
    go_wp2_with fail
    go_ret
    exact ⟨ret_int HE.out.symm, Mod.refl _ _⟩
  · have h1 : ¬ (100 : Int) < s.size := by omega
    have HE : Hid (nameF s = if validW s = false then 3 else 0) := hId (by unfold nameF; rw [if_neg h])
    have hv := valid_v s w hs hT
    clear h
    generalize validW s = b at *
    go_enter Tryz.func151, Tryz.ntmps151
    go_wp2_with fail
    refine hv.mono ?_
    rintro e w1 ⟨rfl, m1⟩
    cases b
    · go_wp2_with fail
      go_ret
      exact ⟨ret_int HE.out.symm, m1⟩
    · go_wp2_with fail
      go_ret
      exact ⟨ret_int HE.out.symm, m1⟩
/-- what a kind does not use is nought: over the cells -/
def idleX (x : VA) : Bool := (decide (x.kind = 1) || !x.flag) && (decide (x.kind = 2) || decide (x.num = 0)) && (decide (x.kind = 3) || decide (x.words = ⟨#[]⟩)) && (decide (x.kind = 4) || decide (x.ln = 0)) && (decide (x.kind = 5) || decide (x.mn = 0))
theorem Tree.idle {w : World} {G : Nat → Prop} {d : Nat} {x : VA} {v : VT} (h : Tree w G d x v) : idleV v = idleX x := by
  obtain ⟨h1, h2, h3, h4, h5, h6⟩ := h.fields
  unfold idleV idleX
  rw [h1, h2, h3, h4, h5, h6]
theorem str_nil' (z : ByteArray) : (z.toList == []) = decide (z = ⟨#[]⟩) := by
  rw [Bool.eq_iff_iff, ByteArray.toList_eq]
  simp only [beq_iff_eq, decide_eq_true_eq]
  constructor
  · intro h
    exact ByteArray.ext (Array.toList_inj.mp h)
  · rintro rfl
    rfl
set_option maxHeartbeats 4000000 in
theorem idle_v (x : VA) (w : World) : Calls Tryz.prog 73 #[x.val] w fun e w' => e = .returned (.bool (idleX x)) ∧ New w w' := by
  obtain ⟨kind, flag, num, words, la, ln, lc, ma, mn, mc⟩ := x
  have hz := str_nil' words
  obtain ⟨I, hI⟩ : ∃ I, idleX ⟨kind, flag, num, words, la, ln, lc, ma, mn, mc⟩ = I := ⟨_, rfl⟩
  rw [hI]
  have HI := hId hI
  clear hI
  unfold VA.val
  simp only
  by_cases k1 : kind = 1
  · subst k1
    by_cases hnum : num = 0
    · have fnum : (num == 0) = true := by simpa using hnum
      by_cases hwords : words = ⟨#[]⟩
      · rw [decide_eq_true hwords] at hz
        by_cases hln : ln = 0
        · have fln : ((ln : Int) == 0) = true := by simp; omega
          by_cases hmn : mn = 0
          · have fmn : ((mn : Int) == 0) = true := by simp; omega
            have HID : Hid (((decide ((1 : Int) = 1) || !flag) && (decide ((1 : Int) = 2) || decide (num = 0)) && (decide ((1 : Int) = 3) || decide (words = ⟨#[]⟩)) && (decide ((1 : Int) = 4) || decide (ln = 0)) && (decide ((1 : Int) = 5) || decide (mn = 0))) = true) := hId (by simp [hnum, hwords, hln, hmn])
            go_enter Tryz.func73, Tryz.ntmps73
            go_wp2_with fail
            go_ret
            exact ⟨ret_bool (HID.out.symm.trans HI.out), (Mod.refl _ _).alloc _⟩
          · have fmn : ((mn : Int) == 0) = false := by simp; omega
            have HID : Hid (((decide ((1 : Int) = 1) || !flag) && (decide ((1 : Int) = 2) || decide (num = 0)) && (decide ((1 : Int) = 3) || decide (words = ⟨#[]⟩)) && (decide ((1 : Int) = 4) || decide (ln = 0)) && (decide ((1 : Int) = 5) || decide (mn = 0))) = false) := hId (by simp [hnum, hwords, hln, hmn])
            go_enter Tryz.func73, Tryz.ntmps73
            go_wp2_with fail
            go_ret
            exact ⟨ret_bool (HID.out.symm.trans HI.out), (Mod.refl _ _).alloc _⟩
        · have fln : ((ln : Int) == 0) = false := by simp; omega
          have HID : Hid (((decide ((1 : Int) = 1) || !flag) && (decide ((1 : Int) = 2) || decide (num = 0)) && (decide ((1 : Int) = 3) || decide (words = ⟨#[]⟩)) && (decide ((1 : Int) = 4) || decide (ln = 0)) && (decide ((1 : Int) = 5) || decide (mn = 0))) = false) := hId (by simp [hnum, hwords, hln])
          go_enter Tryz.func73, Tryz.ntmps73
          go_wp2_with fail
          go_ret
          exact ⟨ret_bool (HID.out.symm.trans HI.out), (Mod.refl _ _).alloc _⟩
      · rw [decide_eq_false hwords] at hz
        have HID : Hid (((decide ((1 : Int) = 1) || !flag) && (decide ((1 : Int) = 2) || decide (num = 0)) && (decide ((1 : Int) = 3) || decide (words = ⟨#[]⟩)) && (decide ((1 : Int) = 4) || decide (ln = 0)) && (decide ((1 : Int) = 5) || decide (mn = 0))) = false) := hId (by simp [hnum, hwords])
        go_enter Tryz.func73, Tryz.ntmps73
        go_wp2_with fail
        go_ret
        exact ⟨ret_bool (HID.out.symm.trans HI.out), (Mod.refl _ _).alloc _⟩
    · have fnum : (num == 0) = false := by simpa using hnum
      have HID : Hid (((decide ((1 : Int) = 1) || !flag) && (decide ((1 : Int) = 2) || decide (num = 0)) && (decide ((1 : Int) = 3) || decide (words = ⟨#[]⟩)) && (decide ((1 : Int) = 4) || decide (ln = 0)) && (decide ((1 : Int) = 5) || decide (mn = 0))) = false) := hId (by simp [hnum])
      go_enter Tryz.func73, Tryz.ntmps73
      go_wp2_with fail
      go_ret
      exact ⟨ret_bool (HID.out.symm.trans HI.out), (Mod.refl _ _).alloc _⟩
  · by_cases k2 : kind = 2
    · subst k2
      cases flag with
      | true =>
        have HID : Hid (((decide ((2 : Int) = 1) || !true) && (decide ((2 : Int) = 2) || decide (num = 0)) && (decide ((2 : Int) = 3) || decide (words = ⟨#[]⟩)) && (decide ((2 : Int) = 4) || decide (ln = 0)) && (decide ((2 : Int) = 5) || decide (mn = 0))) = false) := hId (by simp [Nat.add_zero])
        go_enter Tryz.func73, Tryz.ntmps73
        go_wp2_with fail
        go_ret
        exact ⟨ret_bool (HID.out.symm.trans HI.out), (Mod.refl _ _).alloc _⟩
      | false =>
        by_cases hwords : words = ⟨#[]⟩
        · rw [decide_eq_true hwords] at hz
          by_cases hln : ln = 0
          · have fln : ((ln : Int) == 0) = true := by simp; omega
            by_cases hmn : mn = 0
            · have fmn : ((mn : Int) == 0) = true := by simp; omega
              have HID : Hid (((decide ((2 : Int) = 1) || !false) && (decide ((2 : Int) = 2) || decide (num = 0)) && (decide ((2 : Int) = 3) || decide (words = ⟨#[]⟩)) && (decide ((2 : Int) = 4) || decide (ln = 0)) && (decide ((2 : Int) = 5) || decide (mn = 0))) = true) := hId (by simp [hwords, hln, hmn])
              go_enter Tryz.func73, Tryz.ntmps73
              go_wp2_with fail
              go_ret
              exact ⟨ret_bool (HID.out.symm.trans HI.out), (Mod.refl _ _).alloc _⟩
            · have fmn : ((mn : Int) == 0) = false := by simp; omega
              have HID : Hid (((decide ((2 : Int) = 1) || !false) && (decide ((2 : Int) = 2) || decide (num = 0)) && (decide ((2 : Int) = 3) || decide (words = ⟨#[]⟩)) && (decide ((2 : Int) = 4) || decide (ln = 0)) && (decide ((2 : Int) = 5) || decide (mn = 0))) = false) := hId (by simp [hwords, hln, hmn])
              go_enter Tryz.func73, Tryz.ntmps73
              go_wp2_with fail
              go_ret
              exact ⟨ret_bool (HID.out.symm.trans HI.out), (Mod.refl _ _).alloc _⟩
          · have fln : ((ln : Int) == 0) = false := by simp; omega
            have HID : Hid (((decide ((2 : Int) = 1) || !false) && (decide ((2 : Int) = 2) || decide (num = 0)) && (decide ((2 : Int) = 3) || decide (words = ⟨#[]⟩)) && (decide ((2 : Int) = 4) || decide (ln = 0)) && (decide ((2 : Int) = 5) || decide (mn = 0))) = false) := hId (by simp [hwords, hln])
            go_enter Tryz.func73, Tryz.ntmps73
            go_wp2_with fail
            go_ret
            exact ⟨ret_bool (HID.out.symm.trans HI.out), (Mod.refl _ _).alloc _⟩
        · rw [decide_eq_false hwords] at hz
          have HID : Hid (((decide ((2 : Int) = 1) || !false) && (decide ((2 : Int) = 2) || decide (num = 0)) && (decide ((2 : Int) = 3) || decide (words = ⟨#[]⟩)) && (decide ((2 : Int) = 4) || decide (ln = 0)) && (decide ((2 : Int) = 5) || decide (mn = 0))) = false) := hId (by simp [hwords])
          go_enter Tryz.func73, Tryz.ntmps73
          go_wp2_with fail
          go_ret
          exact ⟨ret_bool (HID.out.symm.trans HI.out), (Mod.refl _ _).alloc _⟩
    · by_cases k3 : kind = 3
      · subst k3
        cases flag with
        | true =>
          have HID : Hid (((decide ((3 : Int) = 1) || !true) && (decide ((3 : Int) = 2) || decide (num = 0)) && (decide ((3 : Int) = 3) || decide (words = ⟨#[]⟩)) && (decide ((3 : Int) = 4) || decide (ln = 0)) && (decide ((3 : Int) = 5) || decide (mn = 0))) = false) := hId (by simp [Nat.add_zero])
          go_enter Tryz.func73, Tryz.ntmps73
          go_wp2_with fail
          go_ret
          exact ⟨ret_bool (HID.out.symm.trans HI.out), (Mod.refl _ _).alloc _⟩
        | false =>
          by_cases hnum : num = 0
          · have fnum : (num == 0) = true := by simpa using hnum
            by_cases hln : ln = 0
            · have fln : ((ln : Int) == 0) = true := by simp; omega
              by_cases hmn : mn = 0
              · have fmn : ((mn : Int) == 0) = true := by simp; omega
                have HID : Hid (((decide ((3 : Int) = 1) || !false) && (decide ((3 : Int) = 2) || decide (num = 0)) && (decide ((3 : Int) = 3) || decide (words = ⟨#[]⟩)) && (decide ((3 : Int) = 4) || decide (ln = 0)) && (decide ((3 : Int) = 5) || decide (mn = 0))) = true) := hId (by simp [hnum, hln, hmn])
                go_enter Tryz.func73, Tryz.ntmps73
                go_wp2_with fail
                go_ret
                exact ⟨ret_bool (HID.out.symm.trans HI.out), (Mod.refl _ _).alloc _⟩
              · have fmn : ((mn : Int) == 0) = false := by simp; omega
                have HID : Hid (((decide ((3 : Int) = 1) || !false) && (decide ((3 : Int) = 2) || decide (num = 0)) && (decide ((3 : Int) = 3) || decide (words = ⟨#[]⟩)) && (decide ((3 : Int) = 4) || decide (ln = 0)) && (decide ((3 : Int) = 5) || decide (mn = 0))) = false) := hId (by simp [hnum, hln, hmn])
                go_enter Tryz.func73, Tryz.ntmps73
                go_wp2_with fail
                go_ret
                exact ⟨ret_bool (HID.out.symm.trans HI.out), (Mod.refl _ _).alloc _⟩
            · have fln : ((ln : Int) == 0) = false := by simp; omega
              have HID : Hid (((decide ((3 : Int) = 1) || !false) && (decide ((3 : Int) = 2) || decide (num = 0)) && (decide ((3 : Int) = 3) || decide (words = ⟨#[]⟩)) && (decide ((3 : Int) = 4) || decide (ln = 0)) && (decide ((3 : Int) = 5) || decide (mn = 0))) = false) := hId (by simp [hnum, hln])
              go_enter Tryz.func73, Tryz.ntmps73
              go_wp2_with fail
              go_ret
              exact ⟨ret_bool (HID.out.symm.trans HI.out), (Mod.refl _ _).alloc _⟩
          · have fnum : (num == 0) = false := by simpa using hnum
            have HID : Hid (((decide ((3 : Int) = 1) || !false) && (decide ((3 : Int) = 2) || decide (num = 0)) && (decide ((3 : Int) = 3) || decide (words = ⟨#[]⟩)) && (decide ((3 : Int) = 4) || decide (ln = 0)) && (decide ((3 : Int) = 5) || decide (mn = 0))) = false) := hId (by simp [hnum])
            go_enter Tryz.func73, Tryz.ntmps73
            go_wp2_with fail
            go_ret
            exact ⟨ret_bool (HID.out.symm.trans HI.out), (Mod.refl _ _).alloc _⟩
      · by_cases k4 : kind = 4
        · subst k4
          cases flag with
          | true =>
            have HID : Hid (((decide ((4 : Int) = 1) || !true) && (decide ((4 : Int) = 2) || decide (num = 0)) && (decide ((4 : Int) = 3) || decide (words = ⟨#[]⟩)) && (decide ((4 : Int) = 4) || decide (ln = 0)) && (decide ((4 : Int) = 5) || decide (mn = 0))) = false) := hId (by simp [Nat.add_zero])
            go_enter Tryz.func73, Tryz.ntmps73
            go_wp2_with fail
            go_ret
            exact ⟨ret_bool (HID.out.symm.trans HI.out), (Mod.refl _ _).alloc _⟩
          | false =>
            by_cases hnum : num = 0
            · have fnum : (num == 0) = true := by simpa using hnum
              by_cases hwords : words = ⟨#[]⟩
              · rw [decide_eq_true hwords] at hz
                by_cases hmn : mn = 0
                · have fmn : ((mn : Int) == 0) = true := by simp; omega
                  have HID : Hid (((decide ((4 : Int) = 1) || !false) && (decide ((4 : Int) = 2) || decide (num = 0)) && (decide ((4 : Int) = 3) || decide (words = ⟨#[]⟩)) && (decide ((4 : Int) = 4) || decide (ln = 0)) && (decide ((4 : Int) = 5) || decide (mn = 0))) = true) := hId (by simp [hnum, hwords, hmn])
                  go_enter Tryz.func73, Tryz.ntmps73
                  go_wp2_with fail
                  go_ret
                  exact ⟨ret_bool (HID.out.symm.trans HI.out), (Mod.refl _ _).alloc _⟩
                · have fmn : ((mn : Int) == 0) = false := by simp; omega
                  have HID : Hid (((decide ((4 : Int) = 1) || !false) && (decide ((4 : Int) = 2) || decide (num = 0)) && (decide ((4 : Int) = 3) || decide (words = ⟨#[]⟩)) && (decide ((4 : Int) = 4) || decide (ln = 0)) && (decide ((4 : Int) = 5) || decide (mn = 0))) = false) := hId (by simp [hnum, hwords, hmn])
                  go_enter Tryz.func73, Tryz.ntmps73
                  go_wp2_with fail
                  go_ret
                  exact ⟨ret_bool (HID.out.symm.trans HI.out), (Mod.refl _ _).alloc _⟩
              · rw [decide_eq_false hwords] at hz
                have HID : Hid (((decide ((4 : Int) = 1) || !false) && (decide ((4 : Int) = 2) || decide (num = 0)) && (decide ((4 : Int) = 3) || decide (words = ⟨#[]⟩)) && (decide ((4 : Int) = 4) || decide (ln = 0)) && (decide ((4 : Int) = 5) || decide (mn = 0))) = false) := hId (by simp [hnum, hwords])
                go_enter Tryz.func73, Tryz.ntmps73
                go_wp2_with fail
                go_ret
                exact ⟨ret_bool (HID.out.symm.trans HI.out), (Mod.refl _ _).alloc _⟩
            · have fnum : (num == 0) = false := by simpa using hnum
              have HID : Hid (((decide ((4 : Int) = 1) || !false) && (decide ((4 : Int) = 2) || decide (num = 0)) && (decide ((4 : Int) = 3) || decide (words = ⟨#[]⟩)) && (decide ((4 : Int) = 4) || decide (ln = 0)) && (decide ((4 : Int) = 5) || decide (mn = 0))) = false) := hId (by simp [hnum])
              go_enter Tryz.func73, Tryz.ntmps73
              go_wp2_with fail
              go_ret
              exact ⟨ret_bool (HID.out.symm.trans HI.out), (Mod.refl _ _).alloc _⟩
        · by_cases k5 : kind = 5
          · subst k5
            cases flag with
            | true =>
              have HID : Hid (((decide ((5 : Int) = 1) || !true) && (decide ((5 : Int) = 2) || decide (num = 0)) && (decide ((5 : Int) = 3) || decide (words = ⟨#[]⟩)) && (decide ((5 : Int) = 4) || decide (ln = 0)) && (decide ((5 : Int) = 5) || decide (mn = 0))) = false) := hId (by simp [Nat.add_zero])
              go_enter Tryz.func73, Tryz.ntmps73
              go_wp2_with fail
              go_ret
              exact ⟨ret_bool (HID.out.symm.trans HI.out), (Mod.refl _ _).alloc _⟩
            | false =>
              by_cases hnum : num = 0
              · have fnum : (num == 0) = true := by simpa using hnum
                by_cases hwords : words = ⟨#[]⟩
                · rw [decide_eq_true hwords] at hz
                  by_cases hln : ln = 0
                  · have fln : ((ln : Int) == 0) = true := by simp; omega
                    have HID : Hid (((decide ((5 : Int) = 1) || !false) && (decide ((5 : Int) = 2) || decide (num = 0)) && (decide ((5 : Int) = 3) || decide (words = ⟨#[]⟩)) && (decide ((5 : Int) = 4) || decide (ln = 0)) && (decide ((5 : Int) = 5) || decide (mn = 0))) = true) := hId (by simp [hnum, hwords, hln])
                    go_enter Tryz.func73, Tryz.ntmps73
                    go_wp2_with fail
                    go_ret
                    exact ⟨ret_bool (HID.out.symm.trans HI.out), (Mod.refl _ _).alloc _⟩
                  · have fln : ((ln : Int) == 0) = false := by simp; omega
                    have HID : Hid (((decide ((5 : Int) = 1) || !false) && (decide ((5 : Int) = 2) || decide (num = 0)) && (decide ((5 : Int) = 3) || decide (words = ⟨#[]⟩)) && (decide ((5 : Int) = 4) || decide (ln = 0)) && (decide ((5 : Int) = 5) || decide (mn = 0))) = false) := hId (by simp [hnum, hwords, hln])
                    go_enter Tryz.func73, Tryz.ntmps73
                    go_wp2_with fail
                    go_ret
                    exact ⟨ret_bool (HID.out.symm.trans HI.out), (Mod.refl _ _).alloc _⟩
                · rw [decide_eq_false hwords] at hz
                  have HID : Hid (((decide ((5 : Int) = 1) || !false) && (decide ((5 : Int) = 2) || decide (num = 0)) && (decide ((5 : Int) = 3) || decide (words = ⟨#[]⟩)) && (decide ((5 : Int) = 4) || decide (ln = 0)) && (decide ((5 : Int) = 5) || decide (mn = 0))) = false) := hId (by simp [hnum, hwords])
                  go_enter Tryz.func73, Tryz.ntmps73
                  go_wp2_with fail
                  go_ret
                  exact ⟨ret_bool (HID.out.symm.trans HI.out), (Mod.refl _ _).alloc _⟩
              · have fnum : (num == 0) = false := by simpa using hnum
                have HID : Hid (((decide ((5 : Int) = 1) || !false) && (decide ((5 : Int) = 2) || decide (num = 0)) && (decide ((5 : Int) = 3) || decide (words = ⟨#[]⟩)) && (decide ((5 : Int) = 4) || decide (ln = 0)) && (decide ((5 : Int) = 5) || decide (mn = 0))) = false) := hId (by simp [hnum])
                go_enter Tryz.func73, Tryz.ntmps73
                go_wp2_with fail
                go_ret
                exact ⟨ret_bool (HID.out.symm.trans HI.out), (Mod.refl _ _).alloc _⟩
          · have b1 : (kind == 1) = false := by simpa using k1
            have b2 : (kind == 2) = false := by simpa using k2
            have b3 : (kind == 3) = false := by simpa using k3
            have b4 : (kind == 4) = false := by simpa using k4
            have b5 : (kind == 5) = false := by simpa using k5
            cases flag with
            | true =>
              have HID : Hid (((decide ((kind : Int) = 1) || !true) && (decide ((kind : Int) = 2) || decide (num = 0)) && (decide ((kind : Int) = 3) || decide (words = ⟨#[]⟩)) && (decide ((kind : Int) = 4) || decide (ln = 0)) && (decide ((kind : Int) = 5) || decide (mn = 0))) = false) := hId (by simp [k1, k2, k3, k4, k5])
              go_enter Tryz.func73, Tryz.ntmps73
              go_wp2_with fail
              go_ret
              exact ⟨ret_bool (HID.out.symm.trans HI.out), (Mod.refl _ _).alloc _⟩
            | false =>
              by_cases hnum : num = 0
              · have fnum : (num == 0) = true := by simpa using hnum
                by_cases hwords : words = ⟨#[]⟩
                · rw [decide_eq_true hwords] at hz
                  by_cases hln : ln = 0
                  · have fln : ((ln : Int) == 0) = true := by simp; omega
                    by_cases hmn : mn = 0
                    · have fmn : ((mn : Int) == 0) = true := by simp; omega
                      have HID : Hid (((decide ((kind : Int) = 1) || !false) && (decide ((kind : Int) = 2) || decide (num = 0)) && (decide ((kind : Int) = 3) || decide (words = ⟨#[]⟩)) && (decide ((kind : Int) = 4) || decide (ln = 0)) && (decide ((kind : Int) = 5) || decide (mn = 0))) = true) := hId (by simp [hnum, hwords, hln, hmn, k1, k2, k3, k4, k5])
                      go_enter Tryz.func73, Tryz.ntmps73
                      go_wp2_with fail
                      go_ret
                      exact ⟨ret_bool (HID.out.symm.trans HI.out), (Mod.refl _ _).alloc _⟩
                    · have fmn : ((mn : Int) == 0) = false := by simp; omega
                      have HID : Hid (((decide ((kind : Int) = 1) || !false) && (decide ((kind : Int) = 2) || decide (num = 0)) && (decide ((kind : Int) = 3) || decide (words = ⟨#[]⟩)) && (decide ((kind : Int) = 4) || decide (ln = 0)) && (decide ((kind : Int) = 5) || decide (mn = 0))) = false) := hId (by simp [hnum, hwords, hln, hmn, k1, k2, k3, k4, k5])
                      go_enter Tryz.func73, Tryz.ntmps73
                      go_wp2_with fail
                      go_ret
                      exact ⟨ret_bool (HID.out.symm.trans HI.out), (Mod.refl _ _).alloc _⟩
                  · have fln : ((ln : Int) == 0) = false := by simp; omega
                    have HID : Hid (((decide ((kind : Int) = 1) || !false) && (decide ((kind : Int) = 2) || decide (num = 0)) && (decide ((kind : Int) = 3) || decide (words = ⟨#[]⟩)) && (decide ((kind : Int) = 4) || decide (ln = 0)) && (decide ((kind : Int) = 5) || decide (mn = 0))) = false) := hId (by simp [hnum, hwords, hln, k1, k2, k3, k4, k5])
                    go_enter Tryz.func73, Tryz.ntmps73
                    go_wp2_with fail
                    go_ret
                    exact ⟨ret_bool (HID.out.symm.trans HI.out), (Mod.refl _ _).alloc _⟩
                · rw [decide_eq_false hwords] at hz
                  have HID : Hid (((decide ((kind : Int) = 1) || !false) && (decide ((kind : Int) = 2) || decide (num = 0)) && (decide ((kind : Int) = 3) || decide (words = ⟨#[]⟩)) && (decide ((kind : Int) = 4) || decide (ln = 0)) && (decide ((kind : Int) = 5) || decide (mn = 0))) = false) := hId (by simp [hnum, hwords, k1, k2, k3, k4, k5])
                  go_enter Tryz.func73, Tryz.ntmps73
                  go_wp2_with fail
                  go_ret
                  exact ⟨ret_bool (HID.out.symm.trans HI.out), (Mod.refl _ _).alloc _⟩
              · have fnum : (num == 0) = false := by simpa using hnum
                have HID : Hid (((decide ((kind : Int) = 1) || !false) && (decide ((kind : Int) = 2) || decide (num = 0)) && (decide ((kind : Int) = 3) || decide (words = ⟨#[]⟩)) && (decide ((kind : Int) = 4) || decide (ln = 0)) && (decide ((kind : Int) = 5) || decide (mn = 0))) = false) := hId (by simp [hnum, k1, k2, k3, k4, k5])
                go_enter Tryz.func73, Tryz.ntmps73
                go_wp2_with fail
                go_ret
                exact ⟨ret_bool (HID.out.symm.trans HI.out), (Mod.refl _ _).alloc _⟩


/-- strconv's table of powers of ten lies as its initialiser lays it -/
def Pow10 (w : World) : Prop := Lib.TabIs Tryz.prog w "internal/strconv.uint64pow10" .u64 Lib.pow10Tab
theorem Pow10.new {w w' : World} (h : Pow10 w) (hm : New w w') : Pow10 w' := by
  unfold Pow10 Lib.TabIs World.var? at *
  cases hg : Tryz.prog.globalNamed "internal/strconv.uint64pow10" with
  | none => rw [hg] at h; simp at h
  | some g =>
    rw [hg] at h
    simp only [Option.bind_some] at h ⊢
    have hlt : g < w.heap.size := by
      rcases Nat.lt_or_ge g w.heap.size with hlt | hge
      · exact hlt
      · rw [Array.getElem?_eq_none hge] at h; simp at h
    rw [hm.block g hlt (fun e => e)]
    exact h

theorem New.grow (w : World) (k : Nat) (os : Array Obj) : New w (Sort.grow (w.drewN k) os) :=
  ⟨rfl, rfl, rfl, by rw [Sort.size_grow]; exact Nat.le_add_right _ _, fun i hi _ => Sort.heap_grow_old (w.drewN k) os hi⟩

def itoaB (n : Int) : ByteArray := ⟨(Lib.itoa n).toArray⟩
theorem itoa_any (n : Int) (h : I64 n) (w : World) (ht : Pow10 w) : Calls Tryz.prog 29 #[.int .i64 n] w fun e w' => e = .returned (.string (itoaB n)) ∧ New w w' :=
  (Tryz.strconv_Itoa n h.1 h.2 w ht).mono (by rintro e w' ⟨rfl, k, os, rfl⟩; exact ⟨rfl, New.grow w k os⟩)

theorem itoaB_size {n : Int} (h : I64 n) : (itoaB n).size ≤ 21 := Lib.itoa_length_le n h.1 h.2

/-- what turns only behind w0's end leaves the table -/
theorem Pow10.mod {S : Nat → Prop} {w0 w w' : World} (h0 : Pow10 w0) (h : Pow10 w) (hm : Mod S w w') (hS : ∀ g, g < w0.heap.size → ¬ S g) : Pow10 w' := by
  unfold Pow10 Lib.TabIs World.var? at *
  cases hg : Tryz.prog.globalNamed "internal/strconv.uint64pow10" with
  | none => rw [hg] at h; simp at h
  | some g =>
    rw [hg] at h h0
    simp only [Option.bind_some] at h h0 ⊢
    have l0 : g < w0.heap.size := by
      rcases Nat.lt_or_ge g w0.heap.size with hlt | hge
      · exact hlt
      · rw [Array.getElem?_eq_none hge] at h0; simp at h0
    have l1 : g < w.heap.size := by
      rcases Nat.lt_or_ge g w.heap.size with hlt | hge
      · exact hlt
      · rw [Array.getElem?_eq_none hge] at h; simp at h
    rw [hm.block g l1 (hS g l0)]
    exact h


theorem orF_zero_iff {a b : Int} : orF a b = 0 ↔ a = 0 ∧ b = 0 := by
  unfold orF
  by_cases h : a = 0 <;> simp [h]
theorem fz_noughts : ∀ {l : List Int}, fz l = 0 → ∀ x ∈ l, x = 0
  | [], _, x, hx => by simp at hx
  | y :: l, h, x, hx => by
    unfold fz at h
    by_cases hy : y = 0
    · rw [if_neg (by simp [hy])] at h
      rcases List.mem_cons.1 hx with rfl | hx
      · exact hy
      · exact fz_noughts h x hx
    · rw [if_pos hy] at h
      exact absurd h hy
theorem right_parts {d : Nat} {v : VT} (h : vFault (d + 1) v = 0) : (0 ≤ v.kind ∧ v.kind ≤ 5) ∧ (-1000000000000000 ≤ v.num ∧ v.num ≤ 1000000000000000) ∧ (∀ k (h : k < v.list.length), vFault d v.list[k] = 0) ∧ (∀ k (h : k < v.mem.length), vFault d v.mem[k].2 = 0) := by
  have h1 : orF (orF (headF v) (namesF (v.mem.map (·.1)))) (orF (fz (v.list.map (vFault d))) (fz (v.mem.map fun p => vFault d p.2))) = 0 := h
  rw [orF_zero_iff, orF_zero_iff, orF_zero_iff] at h1
  obtain ⟨⟨hh, _⟩, hl, hm⟩ := h1
  unfold headF at hh
  split at hh
  · cases hh
  rename_i k1
  split at hh
  · cases hh
  split at hh
  · cases hh
  rename_i k2
  refine ⟨by omega, by omega, fun k hk => fz_noughts hl _ (List.mem_map.2 ⟨_, List.getElem_mem hk, rfl⟩), fun k hk => fz_noughts hm _ (List.mem_map.2 ⟨v.mem[k], List.getElem_mem hk, rfl⟩)⟩
theorem sum_map_mono {α : Type} (f g : α → Nat) : ∀ (l : List α), (∀ x ∈ l, f x ≤ g x) → (l.map f).sum ≤ (l.map g).sum
  | [], _ => by simp
  | x :: l, h => by
    have h1 := h x (by simp)
    have h2 := sum_map_mono f g l (fun y hy => h y (by simp [hy]))
    simp only [List.map_cons, List.sum_cons]
    omega
theorem vText_length (d : Nat) : ∀ v, vFault d v = 0 → (vText d v).length ≤ vW d v := by
  induction d with
  | zero => intro v _; simp [vText]
  | succ d ih =>
    intro v h
    obtain ⟨hk, hn, hl, hm⟩ := right_parts h
    have h1 : (v.list.map fun x => (vText d x).length + 1).sum ≤ (v.list.map fun x => vW d x + 1).sum := sum_map_mono _ _ _ (fun x hx => by
      obtain ⟨i, hi, rfl⟩ := List.mem_iff_getElem.1 hx
      have := ih _ (hl i hi); omega)
    have h2 : (v.mem.map fun p => (quoteL p.1.data.toList).length + 1 + (vText d p.2).length + 1).sum ≤ (v.mem.map fun p => vW d p.2 + (6 * p.1.size + 4)).sum := sum_map_mono _ _ _ (fun p hp => by
      obtain ⟨i, hi, rfl⟩ := List.mem_iff_getElem.1 hp
      have h3 := ih _ (hm i hi)
      have h4 := quoteL_length v.mem[i].1.data.toList
      have h5 : v.mem[i].1.data.toList.length = v.mem[i].1.size := rfl
      omega)
    have c1 := commas_length (v.list.map (vText d))
    have c2 := commas_length (v.mem.map fun p => quoteL p.1.data.toList ++ 58 :: vText d p.2)
    simp only [List.map_map] at c1 c2
    have e1 : ((fun x : List UInt8 => x.length + 1) ∘ vText d) = fun x => (vText d x).length + 1 := rfl
    have e2 : ((fun x : List UInt8 => x.length + 1) ∘ fun p : ByteArray × VT => quoteL p.1.data.toList ++ 58 :: vText d p.2) = fun p => (quoteL p.1.data.toList).length + 1 + (vText d p.2).length + 1 := by
      funext p; simp only [Function.comp, List.length_append, List.length_cons]; omega
    rw [e1] at c1
    rw [e2] at c2
    have q := quoteL_length v.words.data.toList
    have q5 : v.words.data.toList.length = v.words.size := rfl
    have i1 := Lib.itoa_length_le v.num (by omega) (by omega)
    have f1 : (Lib.formatBool v.flag).length ≤ 5 := by cases v.flag <;> decide
    simp only [vText, vW]
    split
    · omega
    split
    · omega
    split
    · omega
    split
    · simp only [List.length_cons, List.length_append, List.length_nil]; omega
    split
    · simp only [List.length_cons, List.length_append, List.length_nil]; omega
    · simp [nullL]; omega
theorem itoa_ne (n : Int) : Lib.itoa n ≠ [] := by
  intro h
  rcases Int.lt_or_le n 0 with h0 | h0
  · have e := Lib.itoa_neg n.natAbs (by omega)
    rw [show -(n.natAbs : Int) = n by omega, h] at e
    cases e
  · obtain ⟨u, rfl⟩ := Int.eq_ofNat_of_zero_le h0
    rw [Lib.itoa_nonneg] at h
    have := congrArg List.length h
    rw [Lib.decDigits_length] at this
    have h1 := Lib.nDigits_pos u
    simp only [List.length_nil] at this
    omega
theorem vText_ne (d : Nat) (v : VT) : vText (d + 1) v ≠ [] := by
  simp only [vText]
  split
  · cases v.flag <;> decide
  split
  · exact itoa_ne _
  split
  · simp [quoteL]
  split
  · simp
  split
  · simp
  · simp [nullL]

theorem buT_writer : BuT 142 := ⟨by kernel_rfl, by decide⟩
theorem full_v (B b : Nat) (l : List UInt8) (w : World) (h : Bw 142 B b l w) (hl : l.length ≤ 200000) :
    Calls Tryz.prog 88 #[.pointer (some ⟨b, 0, none⟩)] w fun e w' => e = .returned (.bool false) ∧ w' = w := by
  have hln := bw_len B b l w h
  have h2 : decide ((200000 : Int) < l.length) = false := by simp; omega
  have hbl := h.lt.2
  go_enter Tryz.func88, Tryz.ntmps88
  go_wp2_with fail
  refine hln.mono ?_
  clear hln
  rintro e w1 ⟨rfl, rfl⟩
  go_wp2_with fail
  go_ret
  exact ⟨rfl, rfl⟩

theorem list_room (d : Nat) (v : VT) {k : Nat} (hk : k < v.list.length) (hr : ∀ k (h : k < v.list.length), vFault d v.list[k] = 0) : 2 + (commas ((v.list.take k).map (vText d))).length + vW d v.list[k] ≤ vW (d + 1) v := by
  have c1 := commas_length ((v.list.take k).map (vText d))
  have h1 : ((v.list.take k).map fun x => (vText d x).length + 1).sum ≤ ((v.list.take k).map fun x => vW d x + 1).sum := sum_map_mono _ _ _ (fun x hx => by
    obtain ⟨i, hi, rfl⟩ := List.mem_iff_getElem.1 hx
    rw [List.getElem_take]
    have := vText_length d _ (hr i (by simp at hi; omega)); omega)
  have h2 := sum_map_one (fun x => vW d x + 1) hk
  simp only [List.map_map] at c1
  have e1 : ((fun x : List UInt8 => x.length + 1) ∘ vText d) = fun x => (vText d x).length + 1 := rfl
  rw [e1] at c1
  simp only [vW]
  omega
theorem mem_room (d : Nat) (v : VT) {k : Nat} (hk : k < v.mem.length) (hr : ∀ k (h : k < v.mem.length), vFault d v.mem[k].2 = 0) :
    2 + (commas ((v.mem.take k).map fun p => quoteL p.1.data.toList ++ 58 :: vText d p.2)).length + ((quoteL v.mem[k].1.data.toList).length + 1 + vW d v.mem[k].2) ≤ vW (d + 1) v := by
  have c1 := commas_length ((v.mem.take k).map fun p => quoteL p.1.data.toList ++ 58 :: vText d p.2)
  have h1 : ((v.mem.take k).map fun p => (quoteL p.1.data.toList).length + 1 + (vText d p.2).length + 1).sum ≤ ((v.mem.take k).map fun p => vW d p.2 + (6 * p.1.size + 4)).sum := sum_map_mono _ _ _ (fun p hp => by
    obtain ⟨i, hi, rfl⟩ := List.mem_iff_getElem.1 hp
    rw [List.getElem_take]
    have h3 := vText_length d _ (hr i (by simp at hi; omega))
    have h4 := quoteL_length (v.mem[i]'(by simp at hi; omega)).1.data.toList
    have h5 : (v.mem[i]'(by simp at hi; omega)).1.data.toList.length = (v.mem[i]'(by simp at hi; omega)).1.size := rfl
    omega)
  have h2 := sum_map_one (fun p : ByteArray × VT => vW d p.2 + (6 * p.1.size + 4)) hk
  have h4 := quoteL_length v.mem[k].1.data.toList
  have h5 : v.mem[k].1.data.toList.length = v.mem[k].1.size := rfl
  simp only [List.map_map] at c1
  have e2 : ((fun x : List UInt8 => x.length + 1) ∘ fun p : ByteArray × VT => quoteL p.1.data.toList ++ 58 :: vText d p.2) = fun p => (quoteL p.1.data.toList).length + 1 + (vText d p.2).length + 1 := by
    funext p; simp only [Function.comp, List.length_append, List.length_cons]; omega
  rw [e2] at c1
  simp only [vW]
  omega
theorem commas_next {α : Type} (f : α → List UInt8) {l : List α} {k : Nat} (h : k < l.length) : commas ((l.take (k + 1)).map f) = (if k = 0 then [] else commas ((l.take k).map f) ++ [44]) ++ f l[k] := by
  have := commas_take (l := l.map f) (k := k) (by simpa using h)
  rw [List.map_take, this, ← List.map_take]
  simp

/-- a step of the writer in block b: nothing else of the caller's turns but rows of bytes -/
def WStep (B b : Nat) (w w' : World) : Prop := Mod (fun k => B ≤ k) w w' ∧ Keep b w w'
theorem WStep.refl (B b : Nat) (w : World) : WStep B b w w := ⟨Mod.refl _ _, Keep.refl _ _⟩
theorem WStep.trans {B b : Nat} {w w1 w2 : World} (h : WStep B b w w1) (h1 : WStep B b w1 w2) : WStep B b w w2 := ⟨h.1.trans h1.1, h.2.trans h1.2 h.1.size⟩
theorem WStep.new {B b : Nat} {w w1 w2 : World} (h : WStep B b w w1) (h1 : New w1 w2) : WStep B b w w2 := h.trans ⟨h1.mono (fun _ _ e => e.elim), Keep.new h1⟩
theorem Bw.tb {T : TypeId} {B b : Nat} {l : List UInt8} {w : World} (h : Bw T B b l w) : TB w b T := by
  rcases h with ⟨h1, v, h2, _⟩ | ⟨h1, v, h2, _⟩
  · exact ⟨_, _, h2⟩
  · exact ⟨_, _, h2⟩
theorem Tree.step {w w' : World} {G : Nat → Prop} {d : Nat} {x : VA} {v : VT} {B b : Nat} (h : Tree w G d x v) (hs : WStep B b w w') (hb : TB w b 142) : Tree w' G d x v :=
  Tree.mod (hs.1.keep hs.2) (fun g _ ht e => by
    rcases e with rfl | e
    · rcases ht with ht | ht
      · exact ht.ne hb (by decide) rfl
      · exact ht.ne hb (by decide) rfl
    · rcases ht with ht | ht
      · exact ht.ne e (by decide) rfl
      · exact ht.ne e (by decide) rfl) d x v h

end Go.Proofs.YtjmnkdkdjnmejaaGreatDoor
