/- Several texts in one. (1) What is wrong with a value itself: the reference's ownFault. Conditions: the value stands in memory as a tree; the library's tables lie as they should. (2) How large a value is: the reference's. Conditions: the value stands in memory as a tree. (3) cmp.Or: the first that is not nought. No conditions. (4) What is wrong with a value and with all in it: the reference's partsFault, ValueFault; the program's Check, checks. Conditions: the value stands in memory as a tree; the library's tables lie as they should. -/
import Derived.Test.YtjfgfkbgbhbhjaaGreatDoorVal2Grp
import Derived.Test.YtjfgfkbgbhbhjaaGreatDoorVal1Grp
import Derived.Test.YtjfgfkbgbhbhjaaGreatDoorValLaw
import Derived.Test.YtjfgfkbgbhbhjaaGreatDoorOwn

namespace Go.Proofs.YtjfgfkbgbhbhjaaGreatDoor
open Go.RowKit
set_option linter.unusedVariables false
set_option linter.unusedSimpArgs false

theorem idle_list (kind : Int) (u : List Bool) (hl : u.length = 5) :
    (∀ i (h : i < u.length), u[i] = true → kind = i + 1) ↔ ((decide (kind = 1) || !u[0]) && (decide (kind = 2) || !u[1]) && (decide (kind = 3) || !u[2]) && (decide (kind = 4) || !u[3]) && (decide (kind = 5) || !u[4])) = true := by
  match u, hl with
  | [a, b, c, d, e], _ =>
    simp only [List.getElem_cons_zero, List.getElem_cons_succ, Bool.and_eq_true, Bool.or_eq_true, decide_eq_true_eq, Bool.not_eq_true']
    constructor
    · intro h
      refine ⟨⟨⟨⟨?_, ?_⟩, ?_⟩, ?_⟩, ?_⟩
      · have := h 0 (by simp); simp at this; cases a <;> simp_all
      · have := h 1 (by simp); simp at this; cases b <;> simp_all
      · have := h 2 (by simp); simp at this; cases c <;> simp_all
      · have := h 3 (by simp); simp at this; cases d <;> simp_all
      · have := h 4 (by simp); simp at this; cases e <;> simp_all
    · rintro ⟨⟨⟨⟨h0, h1⟩, h2⟩, h3⟩, h4⟩ i hi hu
      simp only [List.length_cons, List.length_nil] at hi
      obtain rfl | rfl | rfl | rfl | rfl : i = 0 ∨ i = 1 ∨ i = 2 ∨ i = 3 ∨ i = 4 := by omega
      all_goals simp only [List.getElem_cons_zero, List.getElem_cons_succ] at hu
      · subst hu; simp at h0; omega
      · subst hu; simp at h1; omega
      · subst hu; simp at h2; omega
      · subst hu; simp at h3; omega
      · subst hu; simp at h4; omega
def usedX (x : VA) : List Bool := [x.flag, x.num != 0, !x.words.toList.isEmpty, decide (0 < x.ln), decide (0 < x.mn)]
theorem idle_used (x : VA) : idleX x = true ↔ ∀ i (h : i < (usedX x).length), (usedX x)[i] = true → x.kind = i + 1 := by
  rw [idle_list x.kind (usedX x) rfl]
  have h1 : (x.num != 0) = !decide (x.num = 0) := by
    rw [Bool.eq_iff_iff]; simp
  have h2 : decide (0 < x.ln) = !decide (x.ln = 0) := by
    rw [Bool.eq_iff_iff]; simp; omega
  have h3 : decide (0 < x.mn) = !decide (x.mn = 0) := by
    rw [Bool.eq_iff_iff]; simp; omega
  have h4 : x.words.toList.isEmpty = decide (x.words = ⟨#[]⟩) := by
    rw [← str_nil']
    cases x.words.toList <;> rfl
  simp only [usedX, idleX, List.getElem_cons_zero, List.getElem_cons_succ, h1, h2, h3, h4, Bool.not_not]

set_option maxRecDepth 100000 in
set_option maxHeartbeats 1500000 in
theorem ownFault_v (d : Nat) (x : VA) (v : VT) (G : Nat → Prop) (w : World) (ht : Tree w G (d + 1) x v) (hW : Fit (d + 1) v) (hU : Utf8T w) :
    Calls Tryz.prog 69 #[x.val] w fun e w' => e = .returned (.int .i64 (ownF v)) ∧ New w w' := by
  have hwp := hW.parts
  have HWMB := Lib.hid (fun k (h : k < v.mem.length) => hW.member h)
  have hfl := ht.fields
  have hhd := ht.head
  have HT := Lib.hid ht
  have HU := Lib.hid hU
  have hF : ownF v = orF (headF v) (namesF (v.mem.map (·.1))) := rfl
  rw [hhd] at hF
  have hws : v.words.size ≤ 1000000 := by omega
  have hlb : v.list.length ≤ 200000 ∧ v.mem.length ≤ 200000 := by omega
  obtain ⟨hlb1, hlb2⟩ := hlb
  have HIU := Lib.hid (idle_used x)
  obtain ⟨kind, flag, num, words, la, ln, lc, ma, mn, mc⟩ := x
  obtain ⟨-, -, -, hwd, hln, hmn⟩ := hfl
  simp only at hln hmn hwd
  rw [hwd] at hws
  have HF := Lib.hid hF
  have HMN := Lib.hid hmn
  have hvl := fun W (hW : Utf8T W) => valid_v words W hws hW
  have hXE : headX ⟨kind, flag, num, words, la, ln, lc, ma, mn, mc⟩ = if kind < 0 ∨ 5 < kind then 4 else if idleX ⟨kind, flag, num, words, la, ln, lc, ma, mn, mc⟩ = false then 3 else if num < -1000000000000000 ∨ 1000000000000000 < num then 1 else if 5000 < words.size then 2 else if validW words = false then 3 else 0 := rfl
  have HXE := Lib.hid hXE
  rw [hln] at hlb1
  rw [hmn] at hlb2
  have HUE : Hid (usedX ⟨kind, flag, num, words, la, ln, lc, ma, mn, mc⟩ = [flag, num != 0, !words.toList.isEmpty, decide (0 < ln), decide (0 < mn)]) := Lib.hid rfl
  generalize usedX ⟨kind, flag, num, words, la, ln, lc, ma, mn, mc⟩ = us at *
  clear hwp hW hF hhd ht hU hln hmn hwd hXE
  generalize ownF v = F at *
  generalize headX ⟨kind, flag, num, words, la, ln, lc, ma, mn, mc⟩ = H at *
  generalize idleX ⟨kind, flag, num, words, la, ln, lc, ma, mn, mc⟩ = I at *
  generalize validW words = V at *
  have hx := Blk.new w 29 #[.int .i64 kind, .bool flag, .int .i64 num, .string words, .slice la ln lc, .slice ma mn mc]
  have hm1 : New w (w.alloc (.cells #[.int .i64 kind, .bool flag, .int .i64 num, .string words, .slice la ln lc, .slice ma mn mc] 29)) := (Mod.refl _ _).alloc _
  go_enter Tryz.func69, Tryz.ntmps69
  go_upto_region 1 with (fail)
  generalize w.alloc (.cells #[.int .i64 kind, .bool flag, .int .i64 num, .string words, .slice la ln lc, .slice ma mn mc] 29) = w1 at *
  have HBW : Hid (w.heap.size + 1 ≤ w1.heap.size) := Lib.hid hx.lt
  generalize hxb : w.heap.size = xb at *
  have HXB := Lib.hid hxb
  have HX := Lib.hid hx
  have HM1 := Lib.hid hm1
  have hxx := hx
  clear hx hm1 hxb
  have e0 := hxx.cell 0
  have e1 := hxx.cell 1
  have e2 := hxx.cell 2
  have e3 := hxx.cell 3
  have e4 := hxx.cell 4
  have e5 := hxx.cell 5
  have el := hxx.lt
  simp only [List.getElem?_toArray, List.getElem?_cons_zero, List.getElem?_cons_succ] at e0 e1 e2 e3 e4 e5
  go_wp2_with fail
  refine (in_v _ _ _ _).mono ?_
  rintro e w2 ⟨rfl, rfl⟩
  by_cases q1 : kind < 0 ∨ 5 < kind
  · rw [show (decide (0 ≤ kind) && decide (kind ≤ 5)) = false by simp; omega]
    have HE : Hid (F = 4) := Lib.hid (by rw [HF.out, HXE.out, if_pos q1]; simp [orF])
    go_wp2_with fail
    go_ret
    exact ⟨ret_int HE.out.symm, HM1.out⟩
  rw [show (decide (0 ≤ kind) && decide (kind ≤ 5)) = true by simp; omega]
  have HXE1 : Hid (H = if I = false then 3 else if num < -1000000000000000 ∨ 1000000000000000 < num then 1 else if 5000 < words.size then 2 else if V = false then 3 else 0) := Lib.hid (by rw [HXE.out, if_neg q1])
  have hk5 : 0 ≤ kind ∧ kind ≤ 5 := by omega
  obtain ⟨hk50, hk51⟩ := hk5
  clear q1 HXE
  have hbu := Blk.new w1 4 #[.bool flag, .bool (num != 0), .bool (!words.toList.isEmpty), .bool (decide (0 < ln)), .bool (decide (0 < mn))]
  have hmu : New w1 (w1.alloc (.cells #[.bool flag, .bool (num != 0), .bool (!words.toList.isEmpty), .bool (decide (0 < ln)), .bool (decide (0 < mn))] 4)) := (Mod.refl _ _).alloc _
  have hub : #[Value.bool flag, .bool (num != 0), .bool (!words.toList.isEmpty), .bool (decide (0 < ln)), .bool (decide (0 < mn))] = (us.map Value.bool).toArray := by rw [HUE.out]; rfl
  have HUB := Lib.hid hub
  clear hub
  have HUL : Hid (us.length = 5) := Lib.hid (by rw [HUE.out]; rfl)
  go_upto_region 4 with (fail)
  generalize w1.alloc (.cells #[.bool flag, .bool (num != 0), .bool (!words.toList.isEmpty), .bool (decide (0 < ln)), .bool (decide (0 < mn))] 4) = w2 at *
  generalize w1.heap.size = ub at *
  have HX2 := Lib.hid (HX.out.mod hmu (fun e => e))
  have HM2 := Lib.hid (HM1.out.trans hmu)
  have HBU : Hid (Blk w2 ub 4 (us.map Value.bool).toArray) := Lib.hid (by rw [← HUB.out]; exact hbu)
  clear hbu hmu HUB HUE HX HM1
  clear e0 e1 e2 e3 e4 e5 el hxx
  go_wp2_with fail
  go_loopw [32] (fun i wr => ∃ k : Nat, k ≤ 5 ∧ i = .int .i64 k ∧ Hid (∀ i (h : i < us.length), i < k → us[i] = true → kind = i + 1) ∧ Hid (New w2 wr)) (fun i _ => 5 - (intOf i).toNat)
  case atStart => exact ⟨0, Nat.zero_le _, rfl, Lib.hid (fun i h hq => absurd hq (by omega)), Lib.hid (Mod.refl _ _)⟩
  case round =>
    rename World => wr
    obtain ⟨k, hk, rfl, H0, HM⟩ := hrel
    have hxx := HX2.out.mod HM.out (fun e => e)
    by_cases hlt : k < 5
    · have hku : k < us.length := by have := HUL.out; omega
      have hbk := (HBU.out.mod HM.out (fun e => e)).cell k
      have hbl := (HBU.out.mod HM.out (fun e => e)).lt
      rw [show (us.map Value.bool).toArray[k]? = some (.bool us[k]) by simp [hku]] at hbk
      have HSTOP : Hid (us[k] = true → kind ≠ (k : Int) + 1 → F = 3) := Lib.hid (fun h1 h2 => by
        have hI : I = false := by
          cases hI : I with
          | false => rfl
          | true => exact absurd (HIU.out.1 hI k hku h1) (by simpa using h2)
        rw [HF.out, HXE1.out, hI]; simp [orF])
      have HNEXT : Hid ((us[k] = true → kind = (k : Int) + 1) → ∀ i (h : i < us.length), i < k + 1 → us[i] = true → kind = i + 1) := Lib.hid (fun h i hi hik hu => by
        by_cases e : i = k
        · subst e; exact h hu
        · exact H0.out i hi (by omega) hu)
      generalize us[k] = u at *
      have e0 := hxx.cell 0
      have e1 := hxx.cell 1
      have e2 := hxx.cell 2
      have e3 := hxx.cell 3
      have e4 := hxx.cell 4
      have e5 := hxx.cell 5
      have el := hxx.lt
      simp only [List.getElem?_toArray, List.getElem?_cons_zero, List.getElem?_cons_succ] at e0 e1 e2 e3 e4 e5
      have hb1 : (0 : Int) ≤ k := by omega
      have hb2 : (k : Int) < 5 := by omega
      clear hxx
      cases u with
      | false =>
        have HG := Lib.hid (HNEXT.out (fun h => by cases h))
        go_wp2_with fail
        go_roundw
        case rel => exact ⟨k + 1, by omega, by go_num, HG, HM⟩
        case measure => simp [intOf]; omega
      | true =>
        by_cases hkk : kind = (k : Int) + 1
        · have hkb : (kind != (k : Int) + 1) = false := by simpa using hkk
          have HG := Lib.hid (HNEXT.out (fun _ => hkk))
          clear hkk
          go_wp2_with fail
          go_roundw
          case rel => exact ⟨k + 1, by omega, by go_num, HG, HM⟩
          case measure => simp [intOf]; omega
        · have hkb : (kind != (k : Int) + 1) = true := by simpa using hkk
          have HFF := Lib.hid (HSTOP.out rfl hkk)
          clear hkk
          go_wp2_with fail
          go_ret
          exact ⟨ret_int HFF.out.symm, HM2.out.trans HM.out⟩
    · obtain rfl : k = 5 := by omega
      have hI : I = true := HIU.out.2 (fun i hi hu => H0.out i hi (by have := HUL.out; omega) hu)
      subst hI
      have e0 := hxx.cell 0
      have e1 := hxx.cell 1
      have e2 := hxx.cell 2
      have e3 := hxx.cell 3
      have e4 := hxx.cell 4
      have e5 := hxx.cell 5
      have el := hxx.lt
      simp only [List.getElem?_toArray, List.getElem?_cons_zero, List.getElem?_cons_succ] at e0 e1 e2 e3 e4 e5
      have HXE2 : Hid (H = if num < -1000000000000000 ∨ 1000000000000000 < num then 1 else if 5000 < words.size then 2 else if V = false then 3 else 0) := Lib.hid (by rw [HXE1.out, if_neg (by simp)])
      have HM3 := Lib.hid (HM2.out.trans HM.out)
      have HX3 := Lib.hid hxx
      clear HXE1 HIU H0 hxx hlt hk HM2 HM HX2
      go_wp2_with fail
      refine (in_v _ _ _ _).mono ?_
      rintro e w2 ⟨rfl, rfl⟩
      by_cases q1 : num < -1000000000000000 ∨ 1000000000000000 < num
      · rw [show (decide (-1000000000000000 ≤ num) && decide (num ≤ 1000000000000000)) = false by simp; omega]
        have HE : Hid (F = 1) := Lib.hid (by rw [HF.out, HXE2.out, if_pos q1]; simp [orF])
        go_wp2_with fail
        go_ret
        exact ⟨ret_int HE.out.symm, HM3.out⟩
      rw [show (decide (-1000000000000000 ≤ num) && decide (num ≤ 1000000000000000)) = true by simp; omega]
      have HXE3 : Hid (H = if 5000 < words.size then 2 else if V = false then 3 else 0) := Lib.hid (by rw [HXE2.out, if_neg q1])
      clear q1 HXE2
      by_cases q1 : 5000 < words.size
      · have hg : (5000 : Int) < words.size := by omega
        have HE : Hid (F = 2) := Lib.hid (by rw [HF.out, HXE3.out, if_pos q1]; simp [orF])
        go_wp2_with fail
        go_ret
        exact ⟨ret_int HE.out.symm, HM3.out⟩
      have hg : ¬ (5000 : Int) < words.size := by omega
      have HXE4 : Hid (H = if V = false then 3 else 0) := Lib.hid (by rw [HXE3.out, if_neg q1])
      clear q1 HXE3
      go_wp2_with fail
      refine (hvl _ (HU.out.new HM3.out)).mono ?_
      clear hvl
      rintro e w4 ⟨rfl, m4⟩
      have HX4 := Lib.hid (HX3.out.mod m4 (fun e => e))
      have HM4 := Lib.hid (HM3.out.trans m4)
      clear e0 e1 e2 e3 e4 e5 el
      have hxx := HX4.out
      have e0 := hxx.cell 0
      have e1 := hxx.cell 1
      have e2 := hxx.cell 2
      have e3 := hxx.cell 3
      have e4 := hxx.cell 4
      have e5 := hxx.cell 5
      have el := hxx.lt
      simp only [List.getElem?_toArray, List.getElem?_cons_zero, List.getElem?_cons_succ] at e0 e1 e2 e3 e4 e5
      clear HX3 HM3 m4 hg hws
      cases V with
      | false =>
        have HE : Hid (F = 3) := Lib.hid (by rw [HF.out, HXE4.out]; simp [orF])
        go_wp2_with fail
        go_ret
        exact ⟨ret_int HE.out.symm, HM4.out⟩
      | true =>
      have HF2 : Hid (F = namesF (v.mem.map (·.1))) := Lib.hid (by rw [HF.out, HXE4.out]; simp [orF])
      have HZ4 : Hid (xb + 1 ≤ w4.heap.size) := Lib.hid hxx.lt
      clear HF HXE4
      go_wp2_with fail
      clear e0 e1 e2 e3 e4 e5 el hxx
      go_loopw [6, 64] (fun t i wr => ∃ (j c : Nat) (A : Option Addr), j ≤ mn ∧ i = .int .i64 j ∧ t = .slice A j c ∧ Hid (Own wr (xb + 1) 9 1 strE A j c ((v.mem.map (·.1)).take j)) ∧ Hid (New w wr) ∧ Hid (xb + 1 ≤ wr.heap.size)) (fun _ i _ => mn - (intOf i).toNat)
      case atStart => exact ⟨0, 0, none, Nat.zero_le _, rfl, rfl, Lib.hid (by simpa using Own.nil), HM4, HZ4⟩
      case round =>
        rename World => wq
        obtain ⟨j, c, A, hj, rfl, rfl, HO, HM, HB⟩ := hrel
        by_cases hlt2 : j < mn
        · have hjl : j < v.mem.length := by have := HMN.out; omega
          have hT := HT.out.new HM.out
          obtain ⟨g, o, y, hA, hgl, htb, -, hcn, hc, -⟩ := hT.member hjl
          simp only at hA
          subst hA
          have HTK : Hid ((v.mem.map (·.1)).take (j + 1) = (v.mem.map (·.1)).take j ++ [v.mem[j].1]) := Lib.hid (by rw [List.take_succ_eq_append_getElem (by simpa using hjl)]; simp)
          obtain ⟨yk, yf, yn, yw, yla, yln, ylc, yma, ymn, ymc⟩ := y
          have c0 := hc 0 (by omega)
          have c1 := hc 1 (by omega)
          have c2 := hc 2 (by omega)
          have c3 := hc 3 (by omega)
          have c4 := hc 4 (by omega)
          have c5 := hc 5 (by omega)
          simp only [VA.enc, Nat.add_zero, Nat.zero_add] at c0 c1 c2 c3 c4 c5
          generalize v.mem[j].1 = nm at *
          have hb1 : (0 : Int) ≤ j := by omega
          have hb2 : (j : Int) < mn := by omega
          have hmx := Blk.new wq 54 #[.string nm, .int .i64 yk, .bool yf, .int .i64 yn, .string yw, .slice yla yln ylc, .slice yma ymn ymc]
          have hma : New wq (wq.alloc (.cells #[.string nm, .int .i64 yk, .bool yf, .int .i64 yn, .string yw, .slice yla yln ylc, .slice yma ymn ymc] 54)) := (Mod.refl _ _).alloc _
          clear hT hc htb
          go_upto_region 20 with (fail)
          generalize wq.alloc (.cells #[.string nm, .int .i64 yk, .bool yf, .int .i64 yn, .string yw, .slice yla yln ylc, .slice yma ymn ymc] 54) = wm at *
          have own6 := HO.out.new hma
          have hzm := hma.size
          generalize wq.heap.size = mb at *
          have n0 := hmx.cell 0
          have nl := hmx.lt
          simp only [List.getElem?_toArray, List.getElem?_cons_zero] at n0
          have HM6 := Lib.hid (HM.out.trans hma)
          have HZ : Hid (xb + 1 ≤ (wm.alloc (.cells #[.string nm] 9)).heap.size) := Lib.hid (by have := HB.out; simp; omega)
          have ownA := own6.alloc (.cells #[.string nm] 9)
          have blkA : Blk (wm.alloc (.cells #[.string nm] 9)) wm.heap.size 9 (encL 1 strE nm).toArray := Blk.new _ _ _
          clear hmx hma own6 c0 c1 c2 c3 c4 c5 hcn
          go_wp2_with (at_builtin; refine wpList_push rfl _ _ _ rfl 16 Tryz.underlying79 einfo_string rfl ownA nm wm.heap.size rfl blkA (fun j hj => rfl) (by omega) (by omega) HZ.out ?_; intro g9 cap9 w9 own9 hm9 hat9 hlt9)
          have hmw : New w w9 := Own.push_mod' ownA (HM6.out.alloc _) hm9 (by have := HXB.out; omega)
          have hz9 := hm9.size
          refine ⟨⟨j + 1, cap9, some ⟨g9, 0, none⟩, by omega, by go_num, rfl, Lib.hid ?_, Lib.hid hmw, Lib.hid (Nat.le_trans HZ.out hz9)⟩, by simp [intOf]; omega⟩
          rw [HTK.out]
          exact own9
        · obtain rfl : j = mn := by omega
          have hO := HO.out
          rw [List.take_of_length_le (by have := HMN.out; simp; omega)] at hO
          have hnf := namesFault_v A j c (v.mem.map (·.1)) wq hO.sl hlb2 (fun s hs => by
            rw [List.mem_map] at hs
            obtain ⟨p, hp, rfl⟩ := hs
            obtain ⟨i, hi, rfl⟩ := List.mem_iff_getElem.1 hp
            have := (HWMB.out i hi).2
            omega) (HU.out.new HM.out)
          generalize namesF (v.mem.map (·.1)) = nf at *
          clear hO HO
          go_wp2_with fail
          refine hnf.mono ?_
          clear hnf
          rintro e w5 ⟨rfl, m5⟩
          go_wp2_with fail
          go_ret
          exact ⟨ret_int HF2.out.symm, HM.out.trans m5⟩

end Go.Proofs.YtjfgfkbgbhbhjaaGreatDoor

namespace Go.Proofs.YtjfgfkbgbhbhjaaGreatDoor
open Go.RowKit
set_option linter.unusedVariables false
set_option linter.unusedSimpArgs false

/-- all that is in a value, in one row -/
theorem Tree.kids {w : World} {G : Nat → Prop} {d : Nat} {x : VA} {v : VT} (h : Tree w G (d + 1) x v) :
    ∃ (xs : List VA) (ms : List MA), Sl w 29 6 VA.enc x.la x.ln xs ∧ Sl w 54 7 MA.enc x.ma x.mn ms ∧ (xs ++ ms.map (·.v)).length = v.kids.length ∧
      ∀ i (h : i < (xs ++ ms.map (·.v)).length) (h' : i < v.kids.length), Tree w G d (xs ++ ms.map (·.v))[i] v.kids[i] := by
  obtain ⟨vs, ps, rfl, ⟨xs, h1, h2, h3⟩, ⟨ms, h4, h5, h6⟩⟩ := h
  refine ⟨xs, ms, h1.sl, h4.sl, by simp [VT.kids, VT.list, VT.mem, h2, h5], fun i hi hi' => ?_⟩
  have hk : (VT.mk x.kind x.flag x.num x.words vs ps).kids = vs ++ ps.map (·.2) := rfl
  simp only [hk] at hi' ⊢
  by_cases hc : i < xs.length
  · rw [List.getElem_append_left hc, List.getElem_append_left (by omega)]
    exact h3 i hc (by omega)
  · rw [List.getElem_append_right (by omega), List.getElem_append_right (by omega)]
    simp only [List.length_append, List.length_map] at hi hi'
    simp only [List.getElem_map, h2]
    exact (h6 (i - vs.length) (by omega) (by omega)).2
theorem vMany_kids (d : Nat) (v : VT) : vMany (d + 1) v = 1 + (v.kids.map (vMany d)).sum := by
  simp only [vMany, VT.kids, List.map_append, List.sum_append, List.map_map]
  rfl
theorem vDeep_kids (d : Nat) (v : VT) : vDeep (d + 1) v = 1 + maxL (v.kids.map (vDeep d)) := by
  simp only [vDeep, VT.kids, List.map_append, maxL_append, List.map_map]
  rfl
set_option maxRecDepth 100000 in
set_option maxHeartbeats 4000000 in
theorem sizeOf_v (d : Nat) : ∀ (x : VA) (v : VT) (G : Nat → Prop) (w : World), Tree w G d x v → Fit d v → d ≤ 1000 →
    Calls Tryz.prog 32 #[x.val] w fun e w' => e = .returned (.tuple #[.int .i64 (vMany d v : Nat), .int .i64 (vDeep d v : Nat)]) ∧ New w w' := by
  induction d with
  | zero => intro x v G w ht; exact ht.elim
  | succ d ih =>
    intro x v G w ht hW hd
    have hwp := hW.parts
    have hMW := Nat.le_trans (vMany_le (d + 1) v) hW.1
    have HWK := Lib.hid (fun i (h : i < v.kids.length) => hW.kid h)
    obtain ⟨xs, ms, hxs, hms, hKL, hKT⟩ := ht.kids
    obtain ⟨-, -, -, -, hln, hmn⟩ := ht.fields
    have HIH := Lib.hid ih
    have HMK := Lib.hid (vMany_kids d v)
    have HDK := Lib.hid (vDeep_kids d v)
    have hdd := vDeep_le (d + 1) v
    obtain ⟨kind, flag, num, words, la, ln, lc, ma, mn, mc⟩ := x
    simp only at hln hmn hxs hms
    have HXS := Lib.hid hxs
    have HMS := Lib.hid hms
    have hxl := hxs.1
    have hml := hms.1
    have hb1 : ln ≤ 200000 := by omega
    have hb2 : mn ≤ 200000 := by omega
    have hM : vMany (d + 1) v ≤ 1000000000 := by omega
    have hKn : v.kids.length = ln + mn := by rw [← hKL]; simp; omega
    have HKT := Lib.hid hKT
    have HKL := Lib.hid hKL
    have HXL := Lib.hid hxl
    have HML := Lib.hid hml
    have HKN := Lib.hid hKn
    clear hwp hMW hW ht hxs hms hln hmn ih hKT hKL hxl hml hKn
    generalize vMany (d + 1) v = M at *
    generalize vDeep (d + 1) v = D at *
    generalize v.kids = KV at *
    have hx := Blk.new w 29 #[.int .i64 kind, .bool flag, .int .i64 num, .string words, .slice la ln lc, .slice ma mn mc]
    have hm1 : New w (w.alloc (.cells #[.int .i64 kind, .bool flag, .int .i64 num, .string words, .slice la ln lc, .slice ma mn mc] 29)) := (Mod.refl _ _).alloc _
    go_enter Tryz.func32, Tryz.ntmps32
    go_upto_region 1 with (fail)
    generalize w.alloc (.cells #[.int .i64 kind, .bool flag, .int .i64 num, .string words, .slice la ln lc, .slice ma mn mc] 29) = w1 at *
    have hsz1 := hm1.size
    generalize hxb : w.heap.size = xb at *
    have e4 := hx.cell 4
    have el := hx.lt
    simp only [List.getElem?_toArray, List.getElem?_cons_zero, List.getElem?_cons_succ] at e4
    have hcl := cloneVA xs la ln lc w1 (HXS.out.new hm1) hb1
    have HX := Lib.hid hx
    have HM1 := Lib.hid hm1
    clear hx hm1 hsz1
    go_wp2_with fail
    refine hcl.mono ?_
    clear hcl
    rintro e w2 ⟨A0, cc0, rfl, hown, m2⟩
    have hx2 := HX.out.mod m2 (fun e => e)
    clear e4 el
    have e5 := hx2.cell 5
    have el := hx2.lt
    simp only [List.getElem?_toArray, List.getElem?_cons_zero, List.getElem?_cons_succ] at e5
    have HM2 := Lib.hid (HM1.out.trans m2)
    have HO2 := Lib.hid (hown.less (show xb + 1 ≤ w1.heap.size from HX.out.lt))
    have HB2 : Hid (xb + 1 ≤ w2.heap.size) := Lib.hid (by have := hx2.lt; omega)
    have HXB := Lib.hid hxb
    clear hown hx2 m2 hxb
    go_wp2_with fail
    go_loopw [4, 17] (fun t i wr => ∃ (j c : Nat) (A : Option Addr), j ≤ mn ∧ i = .int .i64 j ∧ t = .slice A (ln + j : Nat) c ∧ Hid (Own wr (xb + 1) 29 6 VA.enc A (ln + j) c (xs ++ (ms.take j).map (·.v))) ∧ Hid (New w wr) ∧ Hid (xb + 1 ≤ wr.heap.size)) (fun _ i _ => mn - (intOf i).toNat)
    case atStart => exact ⟨0, cc0, A0, Nat.zero_le _, rfl, by simp, Lib.hid (by simpa using HO2.out), HM2, HB2⟩
    case round =>
      rename World => wr
      obtain ⟨j, c, A, hj, rfl, rfl, HO, HM, HBW⟩ := hrel
      by_cases hlt : j < mn
      · have hjl : j < ms.length := by have := HML.out; omega
        obtain ⟨g, o, hA, htb, hcell⟩ := (HMS.out.new HM.out).2 (by omega)
        subst hA
        have hgl := htb.lt
        have hcn := hcell j hjl 0 (by omega)
        have hc := fun q (hq : q < 6) => hcell j hjl (q + 1) (by omega)
        have HTK : Hid ((ms.take (j + 1)).map (·.v) = (ms.take j).map (·.v) ++ [ms[j].v]) := Lib.hid (by rw [List.take_succ_eq_append_getElem hjl, List.map_append]; rfl)
        generalize ms[j] = m at *
        obtain ⟨nm, y⟩ := m
        simp only [MA.enc, Nat.add_zero] at hcn hc
        obtain ⟨yk, yf, yn, yw, yla, yln, ylc, yma, ymn, ymc⟩ := y
        have c0 := hc 0 (by omega)
        have c1 := hc 1 (by omega)
        have c2 := hc 2 (by omega)
        have c3 := hc 3 (by omega)
        have c4 := hc 4 (by omega)
        have c5 := hc 5 (by omega)
        simp only [VA.enc, Nat.zero_add] at c0 c1 c2 c3 c4 c5
        have hi1 : (0 : Int) ≤ j := by omega
        have hi2 : (j : Int) < mn := by omega
        have hmx := Blk.new wr 54 #[.string nm, .int .i64 yk, .bool yf, .int .i64 yn, .string yw, .slice yla yln ylc, .slice yma ymn ymc]
        have hma : New wr (wr.alloc (.cells #[.string nm, .int .i64 yk, .bool yf, .int .i64 yn, .string yw, .slice yla yln ylc, .slice yma ymn ymc] 54)) := (Mod.refl _ _).alloc _
        clear hcell hc htb
        go_upto_region 5 with (fail)
        generalize wr.alloc (.cells #[.string nm, .int .i64 yk, .bool yf, .int .i64 yn, .string yw, .slice yla yln ylc, .slice yma ymn ymc] 54) = wm at *
        have own6 := HO.out.new hma
        have hzm := hma.size
        generalize wr.heap.size = mb at *
        have n1 := hmx.cell 1
        have n2 := hmx.cell 2
        have n3 := hmx.cell 3
        have n4 := hmx.cell 4
        have n5 := hmx.cell 5
        have n6 := hmx.cell 6
        have nl := hmx.lt
        simp only [List.getElem?_toArray, List.getElem?_cons_zero, List.getElem?_cons_succ] at n1 n2 n3 n4 n5 n6
        have HM6 := Lib.hid (HM.out.trans hma)
        have HZ : Hid (xb + 1 ≤ (wm.alloc (.cells #[.int .i64 yk, .bool yf, .int .i64 yn, .string yw, .slice yla yln ylc, .slice yma ymn ymc] 29)).heap.size) := Lib.hid (by have := HBW.out; simp; omega)
        have ownA := own6.alloc (.cells #[.int .i64 yk, .bool yf, .int .i64 yn, .string yw, .slice yla yln ylc, .slice yma ymn ymc] 29)
        have blkA : Blk (wm.alloc (.cells #[.int .i64 yk, .bool yf, .int .i64 yn, .string yw, .slice yla yln ylc, .slice yma ymn ymc] 29)) wm.heap.size 29 (encL 6 VA.enc ⟨yk, yf, yn, yw, yla, yln, ylc, yma, ymn, ymc⟩).toArray := Blk.new _ _ _
        clear hmx hma own6 c0 c1 c2 c3 c4 c5 hcn
        go_wp2_with (at_builtin; refine wpList_push rfl _ _ _ rfl 88 Tryz.underlying26 einfo_val rfl ownA ⟨yk, yf, yn, yw, yla, yln, ylc, yma, ymn, ymc⟩ wm.heap.size rfl blkA (fun j hj => VA.one _ j hj) (by omega) (by omega) HZ.out ?_; intro g9 cap9 w9 own9 hm9 hat9 hlt9)
        have hmw : New w w9 := Own.push_mod' ownA (HM6.out.alloc _) hm9 (by have := HXB.out; omega)
        have hz9 := hm9.size
        refine ⟨⟨j + 1, cap9, some ⟨g9, 0, none⟩, by omega, by go_num, rfl, Lib.hid ?_, Lib.hid hmw, Lib.hid (Nat.le_trans HZ.out hz9)⟩, by simp [intOf]; omega⟩
        rw [HTK.out, ← List.append_assoc]
        exact own9
      · obtain rfl : j = mn := by omega
        have hO := HO.out
        rw [List.take_of_length_le (by have := HML.out; omega)] at hO
        have HO3 := Lib.hid hO
        clear HO hO
        generalize xs ++ ms.map (·.v) = K at *
        have hkl : K.length = ln + j := HO3.out.1
        go_wp2_with fail
        go_loopw [2, 3, 29] (fun a b i wq => ∃ k : Nat, k ≤ ln + j ∧ i = .int .i64 k ∧ a = .int .i64 ((1 + ((KV.take k).map (vMany d)).sum : Nat) : Int) ∧ b = .int .i64 ((maxL ((KV.take k).map (vDeep d)) : Nat) : Int) ∧ Hid (New wr wq)) (fun _ _ i _ => ln + j - (intOf i).toNat)
        case atStart => exact ⟨0, Nat.zero_le _, rfl, by simp, by simp [maxL], Lib.hid (Mod.refl _ _)⟩
        case round =>
          rename World => wq
          obtain ⟨k, hk, rfl, rfl, rfl, HMQ⟩ := hrel
          by_cases hlt2 : k < ln + j
          · have hk1 : k < K.length := by omega
            have hk2 : k < KV.length := by have := HKN.out; omega
            obtain ⟨g, o, hA, htb, hcell⟩ := (HO3.out.new HMQ.out).sl.2 (by omega)
            subst hA
            have hgl := htb.lt
            have hc := fun q (hq : q < 6) => hcell k hk1 q hq
            have hty := HKT.out k hk1 hk2
            have hsum := sum_map_one (vMany d) hk2
            have hmax := max_map_get (vDeep d) hk2
            have HS := Lib.hid (sum_map_take (vMany d) hk2)
            have HD := Lib.hid (max_map_take (vDeep d) hk2)
            have hmk := HMK.out
            have hdl := vDeep_le d KV[k]
            have hdm : maxL ((KV.take k).map (vDeep d)) ≤ d := max_map_all _ (fun x _ => vDeep_le d x)
            have hwk := HWK.out k hk2
            have hi1 : (0 : Int) ≤ k := by omega
            have hi2 : (k : Int) < ((ln + j : Nat) : Int) := by omega
            generalize K[k] = y at *
            obtain ⟨yk, yf, yn, yw, yla, yln, ylc, yma, ymn, ymc⟩ := y
            have c0 := hc 0 (by omega)
            have c1 := hc 1 (by omega)
            have c2 := hc 2 (by omega)
            have c3 := hc 3 (by omega)
            have c4 := hc 4 (by omega)
            have c5 := hc 5 (by omega)
            simp only [VA.enc, Nat.add_zero] at c0 c1 c2 c3 c4 c5
            have hma : New wq (wq.alloc (.cells #[.int .i64 yk, .bool yf, .int .i64 yn, .string yw, .slice yla yln ylc, .slice yma ymn ymc] 29)) := (Mod.refl _ _).alloc _
            have hI := HIH.out ⟨yk, yf, yn, yw, yla, yln, ylc, yma, ymn, ymc⟩ KV[k] G (wq.alloc (.cells #[.int .i64 yk, .bool yf, .int .i64 yn, .string yw, .slice yla yln ylc, .slice yma ymn ymc] 29)) (hty.new ((HM.out.trans HMQ.out).trans hma)) hwk (by omega)
            have HMA := Lib.hid (HMQ.out.trans hma)
            have hs1 : 1 + ((KV.take k).map (vMany d)).sum + vMany d KV[k] ≤ 1000000000 := by omega
            clear hty hcell hc hma htb hsum hmk hmax hwk
            generalize ((KV.take k).map (vMany d)).sum = s1 at *
            generalize maxL ((KV.take k).map (vDeep d)) = d1 at *
            generalize vMany d KV[k] = a1 at *
            generalize vDeep d KV[k] = a2 at *
            go_wp2_with fail
            refine hI.mono ?_
            clear hI
            rintro e w5 ⟨rfl, m5⟩
            have HM5 := Lib.hid (HMA.out.trans m5)
            clear m5
            go_wp2_with fail
            exact ⟨⟨k + 1, by omega, by go_num, by rw [HS.out]; exact congrArg _ (by omega), by rw [HD.out]; exact congrArg _ (by omega), HM5⟩, by simp [intOf]; omega⟩
          · obtain rfl : k = ln + j := by omega
            have hmk := HMK.out
            have hdk := HDK.out
            rw [List.take_of_length_le (by have := HKN.out; omega)]
            rw [← hmk]
            have hdm : maxL (KV.map (vDeep d)) ≤ d := max_map_all _ (fun x _ => vDeep_le d x)
            generalize maxL (KV.map (vDeep d)) = d1 at *
            have hD : ((D : Nat) : Int) = (d1 : Int) + 1 := by omega
            have HRET : Hid (Ending.returned (.tuple #[.int .i64 (M : Nat), .int .i64 ((d1 : Int) + 1)]) = Ending.returned (.tuple #[.int .i64 (M : Nat), .int .i64 (D : Nat)])) := Lib.hid (by rw [hD])
            clear hD hdk hmk
            go_wp2_with fail
            go_ret2
            exact ⟨Eq.trans rfl HRET.out, HM.out.trans HMQ.out⟩

end Go.Proofs.YtjfgfkbgbhbhjaaGreatDoor

namespace Go.Proofs.YtjfgfkbgbhbhjaaGreatDoor
open Go.RowKit
set_option linter.unusedVariables false
set_option linter.unusedSimpArgs false

def orL : List Int → Int
  | [] => 0
  | x :: xs => if x = 0 then orL xs else x
theorem orL_drop {xs : List Int} {k : Nat} (h : k < xs.length) : orL (xs.drop k) = if xs[k] = 0 then orL (xs.drop (k + 1)) else xs[k] := by
  rw [List.drop_eq_getElem_cons h, orL]

set_option maxHeartbeats 1000000 in
theorem cmpOr_any (xs : List Int) (g n : Nat) (w : World) (hb : Blk w g 34 (xs.map (Value.int .i64)).toArray) (hn : xs.length = n) (hn2 : n ≤ 1000) :
    Calls Tryz.prog 9 #[.slice (some ⟨g, 0, none⟩) n n] w fun e w' => e = .returned (.int .i64 (orL xs)) ∧ w = w' := by
  go_enter Tryz.func9, Tryz.ntmps9
  go_wp2_with fail
  go_loop [5, 8] (fun _ i => ∃ k : Nat, k ≤ n ∧ i = .int .i64 k ∧ orL xs = orL (xs.drop k)) (fun _ i => n - (intOf i).toNat)
  case atStart => exact ⟨0, Nat.zero_le _, rfl, by simp⟩
  case round =>
    obtain ⟨k, hk, rfl, hor⟩ := hrel
    have HO := Lib.hid hor
    clear hor
    by_cases hlt : k < n
    · have hc := hb.cell k
      rw [show (xs.map (Value.int .i64)).toArray[k]? = some (.int .i64 (xs[k]'(by omega))) by simp] at hc
      have HD := Lib.hid (orL_drop (xs := xs) (k := k) (by omega))
      generalize xs[k]'(by omega) = x at *
      have hb1 : (0 : Int) ≤ k := by omega
      have hb2 : (k : Int) < n := by omega
      by_cases hx : x = 0
      · subst hx
        go_wp2_with fail
        go_round
        case rel => exact ⟨k + 1, by omega, by go_num, by rw [HO.out, HD.out]; simp⟩
        case measure => simp [intOf]; omega
      · have hx' : (x != 0) = true := by simp [hx]
        go_wp2_with fail
        go_ret
        exact ⟨ret_int (by rw [HO.out, HD.out, if_neg hx]), rfl⟩
    · obtain rfl : k = n := by omega
      go_wp2_with fail
      go_ret
      exact ⟨ret_int (by rw [HO.out, List.drop_of_length_le (by omega)]; rfl), rfl⟩

theorem orL_fz : ∀ xs, orL xs = fz xs
  | [] => rfl
  | x :: xs => by
    unfold orL fz
    by_cases h : x = 0 <;> simp [h, orL_fz xs]
set_option maxHeartbeats 1000000 in
theorem cmpOrI_any (xs : List Int) (g n : Nat) (w : World) (hb : Blk w g 3 (xs.map (Value.int .i64)).toArray) (hn : xs.length = n) (hn2 : n ≤ 1000) :
    Calls Tryz.prog 115 #[.slice (some ⟨g, 0, none⟩) n n] w fun e w' => e = .returned (.int .i64 (fz xs)) ∧ w = w' := by
  rw [← orL_fz]
  go_enter Tryz.func115, Tryz.ntmps115
  go_wp2_with fail
  go_loop [5, 8] (fun _ i => ∃ k : Nat, k ≤ n ∧ i = .int .i64 k ∧ orL xs = orL (xs.drop k)) (fun _ i => n - (intOf i).toNat)
  case atStart => exact ⟨0, Nat.zero_le _, rfl, by simp⟩
  case round =>
    obtain ⟨k, hk, rfl, hor⟩ := hrel
    have HO := Lib.hid hor
    clear hor
    by_cases hlt : k < n
    · have hc := hb.cell k
      rw [show (xs.map (Value.int .i64)).toArray[k]? = some (.int .i64 (xs[k]'(by omega))) by simp] at hc
      have HD := Lib.hid (orL_drop (xs := xs) (k := k) (by omega))
      generalize xs[k]'(by omega) = x at *
      have hb1 : (0 : Int) ≤ k := by omega
      have hb2 : (k : Int) < n := by omega
      by_cases hx : x = 0
      · subst hx
        go_wp2_with fail
        go_round
        case rel => exact ⟨k + 1, by omega, by go_num, by rw [HO.out, HD.out]; simp⟩
        case measure => simp [intOf]; omega
      · have hx' : (x != 0) = true := by simp [hx]
        go_wp2_with fail
        go_ret
        exact ⟨ret_int (by rw [HO.out, HD.out, if_neg hx]), rfl⟩
    · obtain rfl : k = n := by omega
      go_wp2_with fail
      go_ret
      exact ⟨ret_int (by rw [HO.out, List.drop_of_length_le (by omega)]; rfl), rfl⟩

end Go.Proofs.YtjfgfkbgbhbhjaaGreatDoor

namespace Go.Proofs.YtjfgfkbgbhbhjaaGreatDoor
open Go.RowKit
set_option linter.unusedVariables false
set_option linter.unusedSimpArgs false

theorem orF_assoc (a b c : Int) : orF (orF a b) c = orF a (orF b c) := by
  unfold orF
  by_cases h : a = 0 <;> simp [h]
theorem orL_two (a b : Int) : orL [a, b] = orF a b := by
  unfold orL orL orL orF
  by_cases h : a = 0 <;> by_cases h2 : b = 0 <;> simp [h, h2]
theorem orF_zero (a : Int) : orF a 0 = a := by
  unfold orF
  by_cases h : a = 0 <;> simp [h]
theorem or_two (a b : Int) (g : Nat) (w : World) (hb : Blk w g 34 #[.int .i64 a, .int .i64 b]) :
    Calls Tryz.prog 9 #[.slice (some ⟨g, 0, none⟩) 2 2] w fun e w' => e = .returned (.int .i64 (orF a b)) ∧ w = w' := by
  have := cmpOr_any [a, b] g 2 w hb rfl (by omega)
  rwa [orL_two] at this

set_option maxRecDepth 100000 in
set_option maxHeartbeats 1500000 in
theorem partsFault_v (d : Nat) : ∀ (x : VA) (v : VT) (G : Nat → Prop) (w : World), Tree w G d x v → Fit d v → Utf8T w →
    Calls Tryz.prog 33 #[x.val] w fun e w' => e = .returned (.int .i64 (vFault d v)) ∧ New w w' := by
  induction d with
  | zero => intro x v G w ht; exact ht.elim
  | succ d ih =>
    intro x v G w ht hW hU
    have hwp := hW.parts
    have HWI := Lib.hid (fun k (h : k < v.list.length) => hW.item h)
    have HWMB := Lib.hid (fun k (h : k < v.mem.length) => (hW.member h).1)
    have hfl := ht.fields
    have hof := fun W (h : New w W) => ownFault_v d x v G W (ht.new h) hW (hU.new h)
    have HT := Lib.hid ht
    have HU := Lib.hid hU
    have HIH := Lib.hid ih
    have HF : Hid (vFault (d + 1) v = orF (ownF v) (orF (fz (v.list.map (vFault d))) (fz (v.mem.map fun p => vFault d p.2)))) := Lib.hid rfl
    have hlb : v.list.length ≤ 200000 ∧ v.mem.length ≤ 200000 := by omega
    obtain ⟨hlb1, hlb2⟩ := hlb
    obtain ⟨kind, flag, num, words, la, ln, lc, ma, mn, mc⟩ := x
    obtain ⟨-, -, -, hwd, hln, hmn⟩ := hfl
    simp only at hln hmn hwd
    have HLN := Lib.hid hln
    have HMN := Lib.hid hmn
    rw [hln] at hlb1
    rw [hmn] at hlb2
    clear hwp hW ht hU ih hln hmn hwd
    generalize vFault (d + 1) v = F at *
    generalize ownF v = O at *
    have hx := Blk.new w 29 #[.int .i64 kind, .bool flag, .int .i64 num, .string words, .slice la ln lc, .slice ma mn mc]
    have hm1 : New w (w.alloc (.cells #[.int .i64 kind, .bool flag, .int .i64 num, .string words, .slice la ln lc, .slice ma mn mc] 29)) := (Mod.refl _ _).alloc _
    go_enter Tryz.func33, Tryz.ntmps33
    go_upto_region 1 with (fail)
    generalize w.alloc (.cells #[.int .i64 kind, .bool flag, .int .i64 num, .string words, .slice la ln lc, .slice ma mn mc] 29) = w1 at *
    generalize w.heap.size = xb at *
    have hof1 := hof _ hm1
    have HX := Lib.hid hx
    have HM1 := Lib.hid hm1
    have hxx := hx
    clear hx hm1 hof
    have e0 := hxx.cell 0
    have e1 := hxx.cell 1
    have e2 := hxx.cell 2
    have e3 := hxx.cell 3
    have e4 := hxx.cell 4
    have e5 := hxx.cell 5
    have el := hxx.lt
    simp only [List.getElem?_toArray, List.getElem?_cons_zero, List.getElem?_cons_succ] at e0 e1 e2 e3 e4 e5
    go_wp2_with fail
    refine hof1.mono ?_
    clear hof1
    rintro e w2 ⟨rfl, m2⟩
    have HX2 := Lib.hid (HX.out.mod m2 (fun e => e))
    have HM2 := Lib.hid (HM1.out.trans m2)
    clear e0 e1 e2 e3 e4 e5 el hxx
    have hxx := HX2.out
    have e0 := hxx.cell 0
    have e1 := hxx.cell 1
    have e2 := hxx.cell 2
    have e3 := hxx.cell 3
    have e4 := hxx.cell 4
    have e5 := hxx.cell 5
    have el := hxx.lt
    simp only [List.getElem?_toArray, List.getElem?_cons_zero, List.getElem?_cons_succ] at e0 e1 e2 e3 e4 e5
    clear HX HM1 m2
    go_wp2_with fail
    clear e0 e1 e2 e3 e4 e5 el hxx
    go_loopw [3, 13] (fun f i wr => ∃ k : Nat, k ≤ ln ∧ i = .int .i64 k ∧ f = .int .i64 (orF O (fz ((v.list.take k).map (vFault d)))) ∧ Hid (New w wr) ∧ Hid (Blk wr xb 29 #[.int .i64 kind, .bool flag, .int .i64 num, .string words, .slice la ln lc, .slice ma mn mc])) (fun _ i _ => ln - (intOf i).toNat)
    case atStart => exact ⟨0, Nat.zero_le _, rfl, congrArg _ (by simp [fz, orF_zero]), HM2, HX2⟩
    case round =>
      rename World => wr
      obtain ⟨k, hk, rfl, rfl, HM, HX⟩ := hrel
      by_cases hlt : k < ln
      · have hkl : k < v.list.length := by have := HLN.out; omega
        have hT := HT.out.new HM.out
        obtain ⟨g, o, y, hA, hgl, htb, -, hc, hty⟩ := hT.item hkl
        simp only at hA
        subst hA
        have HS : Hid (orF O (fz ((v.list.take (k + 1)).map (vFault d))) = orF (orF O (fz ((v.list.take k).map (vFault d)))) (vFault d v.list[k])) := Lib.hid (by rw [fz_map_take (vFault d) hkl, orF_assoc])
        obtain ⟨yk, yf, yn, yw, yla, yln, ylc, yma, ymn, ymc⟩ := y
        have c0 := hc 0 (by omega)
        have c1 := hc 1 (by omega)
        have c2 := hc 2 (by omega)
        have c3 := hc 3 (by omega)
        have c4 := hc 4 (by omega)
        have c5 := hc 5 (by omega)
        simp only [VA.enc, Nat.add_zero, Nat.zero_add] at c0 c1 c2 c3 c4 c5
        have hb1 : (0 : Int) ≤ k := by omega
        have hb2 : (k : Int) < ln := by omega
        have hma : New wr (wr.alloc (.cells #[.int .i64 yk, .bool yf, .int .i64 yn, .string yw, .slice yla yln ylc, .slice yma ymn ymc] 29)) := (Mod.refl _ _).alloc _
        have hI := HIH.out ⟨yk, yf, yn, yw, yla, yln, ylc, yma, ymn, ymc⟩ v.list[k] G (wr.alloc (.cells #[.int .i64 yk, .bool yf, .int .i64 yn, .string yw, .slice yla yln ylc, .slice yma ymn ymc] 29)) (hty.new hma) (HWI.out k hkl) (HU.out.new (HM.out.trans hma))
        have HMA := Lib.hid hma
        clear hT hc hty hma htb
        generalize orF O (fz ((v.list.take k).map (vFault d))) = f at *
        generalize vFault d v.list[k] = f2 at *
        go_wp2_with fail
        refine hI.mono ?_
        clear hI
        rintro e w5 ⟨rfl, m5⟩
        have hb6 := Blk.new w5 34 #[.int .i64 f, .int .i64 f2]
        have ho6 := or_two f f2 w5.heap.size _ hb6
        have HM6 := Lib.hid ((HMA.out.trans m5).alloc (.cells #[.int .i64 f, .int .i64 f2] 34))
        clear m5 hb6
        go_wp2_with fail
        refine ho6.mono ?_
        clear ho6
        rintro e w6 ⟨rfl, rfl⟩
        go_wp2_with fail
        go_roundw
        case rel => exact ⟨k + 1, by omega, by go_num, congrArg _ HS.out.symm, Lib.hid (HM.out.trans HM6.out), Lib.hid (HX.out.mod HM6.out (fun e => e))⟩
        case measure => simp [intOf]; omega
      · obtain rfl : k = ln := by omega
        rw [List.take_of_length_le (by have := HLN.out; omega)]
        have HF2 : Hid (F = orF (orF O (fz (v.list.map (vFault d)))) (fz (v.mem.map fun p => vFault d p.2))) := Lib.hid (by rw [HF.out, orF_assoc])
        generalize orF O (fz (v.list.map (vFault d))) = O2 at *
        have hxx := HX.out
        have e0 := hxx.cell 0
        have e1 := hxx.cell 1
        have e2 := hxx.cell 2
        have e3 := hxx.cell 3
        have e4 := hxx.cell 4
        have e5 := hxx.cell 5
        have el := hxx.lt
        simp only [List.getElem?_toArray, List.getElem?_cons_zero, List.getElem?_cons_succ] at e0 e1 e2 e3 e4 e5
        have HM3 := HM
        clear HM hlt hk HF
        go_wp2_with fail
        clear e0 e1 e2 e3 e4 e5 el hxx
        go_loopw [3, 26] (fun f i wz => ∃ j : Nat, j ≤ mn ∧ i = .int .i64 j ∧ f = .int .i64 (orF O2 (fz ((v.mem.take j).map fun p => vFault d p.2))) ∧ Hid (New wr wz)) (fun _ i _ => mn - (intOf i).toNat)
        case atStart => exact ⟨0, Nat.zero_le _, rfl, congrArg _ (by simp [fz, orF_zero]), Lib.hid (Mod.refl _ _)⟩
        case round =>
          rename World => wz
          obtain ⟨j, hj, rfl, rfl, HM⟩ := hrel
          by_cases hlt : j < mn
          · have hjl : j < v.mem.length := by have := HMN.out; omega
            have hT := HT.out.new (HM3.out.trans HM.out)
            obtain ⟨g, o, y, hA, hgl, htb, -, hcn, hc, hty⟩ := hT.member hjl
            simp only at hA
            subst hA
            have HS : Hid (orF O2 (fz ((v.mem.take (j + 1)).map fun p => vFault d p.2)) = orF (orF O2 (fz ((v.mem.take j).map fun p => vFault d p.2))) (vFault d v.mem[j].2)) := Lib.hid (by rw [fz_map_take (fun p : ByteArray × VT => vFault d p.2) hjl, orF_assoc])
            obtain ⟨yk, yf, yn, yw, yla, yln, ylc, yma, ymn, ymc⟩ := y
            have c0 := hc 0 (by omega)
            have c1 := hc 1 (by omega)
            have c2 := hc 2 (by omega)
            have c3 := hc 3 (by omega)
            have c4 := hc 4 (by omega)
            have c5 := hc 5 (by omega)
            simp only [VA.enc, Nat.add_zero, Nat.zero_add] at c0 c1 c2 c3 c4 c5
            have hb1 : (0 : Int) ≤ j := by omega
            have hb2 : (j : Int) < mn := by omega
            have hwm := HWMB.out j hjl
            generalize v.mem[j].1 = nm at *
            have hma : New wz (wz.alloc (.cells #[.string nm, .int .i64 yk, .bool yf, .int .i64 yn, .string yw, .slice yla yln ylc, .slice yma ymn ymc] 54)) := (Mod.refl _ _).alloc _
            have hI := HIH.out ⟨yk, yf, yn, yw, yla, yln, ylc, yma, ymn, ymc⟩ v.mem[j].2 G (wz.alloc (.cells #[.string nm, .int .i64 yk, .bool yf, .int .i64 yn, .string yw, .slice yla yln ylc, .slice yma ymn ymc] 54)) (hty.new hma) hwm (HU.out.new ((HM3.out.trans HM.out).trans hma))
            have HMA := Lib.hid hma
            clear hT hc hty hma htb hwm
            generalize orF O2 (fz ((v.mem.take j).map fun p => vFault d p.2)) = f at *
            generalize vFault d v.mem[j].2 = f2 at *
            go_wp2_with fail
            refine hI.mono ?_
            clear hI
            rintro e w5 ⟨rfl, m5⟩
            have hb6 := Blk.new w5 34 #[.int .i64 f, .int .i64 f2]
            have ho6 := or_two f f2 w5.heap.size _ hb6
            have HM6 := Lib.hid ((HMA.out.trans m5).alloc (.cells #[.int .i64 f, .int .i64 f2] 34))
            clear m5 hb6
            go_wp2_with fail
            refine ho6.mono ?_
            clear ho6
            rintro e w6 ⟨rfl, rfl⟩
            go_wp2_with fail
            go_roundw
            case rel => exact ⟨j + 1, by omega, by go_num, congrArg _ HS.out.symm, Lib.hid (HM.out.trans HM6.out)⟩
            case measure => simp [intOf]; omega
          · obtain rfl : j = mn := by omega
            rw [List.take_of_length_le (by have := HMN.out; omega), ← HF2.out]
            go_wp2_with fail
            go_ret
            exact ⟨rfl, HM3.out.trans HM.out⟩

theorem Value.fault_big {d : Nat} {v : VT} {many deep : Nat} (h1 : many = vMany d v) (h2 : deep = vDeep d v) : vCheck d v = if 5000 < many ∨ 50 < deep then 2 else vFault d v := by
  unfold vCheck vBig
  rw [h1, h2]

set_option maxRecDepth 100000 in
set_option maxHeartbeats 1500000 in
theorem valueFault_v (d : Nat) (x : VA) (v : VT) (G : Nat → Prop) (w : World) (ht : Tree w G d x v) (hW : Fit d v) (hd : d ≤ 1000) (hU : Utf8T w) :
    Calls Tryz.prog 10 #[x.val] w fun e w' => e = .returned (.int .i64 (vCheck d v)) ∧ New w w' := by
  have hsz := fun W (h : New w W) => sizeOf_v d x v G W (ht.new h) hW hd
  have hpf := fun W (h : New w W) => partsFault_v d x v G W (ht.new h) hW (hU.new h)
  have HC := Lib.hid (Value.fault_big (d := d) (v := v) rfl rfl)
  have hM := Nat.le_trans (vMany_le d v) hW.1
  have hD := Nat.le_trans (vDeep_le d v) hd
  obtain ⟨kind, flag, num, words, la, ln, lc, ma, mn, mc⟩ := x
  clear ht hU hW hd
  generalize vCheck d v = C at *
  generalize vMany d v = M at *
  generalize vDeep d v = D at *
  generalize vFault d v = F at *
  have hx := Blk.new w 29 #[.int .i64 kind, .bool flag, .int .i64 num, .string words, .slice la ln lc, .slice ma mn mc]
  have hm1 : New w (w.alloc (.cells #[.int .i64 kind, .bool flag, .int .i64 num, .string words, .slice la ln lc, .slice ma mn mc] 29)) := (Mod.refl _ _).alloc _
  go_enter Tryz.func10, Tryz.ntmps10
  go_upto_region 1 with (fail)
  generalize w.alloc (.cells #[.int .i64 kind, .bool flag, .int .i64 num, .string words, .slice la ln lc, .slice ma mn mc] 29) = w1 at *
  generalize w.heap.size = xb at *
  have hsz1 := hsz _ hm1
  have HX := Lib.hid hx
  have HM1 := Lib.hid hm1
  have hxx := hx
  clear hx hm1 hsz
  have e0 := hxx.cell 0
  have e1 := hxx.cell 1
  have e2 := hxx.cell 2
  have e3 := hxx.cell 3
  have e4 := hxx.cell 4
  have e5 := hxx.cell 5
  have el := hxx.lt
  simp only [List.getElem?_toArray, List.getElem?_cons_zero, List.getElem?_cons_succ] at e0 e1 e2 e3 e4 e5
  go_wp2_with fail
  refine hsz1.mono ?_
  clear hsz1
  rintro e w2 ⟨rfl, m2⟩
  have HM2 := Lib.hid (HM1.out.trans m2)
  have hpf1 := fun W (h : New w2 W) => hpf W ((HM1.out.trans m2).trans h)
  have HX2 := Lib.hid (HX.out.mod m2 (fun e => e))
  clear e0 e1 e2 e3 e4 e5 el hxx
  have hxx := HX2.out
  have e0 := hxx.cell 0
  have e1 := hxx.cell 1
  have e2 := hxx.cell 2
  have e3 := hxx.cell 3
  have e4 := hxx.cell 4
  have e5 := hxx.cell 5
  have el := hxx.lt
  simp only [List.getElem?_toArray, List.getElem?_cons_zero, List.getElem?_cons_succ] at e0 e1 e2 e3 e4 e5
  clear hpf m2 HX HM1
  by_cases h1 : 5000 < M
  · have g1 : (5000 : Int) < M := by omega
    have HE : Hid (C = 2) := Lib.hid (by rw [HC.out, if_pos (.inl h1)])
    clear h1
    go_wp2_with fail
    go_ret
    exact ⟨ret_int HE.out.symm, HM2.out⟩
  · have g1 : decide ((5000 : Int) < M) = false := by simp; omega
    by_cases h2 : 50 < D
    · have g2 : (50 : Int) < D := by omega
      have HE : Hid (C = 2) := Lib.hid (by rw [HC.out, if_pos (.inr h2)])
      clear h1 h2
      go_wp2_with fail
      go_ret
      exact ⟨ret_int HE.out.symm, HM2.out⟩
    · have g2 : decide ((50 : Int) < D) = false := by simp; omega
      have HE : Hid (C = F) := Lib.hid (by rw [HC.out, if_neg (by omega)])
      clear h1 h2
      have hpf2 := hpf1 w2 (Mod.refl _ _)
      clear hpf1
      go_wp2_with fail
      refine hpf2.mono ?_
      clear hpf2
      rintro e w3 ⟨rfl, m3⟩
      go_wp2_with fail
      go_ret
      exact ⟨ret_int HE.out.symm, HM2.out.trans m3⟩

set_option maxRecDepth 100000 in
set_option maxHeartbeats 1500000 in
theorem check_v (d : Nat) (x : VA) (v : VT) (G : Nat → Prop) (w : World) (ht : Tree w G d x v) (hW : Fit d v) (hU : Utf8T w) :
    Calls Tryz.prog 30 #[x.val] w fun e w' => e = .returned (.int .i64 (vCheck d v)) ∧ New w w' := by
  have HC := Lib.hid (Value.fault_big (d := d) (v := v) rfl rfl)
  have hl := fun W (h : New w W) cb (hb : Blk W cb 113 #[.int .i64 0]) => large_v d x v G W cb 0 1 (ht.new h) hb (by omega) (by omega) (by omega) hW
  have HFA := Lib.hid (fun W (h : New w W) => fault_v d x v G W (ht.new h) hW (hU.new h))
  obtain ⟨kind, flag, num, words, la, ln, lc, ma, mn, mc⟩ := x
  clear ht hU hW
  generalize vCheck d v = C at *
  generalize vMany d v = M at *
  generalize vDeep d v = D at *
  generalize vFault d v = F at *
  have hx := Blk.new w 29 #[.int .i64 kind, .bool flag, .int .i64 num, .string words, .slice la ln lc, .slice ma mn mc]
  have hm1 : New w (w.alloc (.cells #[.int .i64 kind, .bool flag, .int .i64 num, .string words, .slice la ln lc, .slice ma mn mc] 29)) := (Mod.refl _ _).alloc _
  go_enter Tryz.func30, Tryz.ntmps30
  go_upto_region 1 with (fail)
  generalize w.alloc (.cells #[.int .i64 kind, .bool flag, .int .i64 num, .string words, .slice la ln lc, .slice ma mn mc] 29) = w1 at *
  have HCB : Hid (w.heap.size ≤ w1.heap.size) := Lib.hid hm1.size
  generalize hxb : w.heap.size = xb at *
  have hcb := Blk.new w1 113 #[.int .i64 0]
  have hm2 : New w1 (w1.alloc (.cells #[.int .i64 0] 113)) := (Mod.refl _ _).alloc _
  go_upto_region 2 with (fail)
  generalize w1.alloc (.cells #[.int .i64 0] 113) = w2 at *
  have hne : xb ≠ w1.heap.size := by have := hx.lt; omega
  generalize w1.heap.size = cb at *
  have hm := hm1.trans hm2
  have hl1 := hl w2 hm cb hcb
  have hxx := hx.mod hm2 (fun e => e)
  have HX := Lib.hid hxx
  have HNE := Lib.hid hne
  have HM := Lib.hid hm
  have HXB := Lib.hid hxb
  clear hx hm1 hm2 hcb hm hl hne hxb
  have e0 := hxx.cell 0
  have e1 := hxx.cell 1
  have e2 := hxx.cell 2
  have e3 := hxx.cell 3
  have e4 := hxx.cell 4
  have e5 := hxx.cell 5
  have el := hxx.lt
  simp only [List.getElem?_toArray, List.getElem?_cons_zero, List.getElem?_cons_succ] at e0 e1 e2 e3 e4 e5
  go_wp2_with fail
  refine hl1.mono ?_
  clear hl1
  rintro e w3 ⟨b, m', rfl, -, hm3, hno, hyes⟩
  have HM3 : Hid (New w w3) := Lib.hid (HM.out.step hm3 (fun i hi e => by have := HCB.out; have := HXB.out; omega))
  clear e0 e1 e2 e3 e4 e5 el hxx
  have hxx := HX.out.mod hm3 HNE.out
  have e0 := hxx.cell 0
  have e1 := hxx.cell 1
  have e2 := hxx.cell 2
  have e3 := hxx.cell 3
  have e4 := hxx.cell 4
  have e5 := hxx.cell 5
  have el := hxx.lt
  simp only [List.getElem?_toArray, List.getElem?_cons_zero, List.getElem?_cons_succ] at e0 e1 e2 e3 e4 e5
  clear hm3
  cases b with
  | true =>
    have HE : Hid (C = 2) := Lib.hid (by rw [HC.out, if_pos (by have := hyes rfl; omega)])
    clear hno hyes
    go_wp2_with fail
    go_ret
    exact ⟨ret_int HE.out.symm, HM3.out⟩
  | false =>
    have HE : Hid (C = F) := Lib.hid (by rw [HC.out, if_neg (by have := hno rfl; omega)])
    have hf1 := HFA.out w3 HM3.out
    clear hno hyes
    go_wp2_with fail
    refine hf1.mono ?_
    clear hf1
    rintro e w4 ⟨rfl, m4⟩
    go_wp2_with fail
    go_ret
    exact ⟨ret_int HE.out.symm, HM3.out.trans m4⟩


end Go.Proofs.YtjfgfkbgbhbhjaaGreatDoor
