/- What is wrong with a value itself: the reference's ownFault. Conditions: the value stands in memory as a tree; the library's tables lie as they should. -/
import Derived.Test.YtahofcopedlenaaGreatDoorVal6
import Derived.Test.YtahofcopedlenaaGreatDoorValClone
namespace Go.Proofs.YtahofcopedlenaaGreatDoor
open Go.RowKit
set_option linter.unusedVariables false
set_option linter.unusedSimpArgs false

theorem idle_list (kind : Int) (u : List Bool) (hl : u.length = 5) :
    (∀ i (h : i < u.length), u[i] = true → kind = i + 1) ↔ ((decide (kind = 1) || !u[0]) && (decide (kind = 2) || !u[1]) && (decide (kind = 3) || !u[2]) && (decide (kind = 4) || !u[3]) && (decide (kind = 5) || !u[4])) = true := by
  match u, hl with
  | [a, b, c, d, e], _ =>
    simp only [List.getElem_cons_zero, List.getElem_cons_succ, Bool.and_eq_true, Bool.or_eq_true, decide_eq_true_eq, Bool.not_eq_true']
    constructor
    · intro h
      refine ⟨⟨⟨⟨?_, ?_⟩, ?_⟩, ?_⟩, ?_⟩
      · have := h 0 (by simp); simp at this; cases a <;> simp_all
      · have := h 1 (by simp); simp at this; cases b <;> simp_all
      · have := h 2 (by simp); simp at this; cases c <;> simp_all
      · have := h 3 (by simp); simp at this; cases d <;> simp_all
      · have := h 4 (by simp); simp at this; cases e <;> simp_all
    · rintro ⟨⟨⟨⟨h0, h1⟩, h2⟩, h3⟩, h4⟩ i hi hu
      simp only [List.length_cons, List.length_nil] at hi
      obtain rfl | rfl | rfl | rfl | rfl : i = 0 ∨ i = 1 ∨ i = 2 ∨ i = 3 ∨ i = 4 := by omega
      all_goals simp only [List.getElem_cons_zero, List.getElem_cons_succ] at hu
      · subst hu; simp at h0; omega
      · subst hu; simp at h1; omega
      · subst hu; simp at h2; omega
      · subst hu; simp at h3; omega
      · subst hu; simp at h4; omega
def usedX (x : VA) : List Bool := [x.flag, x.num != 0, !x.words.toList.isEmpty, decide (0 < x.ln), decide (0 < x.mn)]
theorem idle_used (x : VA) : idleX x = true ↔ ∀ i (h : i < (usedX x).length), (usedX x)[i] = true → x.kind = i + 1 := by
  rw [idle_list x.kind (usedX x) rfl]
  have h1 : (x.num != 0) = !decide (x.num = 0) := by
    rw [Bool.eq_iff_iff]; simp
  have h2 : decide (0 < x.ln) = !decide (x.ln = 0) := by
    rw [Bool.eq_iff_iff]; simp; omega
  have h3 : decide (0 < x.mn) = !decide (x.mn = 0) := by
    rw [Bool.eq_iff_iff]; simp; omega
  have h4 : x.words.toList.isEmpty = decide (x.words = ⟨#[]⟩) := by
    rw [← str_nil']
    cases x.words.toList <;> rfl
  simp only [usedX, idleX, List.getElem_cons_zero, List.getElem_cons_succ, h1, h2, h3, h4, Bool.not_not]

set_option maxRecDepth 100000 in
set_option maxHeartbeats 1500000 in
theorem ownFault_v (d : Nat) (x : VA) (v : VT) (G : Nat → Prop) (w : World) (ht : Tree w G (d + 1) x v) (hW : Fit (d + 1) v) (hU : Utf8T w) :
    Calls Tryz.prog 46 #[x.val] w fun e w' => e = .returned (.int .i64 (ownF v)) ∧ New w w' := by
  have hwp := hW.parts
  have HWMB := Lib.hid (fun k (h : k < v.mem.length) => hW.member h)
  have hfl := ht.fields
  have hhd := ht.head
  have HT := Lib.hid ht
  have HU := Lib.hid hU
  have hF : ownF v = orF (headF v) (namesF (v.mem.map (·.1))) := rfl
  rw [hhd] at hF
  have hws : v.words.size ≤ 1000000 := by omega
  have hlb : v.list.length ≤ 200000 ∧ v.mem.length ≤ 200000 := by omega
  obtain ⟨hlb1, hlb2⟩ := hlb
  have HIU := Lib.hid (idle_used x)
  obtain ⟨kind, flag, num, words, la, ln, lc, ma, mn, mc⟩ := x
  obtain ⟨-, -, -, hwd, hln, hmn⟩ := hfl
  simp only at hln hmn hwd
  rw [hwd] at hws
  have HF := Lib.hid hF
  have HMN := Lib.hid hmn
  have hvl := fun W (hW : Utf8T W) => valid_v words W hws hW
  have hXE : headX ⟨kind, flag, num, words, la, ln, lc, ma, mn, mc⟩ = if kind < 0 ∨ 5 < kind then 4 else if idleX ⟨kind, flag, num, words, la, ln, lc, ma, mn, mc⟩ = false then 3 else if num < -1000000000000000 ∨ 1000000000000000 < num then 1 else if 5000 < words.size then 2 else if validW words = false then 3 else 0 := rfl
  have HXE := Lib.hid hXE
  rw [hln] at hlb1
  rw [hmn] at hlb2
  have HUE : Hid (usedX ⟨kind, flag, num, words, la, ln, lc, ma, mn, mc⟩ = [flag, num != 0, !words.toList.isEmpty, decide (0 < ln), decide (0 < mn)]) := Lib.hid rfl
  generalize usedX ⟨kind, flag, num, words, la, ln, lc, ma, mn, mc⟩ = us at *
  clear hwp hW hF hhd ht hU hln hmn hwd hXE
  generalize ownF v = F at *
  generalize headX ⟨kind, flag, num, words, la, ln, lc, ma, mn, mc⟩ = H at *
  generalize idleX ⟨kind, flag, num, words, la, ln, lc, ma, mn, mc⟩ = I at *
  generalize validW words = V at *
  have hx := Blk.new w 29 #[.int .i64 kind, .bool flag, .int .i64 num, .string words, .slice la ln lc, .slice ma mn mc]
  have hm1 : New w (w.alloc (.cells #[.int .i64 kind, .bool flag, .int .i64 num, .string words, .slice la ln lc, .slice ma mn mc] 29)) := (Mod.refl _ _).alloc _
  go_enter Tryz.func46, Tryz.ntmps46
  go_upto_region 1 with (fail)
  generalize w.alloc (.cells #[.int .i64 kind, .bool flag, .int .i64 num, .string words, .slice la ln lc, .slice ma mn mc] 29) = w1 at *
  have HBW : Hid (w.heap.size + 1 ≤ w1.heap.size) := Lib.hid hx.lt
  generalize hxb : w.heap.size = xb at *
  have HXB := Lib.hid hxb
  have HX := Lib.hid hx
  have HM1 := Lib.hid hm1
  have hxx := hx
  clear hx hm1 hxb
  have e0 := hxx.cell 0
  have e1 := hxx.cell 1
  have e2 := hxx.cell 2
  have e3 := hxx.cell 3
  have e4 := hxx.cell 4
  have e5 := hxx.cell 5
  have el := hxx.lt
  simp only [List.getElem?_toArray, List.getElem?_cons_zero, List.getElem?_cons_succ] at e0 e1 e2 e3 e4 e5
  go_wp2_with fail
  refine (in_v _ _ _ _).mono ?_
  rintro e w2 ⟨rfl, rfl⟩
  by_cases q1 : kind < 0 ∨ 5 < kind
  · rw [show (decide (0 ≤ kind) && decide (kind ≤ 5)) = false by simp; omega]
    have HE : Hid (F = 4) := Lib.hid (by rw [HF.out, HXE.out, if_pos q1]; simp [orF])
    go_wp2_with fail
    go_ret
    exact ⟨ret_int HE.out.symm, HM1.out⟩
  rw [show (decide (0 ≤ kind) && decide (kind ≤ 5)) = true by simp; omega]
  have HXE1 : Hid (H = if I = false then 3 else if num < -1000000000000000 ∨ 1000000000000000 < num then 1 else if 5000 < words.size then 2 else if V = false then 3 else 0) := Lib.hid (by rw [HXE.out, if_neg q1])
  have hk5 : 0 ≤ kind ∧ kind ≤ 5 := by omega
  obtain ⟨hk50, hk51⟩ := hk5
  clear q1 HXE
  have hbu := Blk.new w1 4 #[.bool flag, .bool (num != 0), .bool (!words.toList.isEmpty), .bool (decide (0 < ln)), .bool (decide (0 < mn))]
  have hmu : New w1 (w1.alloc (.cells #[.bool flag, .bool (num != 0), .bool (!words.toList.isEmpty), .bool (decide (0 < ln)), .bool (decide (0 < mn))] 4)) := (Mod.refl _ _).alloc _
  have hub : #[Value.bool flag, .bool (num != 0), .bool (!words.toList.isEmpty), .bool (decide (0 < ln)), .bool (decide (0 < mn))] = (us.map Value.bool).toArray := by rw [HUE.out]; rfl
  have HUB := Lib.hid hub
  clear hub
  have HUL : Hid (us.length = 5) := Lib.hid (by rw [HUE.out]; rfl)
  go_upto_region 4 with (fail)
  generalize w1.alloc (.cells #[.bool flag, .bool (num != 0), .bool (!words.toList.isEmpty), .bool (decide (0 < ln)), .bool (decide (0 < mn))] 4) = w2 at *
  generalize w1.heap.size = ub at *
  have HX2 := Lib.hid (HX.out.mod hmu (fun e => e))
  have HM2 := Lib.hid (HM1.out.trans hmu)
  have HBU : Hid (Blk w2 ub 4 (us.map Value.bool).toArray) := Lib.hid (by rw [← HUB.out]; exact hbu)
  clear hbu hmu HUB HUE HX HM1
  clear e0 e1 e2 e3 e4 e5 el hxx
  go_wp2_with fail
  go_loopw [32] (fun i wr => ∃ k : Nat, k ≤ 5 ∧ i = .int .i64 k ∧ Hid (∀ i (h : i < us.length), i < k → us[i] = true → kind = i + 1) ∧ Hid (New w2 wr)) (fun i _ => 5 - (intOf i).toNat)
  case atStart => exact ⟨0, Nat.zero_le _, rfl, Lib.hid (fun i h hq => absurd hq (by omega)), Lib.hid (Mod.refl _ _)⟩
  case round =>
    rename World => wr
    obtain ⟨k, hk, rfl, H0, HM⟩ := hrel
    have hxx := HX2.out.mod HM.out (fun e => e)
    by_cases hlt : k < 5
    · have hku : k < us.length := by have := HUL.out; omega
      have hbk := (HBU.out.mod HM.out (fun e => e)).cell k
      have hbl := (HBU.out.mod HM.out (fun e => e)).lt
      rw [show (us.map Value.bool).toArray[k]? = some (.bool us[k]) by simp [hku]] at hbk
      have HSTOP : Hid (us[k] = true → kind ≠ (k : Int) + 1 → F = 3) := Lib.hid (fun h1 h2 => by
        have hI : I = false := by
          cases hI : I with
          | false => rfl
          | true => exact absurd (HIU.out.1 hI k hku h1) (by simpa using h2)
        rw [HF.out, HXE1.out, hI]; simp [orF])
      have HNEXT : Hid ((us[k] = true → kind = (k : Int) + 1) → ∀ i (h : i < us.length), i < k + 1 → us[i] = true → kind = i + 1) := Lib.hid (fun h i hi hik hu => by
        by_cases e : i = k
        · subst e; exact h hu
        · exact H0.out i hi (by omega) hu)
      generalize us[k] = u at *
      have e0 := hxx.cell 0
      have e1 := hxx.cell 1
      have e2 := hxx.cell 2
      have e3 := hxx.cell 3
      have e4 := hxx.cell 4
      have e5 := hxx.cell 5
      have el := hxx.lt
      simp only [List.getElem?_toArray, List.getElem?_cons_zero, List.getElem?_cons_succ] at e0 e1 e2 e3 e4 e5
      have hb1 : (0 : Int) ≤ k := by omega
      have hb2 : (k : Int) < 5 := by omega
      clear hxx
      cases u with
      | false =>
        have HG := Lib.hid (HNEXT.out (fun h => by cases h))
        go_wp2_with fail
        go_roundw
        case rel => exact ⟨k + 1, by omega, by go_num, HG, HM⟩
        case measure => simp [intOf]; omega
      | true =>
        by_cases hkk : kind = (k : Int) + 1
        · have hkb : (kind != (k : Int) + 1) = false := by simpa using hkk
          have HG := Lib.hid (HNEXT.out (fun _ => hkk))
          clear hkk
          go_wp2_with fail
          go_roundw
          case rel => exact ⟨k + 1, by omega, by go_num, HG, HM⟩
          case measure => simp [intOf]; omega
        · have hkb : (kind != (k : Int) + 1) = true := by simpa using hkk
          have HFF := Lib.hid (HSTOP.out rfl hkk)
          clear hkk
          go_wp2_with fail
          go_ret
          exact ⟨ret_int HFF.out.symm, HM2.out.trans HM.out⟩
    · obtain rfl : k = 5 := by omega
      have hI : I = true := HIU.out.2 (fun i hi hu => H0.out i hi (by have := HUL.out; omega) hu)
      subst hI
      have e0 := hxx.cell 0
      have e1 := hxx.cell 1
      have e2 := hxx.cell 2
      have e3 := hxx.cell 3
      have e4 := hxx.cell 4
      have e5 := hxx.cell 5
      have el := hxx.lt
      simp only [List.getElem?_toArray, List.getElem?_cons_zero, List.getElem?_cons_succ] at e0 e1 e2 e3 e4 e5
      have HXE2 : Hid (H = if num < -1000000000000000 ∨ 1000000000000000 < num then 1 else if 5000 < words.size then 2 else if V = false then 3 else 0) := Lib.hid (by rw [HXE1.out, if_neg (by simp)])
      have HM3 := Lib.hid (HM2.out.trans HM.out)
      have HX3 := Lib.hid hxx
      clear HXE1 HIU H0 hxx hlt hk HM2 HM HX2
      go_wp2_with fail
      refine (in_v _ _ _ _).mono ?_
      rintro e w2 ⟨rfl, rfl⟩
      by_cases q1 : num < -1000000000000000 ∨ 1000000000000000 < num
      · rw [show (decide (-1000000000000000 ≤ num) && decide (num ≤ 1000000000000000)) = false by simp; omega]
        have HE : Hid (F = 1) := Lib.hid (by rw [HF.out, HXE2.out, if_pos q1]; simp [orF])
        go_wp2_with fail
        go_ret
        exact ⟨ret_int HE.out.symm, HM3.out⟩
      rw [show (decide (-1000000000000000 ≤ num) && decide (num ≤ 1000000000000000)) = true by simp; omega]
      have HXE3 : Hid (H = if 5000 < words.size then 2 else if V = false then 3 else 0) := Lib.hid (by rw [HXE2.out, if_neg q1])
      clear q1 HXE2
      by_cases q1 : 5000 < words.size
      · have hg : (5000 : Int) < words.size := by omega
        have HE : Hid (F = 2) := Lib.hid (by rw [HF.out, HXE3.out, if_pos q1]; simp [orF])
        go_wp2_with fail
        go_ret
        exact ⟨ret_int HE.out.symm, HM3.out⟩
      have hg : ¬ (5000 : Int) < words.size := by omega
      have HXE4 : Hid (H = if V = false then 3 else 0) := Lib.hid (by rw [HXE3.out, if_neg q1])
      clear q1 HXE3
      go_wp2_with fail
      refine (hvl _ (HU.out.new HM3.out)).mono ?_
      clear hvl
      rintro e w4 ⟨rfl, m4⟩
      have HX4 := Lib.hid (HX3.out.mod m4 (fun e => e))
      have HM4 := Lib.hid (HM3.out.trans m4)
      clear e0 e1 e2 e3 e4 e5 el
      have hxx := HX4.out
      have e0 := hxx.cell 0
      have e1 := hxx.cell 1
      have e2 := hxx.cell 2
      have e3 := hxx.cell 3
      have e4 := hxx.cell 4
      have e5 := hxx.cell 5
      have el := hxx.lt
      simp only [List.getElem?_toArray, List.getElem?_cons_zero, List.getElem?_cons_succ] at e0 e1 e2 e3 e4 e5
      clear HX3 HM3 m4 hg hws
      cases V with
      | false =>
        have HE : Hid (F = 3) := Lib.hid (by rw [HF.out, HXE4.out]; simp [orF])
        go_wp2_with fail
        go_ret
        exact ⟨ret_int HE.out.symm, HM4.out⟩
      | true =>
      have HF2 : Hid (F = namesF (v.mem.map (·.1))) := Lib.hid (by rw [HF.out, HXE4.out]; simp [orF])
      have HZ4 : Hid (xb + 1 ≤ w4.heap.size) := Lib.hid hxx.lt
      clear HF HXE4
      go_wp2_with fail
      clear e0 e1 e2 e3 e4 e5 el hxx
      go_loopw [6, 64] (fun t i wr => ∃ (j c : Nat) (A : Option Addr), j ≤ mn ∧ i = .int .i64 j ∧ t = .slice A j c ∧ Hid (Own wr (xb + 1) 9 1 strE A j c ((v.mem.map (·.1)).take j)) ∧ Hid (New w wr) ∧ Hid (xb + 1 ≤ wr.heap.size)) (fun _ i _ => mn - (intOf i).toNat)
      case atStart => exact ⟨0, 0, none, Nat.zero_le _, rfl, rfl, Lib.hid (by simpa using Own.nil), HM4, HZ4⟩
      case round =>
        rename World => wq
        obtain ⟨j, c, A, hj, rfl, rfl, HO, HM, HB⟩ := hrel
        by_cases hlt2 : j < mn
        · have hjl : j < v.mem.length := by have := HMN.out; omega
          have hT := HT.out.new HM.out
          obtain ⟨g, o, y, hA, hgl, htb, -, hcn, hc, -⟩ := hT.member hjl
          simp only at hA
          subst hA
          have HTK : Hid ((v.mem.map (·.1)).take (j + 1) = (v.mem.map (·.1)).take j ++ [v.mem[j].1]) := Lib.hid (by rw [List.take_succ_eq_append_getElem (by simpa using hjl)]; simp)
          obtain ⟨yk, yf, yn, yw, yla, yln, ylc, yma, ymn, ymc⟩ := y
          have c0 := hc 0 (by omega)
          have c1 := hc 1 (by omega)
          have c2 := hc 2 (by omega)
          have c3 := hc 3 (by omega)
          have c4 := hc 4 (by omega)
          have c5 := hc 5 (by omega)
          simp only [VA.enc, Nat.add_zero, Nat.zero_add] at c0 c1 c2 c3 c4 c5
          generalize v.mem[j].1 = nm at *
          have hb1 : (0 : Int) ≤ j := by omega
          have hb2 : (j : Int) < mn := by omega
          have hmx := Blk.new wq 49 #[.string nm, .int .i64 yk, .bool yf, .int .i64 yn, .string yw, .slice yla yln ylc, .slice yma ymn ymc]
          have hma : New wq (wq.alloc (.cells #[.string nm, .int .i64 yk, .bool yf, .int .i64 yn, .string yw, .slice yla yln ylc, .slice yma ymn ymc] 49)) := (Mod.refl _ _).alloc _
          clear hT hc htb
          go_upto_region 20 with (fail)
          generalize wq.alloc (.cells #[.string nm, .int .i64 yk, .bool yf, .int .i64 yn, .string yw, .slice yla yln ylc, .slice yma ymn ymc] 49) = wm at *
          have own6 := HO.out.new hma
          have hzm := hma.size
          generalize wq.heap.size = mb at *
          have n0 := hmx.cell 0
          have nl := hmx.lt
          simp only [List.getElem?_toArray, List.getElem?_cons_zero] at n0
          have HM6 := Lib.hid (HM.out.trans hma)
          have HZ : Hid (xb + 1 ≤ (wm.alloc (.cells #[.string nm] 9)).heap.size) := Lib.hid (by have := HB.out; simp; omega)
          have ownA := own6.alloc (.cells #[.string nm] 9)
          have blkA : Blk (wm.alloc (.cells #[.string nm] 9)) wm.heap.size 9 (encL 1 strE nm).toArray := Blk.new _ _ _
          clear hmx hma own6 c0 c1 c2 c3 c4 c5 hcn
          go_wp2_with (at_builtin; refine wpList_push rfl _ _ _ rfl 16 Tryz.underlying75 einfo_string rfl ownA nm wm.heap.size rfl blkA (fun j hj => rfl) (by omega) (by omega) HZ.out ?_; intro g9 cap9 w9 own9 hm9 hat9 hlt9)
          have hmw : New w w9 := Own.push_mod' ownA (HM6.out.alloc _) hm9 (by have := HXB.out; omega)
          have hz9 := hm9.size
          refine ⟨⟨j + 1, cap9, some ⟨g9, 0, none⟩, by omega, by go_num, rfl, Lib.hid ?_, Lib.hid hmw, Lib.hid (Nat.le_trans HZ.out hz9)⟩, by simp [intOf]; omega⟩
          rw [HTK.out]
          exact own9
        · obtain rfl : j = mn := by omega
          have hO := HO.out
          rw [List.take_of_length_le (by have := HMN.out; simp; omega)] at hO
          have hnf := namesFault_v A j c (v.mem.map (·.1)) wq hO.sl hlb2 (fun s hs => by
            rw [List.mem_map] at hs
            obtain ⟨p, hp, rfl⟩ := hs
            obtain ⟨i, hi, rfl⟩ := List.mem_iff_getElem.1 hp
            have := (HWMB.out i hi).2
            omega) (HU.out.new HM.out)
          generalize namesF (v.mem.map (·.1)) = nf at *
          clear hO HO
          go_wp2_with fail
          refine hnf.mono ?_
          clear hnf
          rintro e w5 ⟨rfl, m5⟩
          go_wp2_with fail
          go_ret
          exact ⟨ret_int HF2.out.symm, HM.out.trans m5⟩

end Go.Proofs.YtahofcopedlenaaGreatDoor
