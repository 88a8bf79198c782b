/- Several texts in one. (1) slices.Clone of rows of values and of members. (printed by mkvalclone.py) Conditions: at most 200000 of them. (2) What is wrong with a value itself: the reference's ownFault. Conditions: the value stands in memory as a tree; the library's tables lie as they should. (3) How large a value is: the reference's. Conditions: the value stands in memory as a tree. (4) cmp.Or: the first that is not nought. No conditions. -/
import Derived.Test.YtjmnkdkdjnmejaaGreatDoorVal1Grp
import Derived.Test.YtjmnkdkdjnmejaaGreatDoorVal3Grp
import Derived.Test.YtjmnkdkdjnmejaaGreatDoorBaseGrp

namespace Go.Proofs.YtjmnkdkdjnmejaaGreatDoor
open Go.RowKit
set_option linter.unusedVariables false
set_option linter.unusedSimpArgs false

theorem append_zero {P : Program} {t e : TypeId} (ht : P.underlying t = some (.slice e)) {i : TypeInfo} (hi : P.info? e = some i) (a b : Addr) (c : Nat) (ty : TypeId) (w : World) :
    (Builtin.append_ #[t, t] ty #[.slice (some a) 0 0, .slice (some b) 0 c]).run P w = .ok (.slice (some a) 0 0) w := by
  have hl := run_loadCells_list (P := P) w b [] (by simp)
  simp at hl
  simp [Builtin.append_, run_underlying ht, sizeOf, typeInfo, hi, Builtin.lenOf, Builtin.firstCells, hl, storeCells]
theorem wpList_append_by2 {P : Program} {w w' : World} {ops : Array Oper} {rest : List Oper} {o : Oper} {a : Act} {Q : Exit → Act → World → Prop} (hgd : o.guard = none) (s x : Operand) (t t2 : TypeId)
    (ho : o.op = .call { callee := .builtin .append, args := #[s, x], argTypes := #[t, t2] }) {v1 v2 v : Value} (hs : a.eval s = v1) (hx : a.eval x = v2) (hr : ∀ ty, (Builtin.append_ #[t, t2] ty #[v1, v2]).run P w = .ok v w')
    (h : wpList P ops Q rest (a.put o.dst v) w') : wpList P ops Q (o :: rest) a w := by
  refine wpList_plain hgd fun K hK => ?_
  unfold Oper.wp execOp
  simp only [ho, resolve, invoke, builtin, Sem.run_bind, Sem.run_pure, Result.andThen_ok, List.map_toArray, List.map_cons, List.map_nil, hs, hx, hr]
  exact hK _ _ h
/-- what append does to a row of the call's own -/
theorem Own.push_mod' {α : Type} {a w w' : World} {B : Nat} {t : TypeId} {sz : Nat} {enc : α → Nat → Value} {A : Option Addr} {n c : Nat} {xs : List α} (h : Own w B t sz enc A n c xs) (hm : New a w) (hg : Mod (fun k => blkOf A = some k) w w') (hB : a.heap.size ≤ B) : New a w' :=
  hm.step hg (fun i hi e => by
    rcases h.blk with ⟨h1, _⟩ | ⟨g, h1, h2, _⟩
    · rw [h1] at e; cases e
    · rw [h1] at e; injection e with e; simp only at e; omega)

def RCloneVA (w : World) (n : Nat) (ls : List VA) (e : Ending) (w' : World) : Prop := ∃ A c, e = .returned (.slice A n c) ∧ Own w' w.heap.size 30 6 VA.enc A n c ls ∧ New w w'
set_option maxHeartbeats 1000000 in
theorem cloneVA (ls : List VA) (A : Option Addr) (n c : Nat) (w : World) (hl : Sl w 30 6 VA.enc A n ls) (hn : n ≤ 200000) :
    Calls Tryz.prog 84 #[.slice A n c] w (RCloneVA w n ls) := by
  have hown : Own (w.alloc (.cells #[] 30)) w.heap.size 30 6 VA.enc (some ⟨w.heap.size, 0, none⟩) 0 0 ([] : List VA) := Own.of_blk (xs := []) (Blk.new _ _ _) (Nat.le_refl _) rfl (by omega)
  by_cases h0 : 0 < n
  · obtain ⟨g, o, rfl, _⟩ := hl.2 h0
    have hq := fun w : World => Lib.run_eql_slice_nil (P := Tryz.prog) w 27 30 (some ⟨g, o, none⟩) n c 0 0 Tryz.underlying27
    simp at hq
    have hm0 : New w (w.alloc (.cells #[] 30)) := (Mod.refl _ _).alloc _
    go_enter Tryz.func84, Tryz.ntmps84
    go_wp2_with (at_builtin; refine wpList_pushAll rfl _ _ _ rfl 88 Tryz.underlying27 einfo_val rfl hown ls g o n c rfl (hl.new hm0) h0 (fun y _ j hj => VA.one y j hj) (by omega) (by omega) (by simp) ?_; intro g1 cap w1 hown1 hm1 hat hlt1)
    simp only [Nat.zero_add, List.nil_append] at hown1
    go_ret
    exact ⟨_, _, by simp, hown1, hown.push_mod' hm0 hm1 (Nat.le_refl _)⟩
  · obtain rfl : n = 0 := by omega
    obtain rfl : ls = [] := List.eq_nil_of_length_eq_zero hl.1
    have hq := fun w : World => Lib.run_eql_slice_nil (P := Tryz.prog) w 27 30 A 0 c 0 0 Tryz.underlying27
    clear hl
    cases A with
    | none =>
      simp at hq
      go_enter Tryz.func84, Tryz.ntmps84
      go_wp2_with fail
      go_ret
      exact ⟨none, 0, rfl, Own.nil, Mod.refl _ _⟩
    | some a =>
      simp at hq
      obtain ⟨i, z, hi0, _⟩ := einfo_val
      have HO := hId hown
      have hap := fun ty => append_zero (P := Tryz.prog) Tryz.underlying27 hi0 ⟨w.heap.size, 0, none⟩ a c ty (w.alloc (.cells #[] 30))
      clear hown
      go_enter Tryz.func84, Tryz.ntmps84
      go_wp2_with (at_builtin; refine wpList_append_by2 rfl _ _ 27 27 rfl rfl rfl hap ?_)
      go_ret
      exact ⟨_, _, rfl, HO.out, (Mod.refl _ _).alloc _⟩


theorem idle_list (kind : Int) (u : List Bool) (hl : u.length = 5) :
    (∀ i (h : i < u.length), u[i] = true → kind = i + 1) ↔ ((decide (kind = 1) || !u[0]) && (decide (kind = 2) || !u[1]) && (decide (kind = 3) || !u[2]) && (decide (kind = 4) || !u[3]) && (decide (kind = 5) || !u[4])) = true := by
  match u, hl with
  | [a, b, c, d, e], _ =>
    simp only [lgz, lgs, Bool.and_eq_true, Bool.or_eq_true, decide_eq_true_eq, Bool.not_eq_true']
    constructor
    · intro h
      refine ⟨⟨⟨⟨?_, ?_⟩, ?_⟩, ?_⟩, ?_⟩
      · have := h 0 (by simp); simp at this; cases a <;> simp_all
      · have := h 1 (by simp); simp at this; cases b <;> simp_all
      · have := h 2 (by simp); simp at this; cases c <;> simp_all
      · have := h 3 (by simp); simp at this; cases d <;> simp_all
      · have := h 4 (by simp); simp at this; cases e <;> simp_all
    · rintro ⟨⟨⟨⟨h0, h1⟩, h2⟩, h3⟩, h4⟩ i hi hu
      simp only [List.length_cons, List.length_nil] at hi
      obtain rfl | rfl | rfl | rfl | rfl : i = 0 ∨ i = 1 ∨ i = 2 ∨ i = 3 ∨ i = 4 := by omega
      all_goals simp only [lgz, lgs] at hu
      · subst hu; simp at h0; omega
      · subst hu; simp at h1; omega
      · subst hu; simp at h2; omega
      · subst hu; simp at h3; omega
      · subst hu; simp at h4; omega
def usedX (x : VA) : List Bool := [x.flag, x.num != 0, !x.words.toList.isEmpty, decide (0 < x.ln), decide (0 < x.mn)]
theorem idle_used (x : VA) : idleX x = true ↔ ∀ i (h : i < (usedX x).length), (usedX x)[i] = true → x.kind = i + 1 := by
  rw [idle_list x.kind (usedX x) rfl]
  have h1 : (x.num != 0) = !decide (x.num = 0) := by
    rw [Bool.eq_iff_iff]; simp
  have h2 : decide (0 < x.ln) = !decide (x.ln = 0) := by
    rw [Bool.eq_iff_iff]; simp; omega
  have h3 : decide (0 < x.mn) = !decide (x.mn = 0) := by
    rw [Bool.eq_iff_iff]; simp; omega
  have h4 : x.words.toList.isEmpty = decide (x.words = ⟨#[]⟩) := by
    rw [← str_nil']
    cases x.words.toList <;> rfl
  simp only [usedX, idleX, lgz, lgs, h1, h2, h3, h4, Bool.not_not]

set_option maxRecDepth 100000 in
set_option maxHeartbeats 1500000 in
theorem ownFault_v (d : Nat) (x : VA) (v : VT) (G : Nat → Prop) (w : World) (ht : Tree w G (d + 1) x v) (hW : Fit (d + 1) v) (hU : Utf8T w) :
    Calls Tryz.prog 85 #[x.val] w fun e w' => e = .returned (.int .i64 (ownF v)) ∧ New w w' := by
  have hwp := hW.parts
  have HWMB := hId (fun k (h : k < v.mem.length) => hW.member h)
  have hfl := ht.fields
  have hhd := ht.head
  have HT := hId ht
  have HU := hId hU
  have hF : ownF v = orF (headF v) (namesF (v.mem.map (·.1))) := rfl
  rw [hhd] at hF
  have hws : v.words.size ≤ 1000000 := by omega
  have hlb : v.list.length ≤ 200000 ∧ v.mem.length ≤ 200000 := by omega
  obtain ⟨hlb1, hlb2⟩ := hlb
  have HIU := hId (idle_used x)
  obtain ⟨kind, flag, num, words, la, ln, lc, ma, mn, mc⟩ := x
  obtain ⟨-, -, -, hwd, hln, hmn⟩ := hfl
  simp only at hln hmn hwd
  rw [hwd] at hws
  have HF := hId hF
  have HMN := hId hmn
  have hvl := fun W (hW : Utf8T W) => valid_v words W hws hW
  have hXE : headX ⟨kind, flag, num, words, la, ln, lc, ma, mn, mc⟩ = if kind < 0 ∨ 5 < kind then 4 else if idleX ⟨kind, flag, num, words, la, ln, lc, ma, mn, mc⟩ = false then 3 else if num < -1000000000000000 ∨ 1000000000000000 < num then 1 else if 5000 < words.size then 2 else if validW words = false then 3 else 0 := rfl
  have HXE := hId hXE
  rw [hln] at hlb1
  rw [hmn] at hlb2
  have HUE : Hid (usedX ⟨kind, flag, num, words, la, ln, lc, ma, mn, mc⟩ = [flag, num != 0, !words.toList.isEmpty, decide (0 < ln), decide (0 < mn)]) := hId rfl
  generalize usedX ⟨kind, flag, num, words, la, ln, lc, ma, mn, mc⟩ = us at *
  clear hwp hW hF hhd ht hU hln hmn hwd hXE
  generalize ownF v = F at *
  generalize headX ⟨kind, flag, num, words, la, ln, lc, ma, mn, mc⟩ = H at *
  generalize idleX ⟨kind, flag, num, words, la, ln, lc, ma, mn, mc⟩ = I at *
  generalize validW words = V at *
  have hx := Blk.new w 30 #[.int .i64 kind, .bool flag, .int .i64 num, .string words, .slice la ln lc, .slice ma mn mc]
  have hm1 : New w (w.alloc (.cells #[.int .i64 kind, .bool flag, .int .i64 num, .string words, .slice la ln lc, .slice ma mn mc] 30)) := (Mod.refl _ _).alloc _
  go_enter Tryz.func85, Tryz.ntmps85
  go_upto_region 1 with (fail)
  generalize w.alloc (.cells #[.int .i64 kind, .bool flag, .int .i64 num, .string words, .slice la ln lc, .slice ma mn mc] 30) = w1 at *
  have HBW : Hid (w.heap.size + 1 ≤ w1.heap.size) := hId hx.lt
  generalize hxb : w.heap.size = xb at *
  have HXB := hId hxb
  have HX := hId hx
  have HM1 := hId hm1
  have hxx := hx
  clear hx hm1 hxb
  have e0 := hxx.cell 0
  have e1 := hxx.cell 1
  have e2 := hxx.cell 2
  have e3 := hxx.cell 3
  have e4 := hxx.cell 4
  have e5 := hxx.cell 5
  have el := hxx.lt
  simp only [lqt, lqz, lqs] at e0 e1 e2 e3 e4 e5
  go_wp2_with fail
  refine (in_v _ _ _ _).mono ?_
  rintro e w2 ⟨rfl, rfl⟩
  by_cases q1 : kind < 0 ∨ 5 < kind
  · rw [show (decide (0 ≤ kind) && decide (kind ≤ 5)) = false by simp; omega]
    have HE : Hid (F = 4) := hId (by rw [HF.out, HXE.out, if_pos q1]; simp [orF])
    go_wp2_with fail
    go_ret
    exact ⟨ret_int HE.out.symm, HM1.out⟩
  rw [show (decide (0 ≤ kind) && decide (kind ≤ 5)) = true by simp; omega]
  have HXE1 : Hid (H = if I = false then 3 else if num < -1000000000000000 ∨ 1000000000000000 < num then 1 else if 5000 < words.size then 2 else if V = false then 3 else 0) := hId (by rw [HXE.out, if_neg q1])
  have hk5 : 0 ≤ kind ∧ kind ≤ 5 := by omega
  obtain ⟨hk50, hk51⟩ := hk5
  clear q1 HXE
  have hbu := Blk.new w1 4 #[.bool flag, .bool (num != 0), .bool (!words.toList.isEmpty), .bool (decide (0 < ln)), .bool (decide (0 < mn))]
  have hmu : New w1 (w1.alloc (.cells #[.bool flag, .bool (num != 0), .bool (!words.toList.isEmpty), .bool (decide (0 < ln)), .bool (decide (0 < mn))] 4)) := (Mod.refl _ _).alloc _
  have hub : #[Value.bool flag, .bool (num != 0), .bool (!words.toList.isEmpty), .bool (decide (0 < ln)), .bool (decide (0 < mn))] = (us.map Value.bool).toArray := by rw [HUE.out]; rfl
  have HUB := hId hub
  clear hub
  have HUL : Hid (us.length = 5) := hId (by rw [HUE.out]; rfl)
  go_upto_region 4 with (fail)
  generalize w1.alloc (.cells #[.bool flag, .bool (num != 0), .bool (!words.toList.isEmpty), .bool (decide (0 < ln)), .bool (decide (0 < mn))] 4) = w2 at *
  generalize w1.heap.size = ub at *
  have HX2 := hId (HX.out.mod hmu (fun e => e))
  have HM2 := hId (HM1.out.trans hmu)
  have HBU : Hid (Blk w2 ub 4 (us.map Value.bool).toArray) := hId (by rw [← HUB.out]; exact hbu)
  clear hbu hmu HUB HUE HX HM1
  clear e0 e1 e2 e3 e4 e5 el hxx
  go_wp2_with fail
  go_loopw [32] (fun i wr => ∃ k : Nat, k ≤ 5 ∧ i = .int .i64 k ∧ Hid (∀ i (h : i < us.length), i < k → us[i] = true → kind = i + 1) ∧ Hid (New w2 wr)) (fun i _ => 5 - (intOf i).toNat)
  case atStart => exact ⟨0, Nat.zero_le _, rfl, hId (fun i h hq => absurd hq (by omega)), hId (Mod.refl _ _)⟩
  case round =>
    rename World => wr
    obtain ⟨k, hk, rfl, H0, HM⟩ := hrel
    have hxx := HX2.out.mod HM.out (fun e => e)
    by_cases hlt : k < 5
    · have hku : k < us.length := by have := HUL.out; omega
      have hbk := (HBU.out.mod HM.out (fun e => e)).cell k
      have hbl := (HBU.out.mod HM.out (fun e => e)).lt
      rw [show (us.map Value.bool).toArray[k]? = some (.bool us[k]) by simp [hku]] at hbk
      have HSTOP : Hid (us[k] = true → kind ≠ (k : Int) + 1 → F = 3) := hId (fun h1 h2 => by
        have hI : I = false := by
          cases hI : I with
          | false => rfl
          | true => exact absurd (HIU.out.1 hI k hku h1) (by simpa using h2)
        rw [HF.out, HXE1.out, hI]; simp [orF])
      have HNEXT : Hid ((us[k] = true → kind = (k : Int) + 1) → ∀ i (h : i < us.length), i < k + 1 → us[i] = true → kind = i + 1) := hId (fun h i hi hik hu => by
        by_cases e : i = k
        · subst e; exact h hu
        · exact H0.out i hi (by omega) hu)
      generalize us[k] = u at *
      have e0 := hxx.cell 0
      have e1 := hxx.cell 1
      have e2 := hxx.cell 2
      have e3 := hxx.cell 3
      have e4 := hxx.cell 4
      have e5 := hxx.cell 5
      have el := hxx.lt
      simp only [lqt, lqz, lqs] at e0 e1 e2 e3 e4 e5
      have hb1 : (0 : Int) ≤ k := by omega
      have hb2 : (k : Int) < 5 := by omega
      clear hxx
      cases u with
      | false =>
        have HG := hId (HNEXT.out (fun h => by cases h))
        go_wp2_with fail
        go_roundw
        case rel => exact ⟨k + 1, by omega, by go_num, HG, HM⟩
        case measure => simp [intOf]; omega
      | true =>
        by_cases hkk : kind = (k : Int) + 1
        · have hkb : (kind != (k : Int) + 1) = false := by simpa using hkk
          have HG := hId (HNEXT.out (fun _ => hkk))
          clear hkk
          go_wp2_with fail
          go_roundw
          case rel => exact ⟨k + 1, by omega, by go_num, HG, HM⟩
          case measure => simp [intOf]; omega
        · have hkb : (kind != (k : Int) + 1) = true := by simpa using hkk
          have HFF := hId (HSTOP.out rfl hkk)
          clear hkk
          go_wp2_with fail
          go_ret
          exact ⟨ret_int HFF.out.symm, HM2.out.trans HM.out⟩
    · obtain rfl : k = 5 := by omega
      have hI : I = true := HIU.out.2 (fun i hi hu => H0.out i hi (by have := HUL.out; omega) hu)
      subst hI
      have e0 := hxx.cell 0
      have e1 := hxx.cell 1
      have e2 := hxx.cell 2
      have e3 := hxx.cell 3
      have e4 := hxx.cell 4
      have e5 := hxx.cell 5
      have el := hxx.lt
      simp only [lqt, lqz, lqs] at e0 e1 e2 e3 e4 e5
      have HXE2 : Hid (H = if num < -1000000000000000 ∨ 1000000000000000 < num then 1 else if 5000 < words.size then 2 else if V = false then 3 else 0) := hId (by rw [HXE1.out, if_neg (by simp)])
      have HM3 := hId (HM2.out.trans HM.out)
      have HX3 := hId hxx
      clear HXE1 HIU H0 hxx hlt hk HM2 HM HX2
      go_wp2_with fail
      refine (in_v _ _ _ _).mono ?_
      rintro e w2 ⟨rfl, rfl⟩
      by_cases q1 : num < -1000000000000000 ∨ 1000000000000000 < num
      · rw [show (decide (-1000000000000000 ≤ num) && decide (num ≤ 1000000000000000)) = false by simp; omega]
        have HE : Hid (F = 1) := hId (by rw [HF.out, HXE2.out, if_pos q1]; simp [orF])
        go_wp2_with fail
        go_ret
        exact ⟨ret_int HE.out.symm, HM3.out⟩
      rw [show (decide (-1000000000000000 ≤ num) && decide (num ≤ 1000000000000000)) = true by simp; omega]
      have HXE3 : Hid (H = if 5000 < words.size then 2 else if V = false then 3 else 0) := hId (by rw [HXE2.out, if_neg q1])
      clear q1 HXE2
      by_cases q1 : 5000 < words.size
      · have hg : (5000 : Int) < words.size := by omega
        have HE : Hid (F = 2) := hId (by rw [HF.out, HXE3.out, if_pos q1]; simp [orF])
        go_wp2_with fail
        go_ret
        exact ⟨ret_int HE.out.symm, HM3.out⟩
      have hg : ¬ (5000 : Int) < words.size := by omega
      have HXE4 : Hid (H = if V = false then 3 else 0) := hId (by rw [HXE3.out, if_neg q1])
      clear q1 HXE3
      go_wp2_with fail
      refine (hvl _ (HU.out.new HM3.out)).mono ?_
      clear hvl
      rintro e w4 ⟨rfl, m4⟩
      have HX4 := hId (HX3.out.mod m4 (fun e => e))
      have HM4 := hId (HM3.out.trans m4)
      clear e0 e1 e2 e3 e4 e5 el
      have hxx := HX4.out
      have e0 := hxx.cell 0
      have e1 := hxx.cell 1
      have e2 := hxx.cell 2
      have e3 := hxx.cell 3
      have e4 := hxx.cell 4
      have e5 := hxx.cell 5
      have el := hxx.lt
      simp only [lqt, lqz, lqs] at e0 e1 e2 e3 e4 e5
      clear HX3 HM3 m4 hg hws
      cases V with
      | false =>
        have HE : Hid (F = 3) := hId (by rw [HF.out, HXE4.out]; simp [orF])
        go_wp2_with fail
        go_ret
        exact ⟨ret_int HE.out.symm, HM4.out⟩
      | true =>
      have HF2 : Hid (F = namesF (v.mem.map (·.1))) := hId (by rw [HF.out, HXE4.out]; simp [orF])
      have HZ4 : Hid (xb + 1 ≤ w4.heap.size) := hId hxx.lt
      clear HF HXE4
      go_wp2_with fail
      clear e0 e1 e2 e3 e4 e5 el hxx
      go_loopw [6, 64] (fun t i wr => ∃ (j c : Nat) (A : Option Addr), j ≤ mn ∧ i = .int .i64 j ∧ t = .slice A j c ∧ Hid (Own wr (xb + 1) 9 1 strE A j c ((v.mem.map (·.1)).take j)) ∧ Hid (New w wr) ∧ Hid (xb + 1 ≤ wr.heap.size)) (fun _ i _ => mn - (intOf i).toNat)
      case atStart => exact ⟨0, 0, none, Nat.zero_le _, rfl, rfl, hId (by simpa using Own.nil), HM4, HZ4⟩
      case round =>
        rename World => wq
        obtain ⟨j, c, A, hj, rfl, rfl, HO, HM, HB⟩ := hrel
        by_cases hlt2 : j < mn
        · have hjl : j < v.mem.length := by have := HMN.out; omega
          have hT := HT.out.new HM.out
          obtain ⟨g, o, y, hA, hgl, htb, -, hcn, hc, -⟩ := hT.member hjl
          simp only at hA
          subst hA
          have HTK : Hid ((v.mem.map (·.1)).take (j + 1) = (v.mem.map (·.1)).take j ++ [v.mem[j].1]) := hId (by rw [List.take_succ_eq_append_getElem (by simpa using hjl)]; simp)
          obtain ⟨yk, yf, yn, yw, yla, yln, ylc, yma, ymn, ymc⟩ := y
          have c0 := hc 0 (by omega)
          have c1 := hc 1 (by omega)
          have c2 := hc 2 (by omega)
          have c3 := hc 3 (by omega)
          have c4 := hc 4 (by omega)
          have c5 := hc 5 (by omega)
          simp only [VA.enc, Nat.add_zero, Nat.zero_add] at c0 c1 c2 c3 c4 c5
          generalize v.mem[j].1 = nm at *
          have hb1 : (0 : Int) ≤ j := by omega
          have hb2 : (j : Int) < mn := by omega
          have hmx := Blk.new wq 60 #[.string nm, .int .i64 yk, .bool yf, .int .i64 yn, .string yw, .slice yla yln ylc, .slice yma ymn ymc]
          have hma : New wq (wq.alloc (.cells #[.string nm, .int .i64 yk, .bool yf, .int .i64 yn, .string yw, .slice yla yln ylc, .slice yma ymn ymc] 60)) := (Mod.refl _ _).alloc _
          clear hT hc htb
          go_upto_region 20 with (fail)
          generalize wq.alloc (.cells #[.string nm, .int .i64 yk, .bool yf, .int .i64 yn, .string yw, .slice yla yln ylc, .slice yma ymn ymc] 60) = wm at *
          have own6 := HO.out.new hma
          have hzm := hma.size
          generalize wq.heap.size = mb at *
          have n0 := hmx.cell 0
          have nl := hmx.lt
          simp only [lqt, lqz] at n0
          have HM6 := hId (HM.out.trans hma)
          have HZ : Hid (xb + 1 ≤ (wm.alloc (.cells #[.string nm] 9)).heap.size) := hId (by have := HB.out; simp; omega)
          have ownA := own6.alloc (.cells #[.string nm] 9)
          have blkA : Blk (wm.alloc (.cells #[.string nm] 9)) wm.heap.size 9 (encL 1 strE nm).toArray := Blk.new _ _ _
          clear hmx hma own6 c0 c1 c2 c3 c4 c5 hcn
          go_wp2_with (at_builtin; refine wpList_push rfl _ _ _ rfl 16 Tryz.underlying65 einfo_string rfl ownA nm wm.heap.size rfl blkA (fun j hj => rfl) (by omega) (by omega) HZ.out ?_; intro g9 cap9 w9 own9 hm9 hat9 hlt9)
          have hmw : New w w9 := Own.push_mod' ownA (HM6.out.alloc _) hm9 (by have := HXB.out; omega)
          have hz9 := hm9.size
          refine ⟨⟨j + 1, cap9, some ⟨g9, 0, none⟩, by omega, by go_num, rfl, hId ?_, hId hmw, hId (Nat.le_trans HZ.out hz9)⟩, by simp [intOf]; omega⟩
          rw [HTK.out]
          exact own9
        · obtain rfl : j = mn := by omega
          have hO := HO.out
          rw [List.take_of_length_le (by have := HMN.out; simp; omega)] at hO
          have hnf := namesFault_v A j c (v.mem.map (·.1)) wq hO.sl hlb2 (fun s hs => by
            rw [List.mem_map] at hs
            obtain ⟨p, hp, rfl⟩ := hs
            obtain ⟨i, hi, rfl⟩ := List.mem_iff_getElem.1 hp
            have := (HWMB.out i hi).2
            omega) (HU.out.new HM.out)
          generalize namesF (v.mem.map (·.1)) = nf at *
          clear hO HO
          go_wp2_with fail
          refine hnf.mono ?_
          clear hnf
          rintro e w5 ⟨rfl, m5⟩
          go_wp2_with fail
          go_ret
          exact ⟨ret_int HF2.out.symm, HM.out.trans m5⟩


/-- all that is in a value, in one row -/
theorem Tree.kids {w : World} {G : Nat → Prop} {d : Nat} {x : VA} {v : VT} (h : Tree w G (d + 1) x v) :
    ∃ (xs : List VA) (ms : List MA), Sl w 30 6 VA.enc x.la x.ln xs ∧ Sl w 60 7 MA.enc x.ma x.mn ms ∧ (xs ++ ms.map (·.v)).length = v.kids.length ∧
      ∀ i (h : i < (xs ++ ms.map (·.v)).length) (h' : i < v.kids.length), Tree w G d (xs ++ ms.map (·.v))[i] v.kids[i] := by
  obtain ⟨vs, ps, rfl, ⟨xs, h1, h2, h3⟩, ⟨ms, h4, h5, h6⟩⟩ := h
  refine ⟨xs, ms, h1.sl, h4.sl, by simp [VT.kids, VT.list, VT.mem, h2, h5], fun i hi hi' => ?_⟩
  have hk : (VT.mk x.kind x.flag x.num x.words vs ps).kids = vs ++ ps.map (·.2) := rfl
  simp only [hk] at hi' ⊢
  by_cases hc : i < xs.length
  · rw [List.getElem_append_left hc, List.getElem_append_left (by omega)]
    exact h3 i hc (by omega)
  · rw [List.getElem_append_right (by omega), List.getElem_append_right (by omega)]
    simp only [List.length_append, List.length_map] at hi hi'
    simp only [List.getElem_map, h2]
    exact (h6 (i - vs.length) (by omega) (by omega)).2
theorem vMany_kids (d : Nat) (v : VT) : vMany (d + 1) v = 1 + (v.kids.map (vMany d)).sum := by
  simp only [vMany, VT.kids, List.map_append, List.sum_append, List.map_map]
  rfl
theorem vDeep_kids (d : Nat) (v : VT) : vDeep (d + 1) v = 1 + maxL (v.kids.map (vDeep d)) := by
  simp only [vDeep, VT.kids, List.map_append, maxL_append, List.map_map]
  rfl
set_option maxRecDepth 100000 in
set_option maxHeartbeats 4000000 in
theorem sizeOf_v (d : Nat) : ∀ (x : VA) (v : VT) (G : Nat → Prop) (w : World), Tree w G d x v → Fit d v → d ≤ 1000000 →
    Calls Tryz.prog 51 #[x.val] w fun e w' => e = .returned (.tuple #[.int .i64 (vMany d v : Nat), .int .i64 (vDeep d v : Nat)]) ∧ New w w' := by
  induction d with
  | zero => intro x v G w ht; exact ht.elim
  | succ d ih =>
    intro x v G w ht hW hd
    have hwp := hW.parts
    have hMW := Nat.le_trans (vMany_le (d + 1) v) hW.1
    have HWK := hId (fun i (h : i < v.kids.length) => hW.kid h)
    obtain ⟨xs, ms, hxs, hms, hKL, hKT⟩ := ht.kids
    obtain ⟨-, -, -, -, hln, hmn⟩ := ht.fields
    have HIH := hId ih
    have HMK := hId (vMany_kids d v)
    have HDK := hId (vDeep_kids d v)
    have hdd := vDeep_le (d + 1) v
    obtain ⟨kind, flag, num, words, la, ln, lc, ma, mn, mc⟩ := x
    simp only at hln hmn hxs hms
    have HXS := hId hxs
    have HMS := hId hms
    have hxl := hxs.1
    have hml := hms.1
    have hb1 : ln ≤ 200000 := by omega
    have hb2 : mn ≤ 200000 := by omega
    have hM : vMany (d + 1) v ≤ 1000000000 := by omega
    have hKn : v.kids.length = ln + mn := by rw [← hKL]; simp; omega
    have HKT := hId hKT
    have HKL := hId hKL
    have HXL := hId hxl
    have HML := hId hml
    have HKN := hId hKn
    clear hwp hMW hW ht hxs hms hln hmn ih hKT hKL hxl hml hKn
    generalize vMany (d + 1) v = M at *
    generalize vDeep (d + 1) v = D at *
    generalize v.kids = KV at *
    have hx := Blk.new w 30 #[.int .i64 kind, .bool flag, .int .i64 num, .string words, .slice la ln lc, .slice ma mn mc]
    have hm1 : New w (w.alloc (.cells #[.int .i64 kind, .bool flag, .int .i64 num, .string words, .slice la ln lc, .slice ma mn mc] 30)) := (Mod.refl _ _).alloc _
    go_enter Tryz.func51, Tryz.ntmps51
    go_upto_region 1 with (fail)
    generalize w.alloc (.cells #[.int .i64 kind, .bool flag, .int .i64 num, .string words, .slice la ln lc, .slice ma mn mc] 30) = w1 at *
    have hsz1 := hm1.size
    generalize hxb : w.heap.size = xb at *
    have e4 := hx.cell 4
    have el := hx.lt
    simp only [lqt, lqz, lqs] at e4
    have hcl := cloneVA xs la ln lc w1 (HXS.out.new hm1) hb1
    have HX := hId hx
    have HM1 := hId hm1
    clear hx hm1 hsz1
    go_wp2_with fail
    refine hcl.mono ?_
    clear hcl
    rintro e w2 ⟨A0, cc0, rfl, hown, m2⟩
    have hx2 := HX.out.mod m2 (fun e => e)
    clear e4 el
    have e5 := hx2.cell 5
    have el := hx2.lt
    simp only [lqt, lqz, lqs] at e5
    have HM2 := hId (HM1.out.trans m2)
    have HO2 := hId (hown.less (show xb + 1 ≤ w1.heap.size from HX.out.lt))
    have HB2 : Hid (xb + 1 ≤ w2.heap.size) := hId (by have := hx2.lt; omega)
    have HXB := hId hxb
    clear hown hx2 m2 hxb
    go_wp2_with fail
    go_loopw [4, 17] (fun t i wr => ∃ (j c : Nat) (A : Option Addr), j ≤ mn ∧ i = .int .i64 j ∧ t = .slice A (ln + j : Nat) c ∧ Hid (Own wr (xb + 1) 30 6 VA.enc A (ln + j) c (xs ++ (ms.take j).map (·.v))) ∧ Hid (New w wr) ∧ Hid (xb + 1 ≤ wr.heap.size)) (fun _ i _ => mn - (intOf i).toNat)
    case atStart => exact ⟨0, cc0, A0, Nat.zero_le _, rfl, by simp, hId (by simpa using HO2.out), HM2, HB2⟩
    case round =>
      rename World => wr
      obtain ⟨j, c, A, hj, rfl, rfl, HO, HM, HBW⟩ := hrel
      by_cases hlt : j < mn
      · have hjl : j < ms.length := by have := HML.out; omega
        obtain ⟨g, o, hA, htb, hcell⟩ := (HMS.out.new HM.out).2 (by omega)
        subst hA
        have hgl := htb.lt
        have hcn := hcell j hjl 0 (by omega)
        have hc := fun q (hq : q < 6) => hcell j hjl (q + 1) (by omega)
        have HTK : Hid ((ms.take (j + 1)).map (·.v) = (ms.take j).map (·.v) ++ [ms[j].v]) := hId (by rw [List.take_succ_eq_append_getElem hjl, List.map_append]; rfl)
        generalize ms[j] = m at *
        obtain ⟨nm, y⟩ := m
        simp only [MA.enc, Nat.add_zero] at hcn hc
        obtain ⟨yk, yf, yn, yw, yla, yln, ylc, yma, ymn, ymc⟩ := y
        have c0 := hc 0 (by omega)
        have c1 := hc 1 (by omega)
        have c2 := hc 2 (by omega)
        have c3 := hc 3 (by omega)
        have c4 := hc 4 (by omega)
        have c5 := hc 5 (by omega)
        simp only [VA.enc, Nat.zero_add] at c0 c1 c2 c3 c4 c5
        have hi1 : (0 : Int) ≤ j := by omega
        have hi2 : (j : Int) < mn := by omega
        have hmx := Blk.new wr 60 #[.string nm, .int .i64 yk, .bool yf, .int .i64 yn, .string yw, .slice yla yln ylc, .slice yma ymn ymc]
        have hma : New wr (wr.alloc (.cells #[.string nm, .int .i64 yk, .bool yf, .int .i64 yn, .string yw, .slice yla yln ylc, .slice yma ymn ymc] 60)) := (Mod.refl _ _).alloc _
        clear hcell hc htb
        go_upto_region 5 with (fail)
        generalize wr.alloc (.cells #[.string nm, .int .i64 yk, .bool yf, .int .i64 yn, .string yw, .slice yla yln ylc, .slice yma ymn ymc] 60) = wm at *
        have own6 := HO.out.new hma
        have hzm := hma.size
        generalize wr.heap.size = mb at *
        have n1 := hmx.cell 1
        have n2 := hmx.cell 2
        have n3 := hmx.cell 3
        have n4 := hmx.cell 4
        have n5 := hmx.cell 5
        have n6 := hmx.cell 6
        have nl := hmx.lt
        simp only [lqt, lqz, lqs] at n1 n2 n3 n4 n5 n6
        have HM6 := hId (HM.out.trans hma)
        have HZ : Hid (xb + 1 ≤ (wm.alloc (.cells #[.int .i64 yk, .bool yf, .int .i64 yn, .string yw, .slice yla yln ylc, .slice yma ymn ymc] 30)).heap.size) := hId (by have := HBW.out; simp; omega)
        have ownA := own6.alloc (.cells #[.int .i64 yk, .bool yf, .int .i64 yn, .string yw, .slice yla yln ylc, .slice yma ymn ymc] 30)
        have blkA : Blk (wm.alloc (.cells #[.int .i64 yk, .bool yf, .int .i64 yn, .string yw, .slice yla yln ylc, .slice yma ymn ymc] 30)) wm.heap.size 30 (encL 6 VA.enc ⟨yk, yf, yn, yw, yla, yln, ylc, yma, ymn, ymc⟩).toArray := Blk.new _ _ _
        clear hmx hma own6 c0 c1 c2 c3 c4 c5 hcn
        go_wp2_with (at_builtin; refine wpList_push rfl _ _ _ rfl 88 Tryz.underlying27 einfo_val rfl ownA ⟨yk, yf, yn, yw, yla, yln, ylc, yma, ymn, ymc⟩ wm.heap.size rfl blkA (fun j hj => VA.one _ j hj) (by omega) (by omega) HZ.out ?_; intro g9 cap9 w9 own9 hm9 hat9 hlt9)
        have hmw : New w w9 := Own.push_mod' ownA (HM6.out.alloc _) hm9 (by have := HXB.out; omega)
        have hz9 := hm9.size
        refine ⟨⟨j + 1, cap9, some ⟨g9, 0, none⟩, by omega, by go_num, rfl, hId ?_, hId hmw, hId (Nat.le_trans HZ.out hz9)⟩, by simp [intOf]; omega⟩
        rw [HTK.out, ← List.append_assoc]
        exact own9
      · obtain rfl : j = mn := by omega
        have hO := HO.out
        rw [List.take_of_length_le (by have := HML.out; omega)] at hO
        have HO3 := hId hO
        clear HO hO
        generalize xs ++ ms.map (·.v) = K at *
        have hkl : K.length = ln + j := HO3.out.1
        go_wp2_with fail
        go_loopw [2, 3, 29] (fun a b i wq => ∃ k : Nat, k ≤ ln + j ∧ i = .int .i64 k ∧ a = .int .i64 ((1 + ((KV.take k).map (vMany d)).sum : Nat) : Int) ∧ b = .int .i64 ((maxL ((KV.take k).map (vDeep d)) : Nat) : Int) ∧ Hid (New wr wq)) (fun _ _ i _ => ln + j - (intOf i).toNat)
        case atStart => exact ⟨0, Nat.zero_le _, rfl, by simp, by simp [maxL], hId (Mod.refl _ _)⟩
        case round =>
          rename World => wq
          obtain ⟨k, hk, rfl, rfl, rfl, HMQ⟩ := hrel
          by_cases hlt2 : k < ln + j
          · have hk1 : k < K.length := by omega
            have hk2 : k < KV.length := by have := HKN.out; omega
            obtain ⟨g, o, hA, htb, hcell⟩ := (HO3.out.new HMQ.out).sl.2 (by omega)
            subst hA
            have hgl := htb.lt
            have hc := fun q (hq : q < 6) => hcell k hk1 q hq
            have hty := HKT.out k hk1 hk2
            have hsum := sum_map_one (vMany d) hk2
            have hmax := max_map_get (vDeep d) hk2
            have HS := hId (sum_map_take (vMany d) hk2)
            have HD := hId (max_map_take (vDeep d) hk2)
            have hmk := HMK.out
            have hdl := vDeep_le d KV[k]
            have hdm : maxL ((KV.take k).map (vDeep d)) ≤ d := max_map_all _ (fun x _ => vDeep_le d x)
            have hwk := HWK.out k hk2
            have hi1 : (0 : Int) ≤ k := by omega
            have hi2 : (k : Int) < ((ln + j : Nat) : Int) := by omega
            generalize K[k] = y at *
            obtain ⟨yk, yf, yn, yw, yla, yln, ylc, yma, ymn, ymc⟩ := y
            have c0 := hc 0 (by omega)
            have c1 := hc 1 (by omega)
            have c2 := hc 2 (by omega)
            have c3 := hc 3 (by omega)
            have c4 := hc 4 (by omega)
            have c5 := hc 5 (by omega)
            simp only [VA.enc, Nat.add_zero] at c0 c1 c2 c3 c4 c5
            have hma : New wq (wq.alloc (.cells #[.int .i64 yk, .bool yf, .int .i64 yn, .string yw, .slice yla yln ylc, .slice yma ymn ymc] 30)) := (Mod.refl _ _).alloc _
            have hI := HIH.out ⟨yk, yf, yn, yw, yla, yln, ylc, yma, ymn, ymc⟩ KV[k] G (wq.alloc (.cells #[.int .i64 yk, .bool yf, .int .i64 yn, .string yw, .slice yla yln ylc, .slice yma ymn ymc] 30)) (hty.new ((HM.out.trans HMQ.out).trans hma)) hwk (by omega)
            have HMA := hId (HMQ.out.trans hma)
            have hs1 : 1 + ((KV.take k).map (vMany d)).sum + vMany d KV[k] ≤ 1000000000 := by omega
            clear hty hcell hc hma htb hsum hmk hmax hwk
            generalize ((KV.take k).map (vMany d)).sum = s1 at *
            generalize maxL ((KV.take k).map (vDeep d)) = d1 at *
            generalize vMany d KV[k] = a1 at *
            generalize vDeep d KV[k] = a2 at *
            go_wp2_with fail
            refine hI.mono ?_
            clear hI
            rintro e w5 ⟨rfl, m5⟩
            have HM5 := hId (HMA.out.trans m5)
            clear m5
            go_wp2_with fail
            exact ⟨⟨k + 1, by omega, by go_num, by rw [HS.out]; exact congrArg _ (by omega), by rw [HD.out]; exact congrArg _ (by omega), HM5⟩, by simp [intOf]; omega⟩
          · obtain rfl : k = ln + j := by omega
            have hmk := HMK.out
            have hdk := HDK.out
            rw [List.take_of_length_le (by have := HKN.out; omega)]
            rw [← hmk]
            have hdm : maxL (KV.map (vDeep d)) ≤ d := max_map_all _ (fun x _ => vDeep_le d x)
            generalize maxL (KV.map (vDeep d)) = d1 at *
            have hD : ((D : Nat) : Int) = (d1 : Int) + 1 := by omega
            have HRET : Hid (Ending.returned (.tuple #[.int .i64 (M : Nat), .int .i64 ((d1 : Int) + 1)]) = Ending.returned (.tuple #[.int .i64 (M : Nat), .int .i64 (D : Nat)])) := hId (by rw [hD])
            clear hD hdk hmk
            go_wp2_with fail
            go_ret2
            exact ⟨Eq.trans rfl HRET.out, HM.out.trans HMQ.out⟩


def orL : List Int → Int
  | [] => 0
  | x :: xs => if x = 0 then orL xs else x
theorem orL_drop {xs : List Int} {k : Nat} (h : k < xs.length) : orL (xs.drop k) = if xs[k] = 0 then orL (xs.drop (k + 1)) else xs[k] := by
  rw [List.drop_eq_getElem_cons h, orL]

set_option maxHeartbeats 1000000 in
theorem cmpOr_any (xs : List Int) (g n : Nat) (w : World) (hb : Blk w g 31 (xs.map (Value.int .i64)).toArray) (hn : xs.length = n) (hn2 : n ≤ 1000) :
    Calls Tryz.prog 86 #[.slice (some ⟨g, 0, none⟩) n n] w fun e w' => e = .returned (.int .i64 (orL xs)) ∧ w = w' := by
  go_enter Tryz.func86, Tryz.ntmps86
  go_wp2_with fail
  go_loop [5, 8] (fun _ i => ∃ k : Nat, k ≤ n ∧ i = .int .i64 k ∧ orL xs = orL (xs.drop k)) (fun _ i => n - (intOf i).toNat)
  case atStart => exact ⟨0, Nat.zero_le _, rfl, by simp⟩
  case round =>
    obtain ⟨k, hk, rfl, hor⟩ := hrel
    have HO := hId hor
    clear hor
    by_cases hlt : k < n
    · have hc := hb.cell k
      rw [show (xs.map (Value.int .i64)).toArray[k]? = some (.int .i64 (xs[k]'(by omega))) by simp] at hc
      have HD := hId (orL_drop (xs := xs) (k := k) (by omega))
      generalize xs[k]'(by omega) = x at *
      have hb1 : (0 : Int) ≤ k := by omega
      have hb2 : (k : Int) < n := by omega
      by_cases hx : x = 0
      · subst hx
        go_wp2_with fail
        go_round
        case rel => exact ⟨k + 1, by omega, by go_num, by rw [HO.out, HD.out]; simp⟩
        case measure => simp [intOf]; omega
      · have hx' : (x != 0) = true := by simp [hx]
        go_wp2_with fail
        go_ret
        exact ⟨ret_int (by rw [HO.out, HD.out, if_neg hx]), rfl⟩
    · obtain rfl : k = n := by omega
      go_wp2_with fail
      go_ret
      exact ⟨ret_int (by rw [HO.out, List.drop_of_length_le (by omega)]; rfl), rfl⟩

end Go.Proofs.YtjmnkdkdjnmejaaGreatDoor
