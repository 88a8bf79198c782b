/- The place of a name among members whose names stand in order; what stands at a step. Conditions: at most 100000 members. -/
import Derived.Test.YtjfgfkbgbhbhjaaGreatDoorChgMemGrp
import Derived.Test.YtjfgfkbgbhbhjaaGreatDoorValCGrp
import Derived.Test.YtjfgfkbgbhbhjaaGreatDoorQuietTail
import Derived.Test.YtjfgfkbgbhbhjaaGreatDoorHeldGrp
namespace Go.Proofs.YtjfgfkbgbhbhjaaGreatDoor
open Go.RowKit
set_option linter.unusedVariables false
set_option linter.unusedSimpArgs false

theorem Srt.lt : ∀ {l : List Mem}, Srt l → ∀ (a b : Nat) (h1 : a < l.length) (h2 : b < l.length), a < b → cmpB l[a].1 l[b].1 < 0
  | p :: l, h, 0, b + 1, _, h2, _ => h.1 _ (List.getElem_mem _)
  | p :: l, h, a + 1, b + 1, h1, h2, hab => Srt.lt h.2 a b (by simpa using h1) (by simpa using h2) (by omega)
  | p :: l, _, a, 0, _, _, h => absurd h (by omega)
  | [], _, a, b, h, _, _ => absurd h (by simp)
theorem srt_down {l : List Mem} {s : ByteArray} (h : Srt l) {m : Nat} (hm : m < l.length) (hl : cmpB l[m].1 s < 0) : ∀ k (hk : k < l.length), k < m + 1 → cmpB l[k].1 s < 0 := fun k hk hkm => by
  by_cases e : k = m
  · subst e; exact hl
  · exact cmpB_trans (h.lt k m hk hm (by omega)) hl
theorem srt_up {l : List Mem} {s : ByteArray} (h : Srt l) {m : Nat} (hm : m < l.length) (hl : 0 ≤ cmpB l[m].1 s) : ∀ k (hk : k < l.length), m ≤ k → 0 ≤ cmpB l[k].1 s := fun k hk hkm => by
  by_cases e : k = m
  · subst e; exact hl
  · refine Decidable.byContradiction fun hc => ?_
    have := cmpB_trans (h.lt m k hm hk (by omega)) (Int.not_le.1 hc)
    omega
theorem place_two {l : List Mem} {s : ByteArray} {i : Nat} (hi : i ≤ l.length) (h1 : ∀ k (hk : k < l.length), k < i → cmpB l[k].1 s < 0) (h2 : ∀ k (hk : k < l.length), i ≤ k → 0 ≤ cmpB l[k].1 s) : place l s = i :=
  place_eq l s i hi h1 (fun h => by have := h2 i h (Nat.le_refl _); omega)
theorem hasAt_eq {l : List Mem} {s : ByteArray} {i : Nat} (h : place l s = i) (hi : i < l.length) : hasAt l s = (cmpB l[i].1 s == 0) := by
  unfold hasAt
  rw [h, List.getElem?_eq_getElem hi]
  rw [Bool.eq_iff_iff, decide_eq_true_iff, beq_iff_eq, cmpB_zero]
theorem hasAt_none {l : List Mem} {s : ByteArray} {i : Nat} (h : place l s = i) (hi : l.length ≤ i) : hasAt l s = false := by
  unfold hasAt
  rw [h, List.getElem?_eq_none hi]

theorem enters_memberAt1 (args : Array Value) (w : World) : (callFunc 89 args).run Tryz.prog w = .ok (.enter 89 args) w := by
  go_simp
set_option maxHeartbeats 1000000 in
theorem memberAt1_v (m : MA) (s : ByteArray) (w : World) : Calls Tryz.prog 89 #[m.val, .string s] w fun e w' => e = .returned (.int .i64 (cmpB m.name s)) ∧ New w w' := by
  have hsc := fun W => Tryz.strings_Compare m.name s W
  have HCB : Hid (cmpB m.name s = Lib.compareBytes m.name.data.toList s.data.toList) := Lib.hid rfl
  obtain ⟨xm, xk, xf, xn, xw, xla, xln, xlc, xma, xmn, xmc⟩ := m
  simp only at hsc HCB
  generalize cmpB xm s = C at *
  generalize Lib.compareBytes xm.data.toList s.data.toList = C2 at *
  have hx := Blk.new w 54 #[.string xm, .int .i64 xk, .bool xf, .int .i64 xn, .string xw, .slice xla xln xlc, .slice xma xmn xmc]
  have hm1 : New w (w.alloc (.cells #[.string xm, .int .i64 xk, .bool xf, .int .i64 xn, .string xw, .slice xla xln xlc, .slice xma xmn xmc] 54)) := (Mod.refl _ _).alloc _
  go_enter Tryz.func89, Tryz.ntmps89
  go_upto_region 1 with (fail)
  generalize w.alloc (.cells #[.string xm, .int .i64 xk, .bool xf, .int .i64 xn, .string xw, .slice xla xln xlc, .slice xma xmn xmc] 54) = w1 at *
  generalize w.heap.size = xb at *
  have b0 := hx.cell 0
  have bl := hx.lt
  simp only [List.getElem?_toArray, List.getElem?_cons_zero] at b0
  have HM1 := Lib.hid hm1
  clear hx hm1
  go_wp2_with fail
  refine (hsc _).mono ?_
  clear hsc
  rintro e w2 ⟨rfl, rfl⟩
  go_wp2_with fail
  go_ret
  exact ⟨ret_int HCB.out.symm, HM1.out⟩

def RPlace (l : List Mem) (s : ByteArray) (w : World) (e : Ending) (w' : World) : Prop := e = .returned (.tuple #[.int .i64 (place l s), .bool (hasAt l s)]) ∧ New w w'
set_option maxRecDepth 100000 in
set_option maxHeartbeats 1500000 in
theorem binSearch_v (A : Option Addr) (n c : Nat) (ms : List MA) (ps : List Mem) (s : ByteArray) (w : World) (hs : Sl w 54 7 MA.enc A n ms) (hl : ps.length = n) (hnm : ∀ i (h : i < ms.length) (h' : i < ps.length), ms[i].name = ps[i].1) (hsrt : Srt ps) (hn : n ≤ 100000) :
    Calls Tryz.prog 88 #[.slice A n c, .string s, .func (.func 89) #[] #[]] w (RPlace ps s w) := by
  have HS := Lib.hid hs
  have HX := Lib.hid hs.1
  have HL := Lib.hid hl
  have HNM := Lib.hid hnm
  have HSR := Lib.hid hsrt
  clear hs hl hnm hsrt
  have hcallF := fun m W => memberAt1_v m s W
  have eg := enters_memberAt1
  go_enter Tryz.func88, Tryz.ntmps88
  go_wp2_with fail
  go_loopw [9, 10, 11] (fun si sj _ wr => ∃ i j : Nat, i ≤ j ∧ j ≤ n ∧ si = .int .i64 i ∧ sj = .int .i64 j ∧ Hid (∀ k (h : k < ps.length), k < i → cmpB ps[k].1 s < 0) ∧ Hid (∀ k (h : k < ps.length), j ≤ k → 0 ≤ cmpB ps[k].1 s) ∧ Hid (New w wr)) (fun si sj _ _ => (intOf sj).toNat - (intOf si).toNat)
  case atStart => exact ⟨0, n, Nat.zero_le _, Nat.le_refl _, rfl, rfl, Lib.hid (fun k h hk => absurd hk (by omega)), Lib.hid (fun k h hk => absurd h (by have := HL.out; omega)), Lib.hid (Mod.refl _ _)⟩
  case round =>
    rename World => wr
    obtain ⟨i, j, hij, hj, rfl, rfl, HA, HB, HM⟩ := hrel
    by_cases hlt : i < j
    · obtain ⟨h, hh⟩ : ∃ h : Nat, h = (i + j) / 2 := ⟨_, rfl⟩
      have hih : i ≤ h := by omega
      have hhj : h < j := by omega
      have hhx : h < ms.length := by have := HX.out; omega
      have hhp : h < ps.length := by have := HL.out; omega
      obtain ⟨g, o, hA, htb, hc0⟩ := (HS.out.new HM.out).2 (by omega)
      subst hA
      have hgl := htb.lt
      have hc := fun q (hq : q < 7) => hc0 h hhx q hq
      have hN := HNM.out h hhx hhp
      have hlo := srt_down (s := s) HSR.out hhp
      have hup := srt_up (s := s) HSR.out hhp
      rw [← hN] at hlo hup
      have HLO := Lib.hid hlo
      have HUP := Lib.hid hup
      clear hc0 hN htb hlo hup
      generalize ms[h] = y at *
      obtain ⟨xm, xk, xf, xn, xw, xla, xln, xlc, xma, xmn, xmc⟩ := y
      have b0 := hc 0 (by omega)
      have b1 := hc 1 (by omega)
      have b2 := hc 2 (by omega)
      have b3 := hc 3 (by omega)
      have b4 := hc 4 (by omega)
      have b5 := hc 5 (by omega)
      have b6 := hc 6 (by omega)
      simp only [MA.enc, VA.enc, Nat.add_zero] at b0 b1 b2 b3 b4 b5 b6
      have hcall := hcallF ⟨xm, ⟨xk, xf, xn, xw, xla, xln, xlc, xma, xmn, xmc⟩⟩
      simp only [MA.val] at hcall
      simp only at HLO HUP
      generalize cmpB xm s = r at *
      have hb1 : (0 : Int) ≤ h := by omega
      have hb2 : (h : Int) < n := by omega
      clear hc hcallF
      subst hh
      go_wp2_with fail
      refine (hcall _).mono ?_
      clear hcall
      rintro e w5 ⟨rfl, m5⟩
      have HM5 := Lib.hid (HM.out.trans m5)
      clear m5
      by_cases hr : r < 0
      · have hr1 : decide (r < 0) = true := by simpa using hr
        have HA2 := Lib.hid (HLO.out hr)
        clear hr
        go_wp2_with fail
        go_roundw
        case rel => exact ⟨(i + j) / 2 + 1, j, by omega, by omega, by go_num, rfl, HA2, HB, HM5⟩
        case measure => simp [intOf]; omega
      · have hr1 : decide (r < 0) = false := by simpa using hr
        have HB2 := Lib.hid (HUP.out (by omega))
        clear hr
        go_wp2_with fail
        go_roundw
        case rel => exact ⟨i, (i + j) / 2, by omega, by omega, rfl, by go_num, HA, HB2, HM5⟩
        case measure => simp [intOf]; omega
    · obtain rfl : i = j := by omega
      have HPL : Hid (place ps s = i) := Lib.hid (place_two (by have := HL.out; omega) HA.out HB.out)
      by_cases hin : i < n
      · have hhx : i < ms.length := by have := HX.out; omega
        have hhp : i < ps.length := by have := HL.out; omega
        obtain ⟨g, o, hA, htb, hc0⟩ := (HS.out.new HM.out).2 (by omega)
        subst hA
        have hgl := htb.lt
        have hc := fun q (hq : q < 7) => hc0 i hhx q hq
        have hN := HNM.out i hhx hhp
        have hha := hasAt_eq HPL.out hhp
        rw [← hN] at hha
        have HHA := Lib.hid hha
        clear hc0 hN htb hha
        generalize ms[i] = y at *
        obtain ⟨xm, xk, xf, xn, xw, xla, xln, xlc, xma, xmn, xmc⟩ := y
        have b0 := hc 0 (by omega)
        have b1 := hc 1 (by omega)
        have b2 := hc 2 (by omega)
        have b3 := hc 3 (by omega)
        have b4 := hc 4 (by omega)
        have b5 := hc 5 (by omega)
        have b6 := hc 6 (by omega)
        simp only [MA.enc, VA.enc, Nat.add_zero] at b0 b1 b2 b3 b4 b5 b6
        have hcall := hcallF ⟨xm, ⟨xk, xf, xn, xw, xla, xln, xlc, xma, xmn, xmc⟩⟩
        simp only [MA.val] at hcall
        simp only at HHA
        generalize cmpB xm s = r at *
        have hb1 : (0 : Int) ≤ i := by omega
        have hb2 : (i : Int) < n := by omega
        clear hc hcallF
        go_wp2_with fail
        refine (hcall _).mono ?_
        clear hcall
        rintro e w5 ⟨rfl, m5⟩
        go_wp2_with fail
        go_ret2
        exact ⟨by rw [HPL.out, HHA.out]; rfl, HM.out.trans m5⟩
      · have HHA : Hid (hasAt ps s = false) := Lib.hid (hasAt_none HPL.out (by have := HL.out; omega))
        have hb : ¬ (i : Int) < n := by omega
        go_wp2_with fail
        go_ret2
        exact ⟨by rw [HPL.out, HHA.out]; rfl, HM.out⟩

set_option maxHeartbeats 1000000 in
theorem memberAt_v (A : Option Addr) (n c : Nat) (ms : List MA) (ps : List Mem) (s : ByteArray) (w : World) (hs : Sl w 54 7 MA.enc A n ms) (hl : ps.length = n) (hnm : ∀ i (h : i < ms.length) (h' : i < ps.length), ms[i].name = ps[i].1) (hsrt : Srt ps) (hn : n ≤ 100000) :
    Calls Tryz.prog 64 #[.slice A n c, .string s] w (RPlace ps s w) := by
  have hb := binSearch_v A n c ms ps s w hs hl hnm hsrt hn
  clear hs hl hnm hsrt
  go_enter Tryz.func64, Tryz.ntmps64
  go_wp2_with fail
  refine hb.mono ?_
  clear hb
  rintro e w2 ⟨rfl, m2⟩
  go_wp2_with fail
  go_ret2
  exact ⟨rfl, m2⟩

/-- what stands at a step, if anything does -/
def RAt (G : Nat → Prop) (d : Nat) (v : VT) (s : St) (w : World) (e : Ending) (w' : World) : Prop :=
  (atV v s = none ∧ e = .returned (.tuple #[nilVA.val, .bool false]) ∧ New w w') ∨ ∃ u y, atV v s = some u ∧ e = .returned (.tuple #[y.val, .bool true]) ∧ Tree w' G d y u ∧ New w w'
theorem RAt.some {G : Nat → Prop} {d : Nat} {v u : VT} {s : St} {w w' : World} {y : VA} (h : atV v s = some u) (ht : Tree w G d y u) (hm : New w w') : RAt G d v s w (.returned (.tuple #[y.val, .bool true])) w' := .inr ⟨u, y, h, rfl, ht.new hm, hm⟩
end Go.Proofs.YtjfgfkbgbhbhjaaGreatDoor
