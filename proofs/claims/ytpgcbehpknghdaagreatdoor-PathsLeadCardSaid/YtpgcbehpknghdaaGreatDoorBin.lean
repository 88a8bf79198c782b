/- The place of a name among members whose names stand in order; what stands at a step. Conditions: at most 100000 members. -/
import Derived.Test.YtpgcbehpknghdaaGreatDoorChgMemGrp
import Derived.Test.YtpgcbehpknghdaaGreatDoorValCGrp
import Derived.Test.YtpgcbehpknghdaaGreatDoorQuietTail
import Derived.Test.YtpgcbehpknghdaaGreatDoorHeldGrp
namespace Go.Proofs.YtpgcbehpknghdaaGreatDoor
open Go.RowKit
set_option linter.unusedVariables false
set_option linter.unusedSimpArgs false

theorem heldO_stepG {P : Program} {ops : Array Oper} {Q : Exit → Act → World → Prop} {S : World → Prop} {cs : List Nat} {L : Act → World → Prop} {k : Nat} {o : Oper} {l : List Nat} {a : Act} {w : World} (hk : cs.contains k = true) (ho : ops[k]? = some o) (hg : Region.wanted o (yielded ops a.tmps) = true)
    (h : ∀ K : Act → World → Prop, Shut (∀ a' w', S w' → (S w' → wpHeldO P ops Q S cs L l a' w') → K a' w') → o.wp P a w K Q) : wpHeldO P ops Q S cs L (k :: l) a w := by
  unfold wpHeldO
  rw [if_pos hk]
  unfold wpOp
  simp only [ho]
  rw [if_pos hg]
  exact .inl (h _ (fun a' w' h1 h2 => ⟨h1, h2 h1⟩))
theorem Srt.lt : ∀ {l : List Mem}, Srt l → ∀ (a b : Nat) (h1 : a < l.length) (h2 : b < l.length), a < b → cmpB l[a].1 l[b].1 < 0
  | p :: l, h, 0, b + 1, _, h2, _ => h.1 _ (List.getElem_mem _)
  | p :: l, h, a + 1, b + 1, h1, h2, hab => Srt.lt h.2 a b (by simpa using h1) (by simpa using h2) (by omega)
  | p :: l, _, a, 0, _, _, h => absurd h (by omega)
  | [], _, a, b, h, _, _ => absurd h (by simp)
theorem srt_down {l : List Mem} {s : ByteArray} (h : Srt l) {m : Nat} (hm : m < l.length) (hl : cmpB l[m].1 s < 0) : ∀ k (hk : k < l.length), k < m + 1 → cmpB l[k].1 s < 0 := fun k hk hkm => by
  by_cases e : k = m
  · subst e; exact hl
  · exact cmpB_trans (h.lt k m hk hm (by omega)) hl
theorem srt_up {l : List Mem} {s : ByteArray} (h : Srt l) {m : Nat} (hm : m < l.length) (hl : 0 ≤ cmpB l[m].1 s) : ∀ k (hk : k < l.length), m ≤ k → 0 ≤ cmpB l[k].1 s := fun k hk hkm => by
  by_cases e : k = m
  · subst e; exact hl
  · refine Decidable.byContradiction fun hc => ?_
    have := cmpB_trans (h.lt m k hm hk (by omega)) (Int.not_le.1 hc)
    omega
theorem place_two {l : List Mem} {s : ByteArray} {i : Nat} (hi : i ≤ l.length) (h1 : ∀ k (hk : k < l.length), k < i → cmpB l[k].1 s < 0) (h2 : ∀ k (hk : k < l.length), i ≤ k → 0 ≤ cmpB l[k].1 s) : place l s = i :=
  place_eq l s i hi h1 (fun h => by have := h2 i h (Nat.le_refl _); omega)
theorem hasAt_eq {l : List Mem} {s : ByteArray} {i : Nat} (h : place l s = i) (hi : i < l.length) : hasAt l s = (cmpB l[i].1 s == 0) := by
  unfold hasAt
  rw [h, List.getElem?_eq_getElem hi]
  rw [Bool.eq_iff_iff, decide_eq_true_iff, beq_iff_eq, cmpB_zero]
theorem hasAt_none {l : List Mem} {s : ByteArray} {i : Nat} (h : place l s = i) (hi : l.length ≤ i) : hasAt l s = false := by
  unfold hasAt
  rw [h, List.getElem?_eq_none hi]

theorem enters_memberAt1 (args : Array Value) (w : World) : (callFunc 104 args).run Tryz.prog w = .ok (.enter 104 args) w := by
  go_simp
set_option maxHeartbeats 1000000 in
theorem memberAt1_v (m : MA) (s : ByteArray) (w : World) : Calls Tryz.prog 104 #[m.val, .string s] w fun e w' => e = .returned (.int .i64 (cmpB m.name s)) ∧ New w w' := by
  have hsc := fun W => Tryz.strings_Compare m.name s W
  have HCB : Hid (cmpB m.name s = Lib.compareBytes m.name.data.toList s.data.toList) := Lib.hid rfl
  obtain ⟨xm, xk, xf, xn, xw, xla, xln, xlc, xma, xmn, xmc⟩ := m
  simp only at hsc HCB
  generalize cmpB xm s = C at *
  generalize Lib.compareBytes xm.data.toList s.data.toList = C2 at *
  have hx := Blk.new w 66 #[.string xm, .int .i64 xk, .bool xf, .int .i64 xn, .string xw, .slice xla xln xlc, .slice xma xmn xmc]
  have hm1 : New w (w.alloc (.cells #[.string xm, .int .i64 xk, .bool xf, .int .i64 xn, .string xw, .slice xla xln xlc, .slice xma xmn xmc] 66)) := (Mod.refl _ _).alloc _
  go_enter Tryz.func104, Tryz.ntmps104
  go_upto_region 1 with (fail)
  generalize w.alloc (.cells #[.string xm, .int .i64 xk, .bool xf, .int .i64 xn, .string xw, .slice xla xln xlc, .slice xma xmn xmc] 66) = w1 at *
  generalize w.heap.size = xb at *
  have b0 := hx.cell 0
  have bl := hx.lt
  simp only [List.getElem?_toArray, List.getElem?_cons_zero] at b0
  have HM1 := Lib.hid hm1
  clear hx hm1
  go_wp2_with fail
  refine (hsc _).mono ?_
  clear hsc
  rintro e w2 ⟨rfl, rfl⟩
  go_wp2_with fail
  go_ret
  exact ⟨ret_int HCB.out.symm, HM1.out⟩

def RPlace (l : List Mem) (s : ByteArray) (w : World) (e : Ending) (w' : World) : Prop := e = .returned (.tuple #[.int .i64 (place l s), .bool (hasAt l s)]) ∧ New w w'
set_option maxRecDepth 100000 in
set_option maxHeartbeats 1500000 in
theorem binSearch_v (A : Option Addr) (n c : Nat) (ms : List MA) (ps : List Mem) (s : ByteArray) (w : World) (hs : Sl w 66 7 MA.enc A n ms) (hl : ps.length = n) (hnm : ∀ i (h : i < ms.length) (h' : i < ps.length), ms[i].name = ps[i].1) (hsrt : Srt ps) (hn : n ≤ 100000) :
    Calls Tryz.prog 103 #[.slice A n c, .string s, .func (.func 104) #[] #[]] w (RPlace ps s w) := by
  have HS := Lib.hid hs
  have HX := Lib.hid hs.1
  have HL := Lib.hid hl
  have HNM := Lib.hid hnm
  have HSR := Lib.hid hsrt
  clear hs hl hnm hsrt
  have hcallF := fun m W => memberAt1_v m s W
  have eg := enters_memberAt1
  go_enter Tryz.func103, Tryz.ntmps103
  go_wp2_with fail
  go_loopw [9, 10, 11] (fun si sj _ wr => ∃ i j : Nat, i ≤ j ∧ j ≤ n ∧ si = .int .i64 i ∧ sj = .int .i64 j ∧ Hid (∀ k (h : k < ps.length), k < i → cmpB ps[k].1 s < 0) ∧ Hid (∀ k (h : k < ps.length), j ≤ k → 0 ≤ cmpB ps[k].1 s) ∧ Hid (New w wr)) (fun si sj _ _ => (intOf sj).toNat - (intOf si).toNat)
  case atStart => exact ⟨0, n, Nat.zero_le _, Nat.le_refl _, rfl, rfl, Lib.hid (fun k h hk => absurd hk (by omega)), Lib.hid (fun k h hk => absurd h (by have := HL.out; omega)), Lib.hid (Mod.refl _ _)⟩
  case round =>
    rename World => wr
    obtain ⟨i, j, hij, hj, rfl, rfl, HA, HB, HM⟩ := hrel
    by_cases hlt : i < j
    · obtain ⟨h, hh⟩ : ∃ h : Nat, h = (i + j) / 2 := ⟨_, rfl⟩
      have hih : i ≤ h := by omega
      have hhj : h < j := by omega
      have hhx : h < ms.length := by have := HX.out; omega
      have hhp : h < ps.length := by have := HL.out; omega
      obtain ⟨g, o, hA, htb, hc0⟩ := (HS.out.new HM.out).2 (by omega)
      subst hA
      have hgl := htb.lt
      have hc := fun q (hq : q < 7) => hc0 h hhx q hq
      have hN := HNM.out h hhx hhp
      have hlo := srt_down (s := s) HSR.out hhp
      have hup := srt_up (s := s) HSR.out hhp
      rw [← hN] at hlo hup
      have HLO := Lib.hid hlo
      have HUP := Lib.hid hup
      clear hc0 hN htb hlo hup
      generalize ms[h] = y at *
      obtain ⟨xm, xk, xf, xn, xw, xla, xln, xlc, xma, xmn, xmc⟩ := y
      have b0 := hc 0 (by omega)
      have b1 := hc 1 (by omega)
      have b2 := hc 2 (by omega)
      have b3 := hc 3 (by omega)
      have b4 := hc 4 (by omega)
      have b5 := hc 5 (by omega)
      have b6 := hc 6 (by omega)
      simp only [MA.enc, VA.enc, Nat.add_zero] at b0 b1 b2 b3 b4 b5 b6
      have hcall := hcallF ⟨xm, ⟨xk, xf, xn, xw, xla, xln, xlc, xma, xmn, xmc⟩⟩
      simp only [MA.val] at hcall
      simp only at HLO HUP
      generalize cmpB xm s = r at *
      have hb1 : (0 : Int) ≤ h := by omega
      have hb2 : (h : Int) < n := by omega
      clear hc hcallF
      subst hh
      go_wp2_with fail
      refine (hcall _).mono ?_
      clear hcall
      rintro e w5 ⟨rfl, m5⟩
      have HM5 := Lib.hid (HM.out.trans m5)
      clear m5
      by_cases hr : r < 0
      · have hr1 : decide (r < 0) = true := by simpa using hr
        have HA2 := Lib.hid (HLO.out hr)
        clear hr
        go_wp2_with fail
        go_roundw
        case rel => exact ⟨(i + j) / 2 + 1, j, by omega, by omega, by go_num, rfl, HA2, HB, HM5⟩
        case measure => simp [intOf]; omega
      · have hr1 : decide (r < 0) = false := by simpa using hr
        have HB2 := Lib.hid (HUP.out (by omega))
        clear hr
        go_wp2_with fail
        go_roundw
        case rel => exact ⟨i, (i + j) / 2, by omega, by omega, rfl, by go_num, HA, HB2, HM5⟩
        case measure => simp [intOf]; omega
    · obtain rfl : i = j := by omega
      have HPL : Hid (place ps s = i) := Lib.hid (place_two (by have := HL.out; omega) HA.out HB.out)
      by_cases hin : i < n
      · have hhx : i < ms.length := by have := HX.out; omega
        have hhp : i < ps.length := by have := HL.out; omega
        obtain ⟨g, o, hA, htb, hc0⟩ := (HS.out.new HM.out).2 (by omega)
        subst hA
        have hgl := htb.lt
        have hc := fun q (hq : q < 7) => hc0 i hhx q hq
        have hN := HNM.out i hhx hhp
        have hha := hasAt_eq HPL.out hhp
        rw [← hN] at hha
        have HHA := Lib.hid hha
        clear hc0 hN htb hha
        generalize ms[i] = y at *
        obtain ⟨xm, xk, xf, xn, xw, xla, xln, xlc, xma, xmn, xmc⟩ := y
        have b0 := hc 0 (by omega)
        have b1 := hc 1 (by omega)
        have b2 := hc 2 (by omega)
        have b3 := hc 3 (by omega)
        have b4 := hc 4 (by omega)
        have b5 := hc 5 (by omega)
        have b6 := hc 6 (by omega)
        simp only [MA.enc, VA.enc, Nat.add_zero] at b0 b1 b2 b3 b4 b5 b6
        have hcall := hcallF ⟨xm, ⟨xk, xf, xn, xw, xla, xln, xlc, xma, xmn, xmc⟩⟩
        simp only [MA.val] at hcall
        simp only at HHA
        generalize cmpB xm s = r at *
        have hb1 : (0 : Int) ≤ i := by omega
        have hb2 : (i : Int) < n := by omega
        clear hc hcallF
        go_wp2_with fail
        refine (hcall _).mono ?_
        clear hcall
        rintro e w5 ⟨rfl, m5⟩
        go_wp2_with fail
        go_ret2
        exact ⟨by rw [HPL.out, HHA.out]; rfl, HM.out.trans m5⟩
      · have HHA : Hid (hasAt ps s = false) := Lib.hid (hasAt_none HPL.out (by have := HL.out; omega))
        have hb : ¬ (i : Int) < n := by omega
        go_wp2_with fail
        go_ret2
        exact ⟨by rw [HPL.out, HHA.out]; rfl, HM.out⟩

set_option maxHeartbeats 1000000 in
theorem memberAt_v (A : Option Addr) (n c : Nat) (ms : List MA) (ps : List Mem) (s : ByteArray) (w : World) (hs : Sl w 66 7 MA.enc A n ms) (hl : ps.length = n) (hnm : ∀ i (h : i < ms.length) (h' : i < ps.length), ms[i].name = ps[i].1) (hsrt : Srt ps) (hn : n ≤ 100000) :
    Calls Tryz.prog 78 #[.slice A n c, .string s] w (RPlace ps s w) := by
  have hb := binSearch_v A n c ms ps s w hs hl hnm hsrt hn
  clear hs hl hnm hsrt
  go_enter Tryz.func78, Tryz.ntmps78
  go_wp2_with fail
  refine hb.mono ?_
  clear hb
  rintro e w2 ⟨rfl, m2⟩
  go_wp2_with fail
  go_ret2
  exact ⟨rfl, m2⟩

/-- what stands at a step, if anything does -/
def RAt (G : Nat → Prop) (d : Nat) (v : VT) (s : St) (w : World) (e : Ending) (w' : World) : Prop :=
  (atV v s = none ∧ e = .returned (.tuple #[nilVA.val, .bool false]) ∧ New w w') ∨ ∃ u y, atV v s = some u ∧ e = .returned (.tuple #[y.val, .bool true]) ∧ Tree w' G d y u ∧ New w w'
theorem RAt.some {G : Nat → Prop} {d : Nat} {v u : VT} {s : St} {w w' : World} {y : VA} (h : atV v s = some u) (ht : Tree w G d y u) (hm : New w w') : RAt G d v s w (.returned (.tuple #[y.val, .bool true])) w' := .inr ⟨u, y, h, rfl, ht.new hm, hm⟩
set_option maxRecDepth 100000 in
set_option maxHeartbeats 1000000 in
theorem at_v (G : Nat → Prop) (d : Nat) (x : VA) (v : VT) (s : St) (w : World) (ht : Tree w G (d + 1) x v) (hsrt : Srt v.mem) (hl : v.list.length ≤ 100000) (hm : v.mem.length ≤ 100000) (hs : 0 ≤ s.at_ ∧ s.at_ ≤ 5000) :
    Calls Tryz.prog 50 #[x.val, s.val] w (RAt G d v s w) := by
  obtain ⟨xs, ms, h1, h2, h3, h4⟩ := ht.als
  obtain ⟨f1, -, -, -, f5, f6⟩ := ht.fields
  have HMA := Lib.hid (fun W (h : New w W) => memberAt_v x.ma x.mn x.mc ms v.mem s.name W (h3.sl.new h) f6 (fun i a b => (h4.get i a b).1) hsrt (by omega))
  have HL1 := Lib.hid h1
  have HL2 := Lib.hid h2
  have HL3 := Lib.hid h3
  have HL4 := Lib.hid h4
  obtain ⟨k, hk⟩ := Int.eq_ofNat_of_zero_le hs.1
  obtain ⟨xk, xf, xn, xw, xla, xln, xlc, xma, xmn, xmc⟩ := x
  obtain ⟨nm, sn, sa⟩ := s
  simp only at f1 f5 f6 HMA hk HL1 HL3
  subst hk
  have hk5 : k ≤ 5000 := by have := hs.2; simp only at this; omega
  have hln : xln ≤ 100000 := by omega
  have hmn : xmn ≤ 100000 := by omega
  have HF1 := Lib.hid f1
  have HF5 := Lib.hid f5
  have HF6 := Lib.hid f6
  clear ht h1 h2 h3 h4 hs hsrt hl hm f1 f5 f6
  have hx := Blk.new w 29 #[.int .i64 xk, .bool xf, .int .i64 xn, .string xw, .slice xla xln xlc, .slice xma xmn xmc]
  have m1 : New w (w.alloc (.cells #[.int .i64 xk, .bool xf, .int .i64 xn, .string xw, .slice xla xln xlc, .slice xma xmn xmc] 29)) := (Mod.refl _ _).alloc _
  have z1 : (w.alloc (.cells #[.int .i64 xk, .bool xf, .int .i64 xn, .string xw, .slice xla xln xlc, .slice xma xmn xmc] 29)).heap.size = w.heap.size + 1 := by simp
  go_enter Tryz.func50, Tryz.ntmps50
  go_upto_region 1 with (fail)
  generalize w.alloc (.cells #[.int .i64 xk, .bool xf, .int .i64 xn, .string xw, .slice xla xln xlc, .slice xma xmn xmc] 29) = w1 at *
  have hy := Blk.new w1 46 #[.bool nm, .string sn, .int .i64 k]
  have m2 : New w1 (w1.alloc (.cells #[.bool nm, .string sn, .int .i64 k] 46)) := (Mod.refl _ _).alloc _
  have z2 : (w1.alloc (.cells #[.bool nm, .string sn, .int .i64 k] 46)).heap.size = w1.heap.size + 1 := by simp
  generalize w1.alloc (.cells #[.bool nm, .string sn, .int .i64 k] 46) = w2 at *
  have hz := Blk.new w2 29 #[.int .i64 0, .bool false, .int .i64 0, .string ⟨#[]⟩, .slice none 0 0, .slice none 0 0]
  have m3 : New w2 (w2.alloc (.cells #[.int .i64 0, .bool false, .int .i64 0, .string ⟨#[]⟩, .slice none 0 0, .slice none 0 0] 29)) := (Mod.refl _ _).alloc _
  generalize w2.alloc (.cells #[.int .i64 0, .bool false, .int .i64 0, .string ⟨#[]⟩, .slice none 0 0, .slice none 0 0] 29) = w3 at *
  rw [z1] at hy z2
  rw [z2] at hz
  have HX := Lib.hid ((hx.mod m2 (fun e => e)).mod m3 (fun e => e))
  have HSB := Lib.hid (hy.mod m3 (fun e => e))
  have HR := Lib.hid hz
  have HM := Lib.hid ((m1.trans m2).trans m3)
  clear hx hy hz m1 m2 m3 z1 z2
  generalize hxb : w.heap.size = xb at *
  have e0 := HX.out.cell 0
  have e1 := HX.out.cell 1
  have e2 := HX.out.cell 2
  have e3 := HX.out.cell 3
  have e4 := HX.out.cell 4
  have e5 := HX.out.cell 5
  have el := HX.out.lt
  have s0 := HSB.out.cell 0
  have s1 := HSB.out.cell 1
  have s2 := HSB.out.cell 2
  have sl := HSB.out.lt
  have r0 := HR.out.cell 0
  have r1 := HR.out.cell 1
  have r2 := HR.out.cell 2
  have r3 := HR.out.cell 3
  have r4 := HR.out.cell 4
  have r5 := HR.out.cell 5
  have rl := HR.out.lt
  have rf := HR.out.frozen
  simp only [List.getElem?_toArray, List.getElem?_cons_zero, List.getElem?_cons_succ] at e0 e1 e2 e3 e4 e5 s0 s1 s2 r0 r1 r2 r3 r4 r5
  cases nm with
  | true =>
    by_cases hk5 : xk = 5
    · have hk6 : (xk == 5) = true := by simpa using hk5
      have HK := Lib.hid hk5
      have hma := HMA.out w3 HM.out
      clear hk5
      go_wp2_with fail
      refine hma.mono ?_
      clear hma
      rintro e w4 ⟨rfl, m4⟩
      have HM4 := Lib.hid (HM.out.trans m4)
      have HX1 := Lib.hid (HX.out.mod m4 (fun e => e))
      have HS1 := Lib.hid (HSB.out.mod m4 (fun e => e))
      have HR1 := Lib.hid (HR.out.mod m4 (fun e => e))
      clear e0 e1 e2 e3 e4 e5 el s0 s1 s2 sl r0 r1 r2 r3 r4 r5 rl rf HX HSB HR m4
      have HX := HX1
      have HSB := HS1
      have HR := HR1
      clear HX1 HS1 HR1
      have e0 := HX.out.cell 0
      have e1 := HX.out.cell 1
      have e2 := HX.out.cell 2
      have e3 := HX.out.cell 3
      have e4 := HX.out.cell 4
      have e5 := HX.out.cell 5
      have el := HX.out.lt
      have s0 := HSB.out.cell 0
      have s1 := HSB.out.cell 1
      have s2 := HSB.out.cell 2
      have sl := HSB.out.lt
      have r0 := HR.out.cell 0
      have r1 := HR.out.cell 1
      have r2 := HR.out.cell 2
      have r3 := HR.out.cell 3
      have r4 := HR.out.cell 4
      have r5 := HR.out.cell 5
      have rl := HR.out.lt
      have rf := HR.out.frozen
      simp only [List.getElem?_toArray, List.getElem?_cons_zero, List.getElem?_cons_succ] at e0 e1 e2 e3 e4 e5 s0 s1 s2 r0 r1 r2 r3 r4 r5
      cases hh : hasAt v.mem sn with
      | false =>
        have HNO : Hid (atV v ⟨true, sn, (k : Int)⟩ = none) := Lib.hid (by unfold atV; simp [hh])
        go_wp2_with fail
        refine bodyPost_ret (v := .tuple #[nilVA.val, .bool false]) (by simp [results, Tryz.results50, go_sem, r0, r1, r2, r3, r4, r5, rf]) rfl (.inl ⟨HNO.out, rfl, ?_⟩)
        repeat (with_reducible (first | exact HM4.out | (refine Mod.setCell ?_ (.inr (by first | omega | (dsimp only; omega) | skip)) _)))
      | true =>
        obtain ⟨hq, hn⟩ := hasAt_lt hh
        have hqm : place v.mem sn < ms.length := by rw [HL4.out.len]; exact hq
        have hty := (HL4.out.get _ hqm hq).2
        have hat : atV v ⟨true, sn, (k : Int)⟩ = some v.mem[place v.mem sn].2 := by
          unfold atV
          rw [if_pos rfl, if_pos ⟨by rw [HF1.out, HK.out], hh⟩, List.getElem?_eq_getElem hq]
          rfl
        obtain ⟨g, o, hA, -, htb, hc0⟩ := (HL3.out.mod HM4.out (fun _ _ _ e => e)).2 (by have := HL3.out.1; omega)
        subst hA
        have hgl := htb.lt
        have hc := fun j (hj : j < 7) => hc0 _ hqm j hj
        have hb1 : (0 : Int) ≤ (place v.mem sn : Nat) := by omega
        have hb2 : ((place v.mem sn : Nat) : Int) < xmn := by have := HL3.out.1; omega
        have HAT := Lib.hid hat
        have HTY := Lib.hid hty
        clear hc0 htb hat hty hn hh
        generalize ms[place v.mem sn] = y at *
        generalize v.mem[place v.mem sn].2 = u at *
        generalize place v.mem sn = pl at *
        obtain ⟨ym, yk, yf, yn, yw, yla, yln, ylc, yma, ymn, ymc⟩ := y
        have b0 := hc 0 (by omega)
        have b1 := hc 1 (by omega)
        have b2 := hc 2 (by omega)
        have b3 := hc 3 (by omega)
        have b4 := hc 4 (by omega)
        have b5 := hc 5 (by omega)
        have b6 := hc 6 (by omega)
        simp only [MA.enc, VA.enc, Nat.add_zero] at b0 b1 b2 b3 b4 b5 b6
        clear hc
        go_wp2_with fail
        refine bodyPost_ret (v := .tuple #[VA.val ⟨yk, yf, yn, yw, yla, yln, ylc, yma, ymn, ymc⟩, .bool true]) (by simp [results, Tryz.results50, go_sem, r0, r1, r2, r3, r4, r5, rf]) rfl (RAt.some HAT.out (y := ⟨yk, yf, yn, yw, yla, yln, ylc, yma, ymn, ymc⟩) HTY.out ?_)
        repeat (with_reducible (first | exact HM4.out | (refine Mod.setCell ?_ (.inr (by first | omega | (dsimp only; omega) | skip)) _)))
    · have hk6 : (xk == 5) = false := by simpa using hk5
      have HNO : Hid (atV v ⟨true, sn, (k : Int)⟩ = none) := Lib.hid (by
        have h1 := HF1.out
        unfold atV
        rw [if_pos rfl, if_neg (fun q => hk5 (by rw [← h1]; exact q.1))])
      clear hk5
      go_wp2_with fail
      refine bodyPost_ret (v := .tuple #[nilVA.val, .bool false]) (by simp [results, Tryz.results50, go_sem, r0, r1, r2, r3, r4, r5, rf]) rfl (.inl ⟨HNO.out, rfl, ?_⟩)
      repeat (with_reducible (first | exact HM.out | (refine Mod.setCell ?_ (.inr (by first | omega | (dsimp only; omega) | skip)) _)))
  | false =>
    by_cases hk5 : xk = 4
    · have hk6 : (xk == 4) = true := by simpa using hk5
      have HK := Lib.hid hk5
      clear hk5
      by_cases hkn : k < xln
      · have hq : k < v.list.length := by have := HF5.out; omega
        have hqm : k < xs.length := by rw [HL2.out.len]; exact hq
        have hty := HL2.out.get _ hqm hq
        have hat : atV v ⟨false, sn, (k : Int)⟩ = some v.list[k] := by
          unfold atV
          rw [if_neg (fun q => Bool.noConfusion q), if_pos (by rw [HF1.out, HK.out])]
          simp [hq]
        obtain ⟨g, o, hA, -, htb, hc0⟩ := (HL1.out.mod HM.out (fun _ _ _ e => e)).2 (by have := HL1.out.1; omega)
        subst hA
        have hgl := htb.lt
        have hc := fun j (hj : j < 6) => hc0 _ hqm j hj
        have hb1 : (0 : Int) ≤ (k : Nat) := by omega
        have hb2 : ((k : Nat) : Int) < xln := by omega
        have HAT := Lib.hid hat
        have HTY := Lib.hid hty
        clear hc0 htb hat hty
        generalize xs[k] = y at *
        generalize v.list[k] = u at *
        obtain ⟨yk, yf, yn, yw, yla, yln, ylc, yma, ymn, ymc⟩ := y
        have b0 := hc 0 (by omega)
        have b1 := hc 1 (by omega)
        have b2 := hc 2 (by omega)
        have b3 := hc 3 (by omega)
        have b4 := hc 4 (by omega)
        have b5 := hc 5 (by omega)
        simp only [VA.enc, Nat.add_zero] at b0 b1 b2 b3 b4 b5
        clear hc
        go_wp2_with fail
        refine bodyPost_ret (v := .tuple #[VA.val ⟨yk, yf, yn, yw, yla, yln, ylc, yma, ymn, ymc⟩, .bool true]) (by simp [results, Tryz.results50, go_sem, r0, r1, r2, r3, r4, r5, rf]) rfl (RAt.some HAT.out (y := ⟨yk, yf, yn, yw, yla, yln, ylc, yma, ymn, ymc⟩) HTY.out ?_)
        repeat (with_reducible (first | exact HM.out | (refine Mod.setCell ?_ (.inr (by first | omega | (dsimp only; omega) | skip)) _)))
      · have HNO : Hid (atV v ⟨false, sn, (k : Int)⟩ = none) := Lib.hid (by
          have h5 := HF5.out
          unfold atV
          rw [if_neg (fun q => Bool.noConfusion q)]
          split
          · exact List.getElem?_eq_none (by simp; omega)
          · rfl)
        have hb2 : ¬ ((k : Nat) : Int) < xln := by omega
        go_wp2_with fail
        refine bodyPost_ret (v := .tuple #[nilVA.val, .bool false]) (by simp [results, Tryz.results50, go_sem, r0, r1, r2, r3, r4, r5, rf]) rfl (.inl ⟨HNO.out, rfl, ?_⟩)
        repeat (with_reducible (first | exact HM.out | (refine Mod.setCell ?_ (.inr (by first | omega | (dsimp only; omega) | skip)) _)))
    · have hk6 : (xk == 4) = false := by simpa using hk5
      have HNO : Hid (atV v ⟨false, sn, (k : Int)⟩ = none) := Lib.hid (by
        have h1 := HF1.out
        unfold atV
        rw [if_neg (fun q => Bool.noConfusion q), if_neg (fun q => hk5 (by rw [← h1]; exact q))])
      clear hk5
      go_wp2_with fail
      refine bodyPost_ret (v := .tuple #[nilVA.val, .bool false]) (by simp [results, Tryz.results50, go_sem, r0, r1, r2, r3, r4, r5, rf]) rfl (.inl ⟨HNO.out, rfl, ?_⟩)
      repeat (with_reducible (first | exact HM.out | (refine Mod.setCell ?_ (.inr (by first | omega | (dsimp only; omega) | skip)) _)))

end Go.Proofs.YtpgcbehpknghdaaGreatDoor
