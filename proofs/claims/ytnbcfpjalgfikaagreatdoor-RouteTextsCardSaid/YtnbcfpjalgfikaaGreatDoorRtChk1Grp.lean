/- Several texts in one. (1) The program's check of a route's hosts and methods. Conditions: at most 200000 texts of modest size; the library's variable on searching is an int. (2) slices.Contains of pairs (a part of a row). Conditions: at most 1000000 pairs. (3) The program's check of a route's To against its Path. Conditions: at most 100000 parts. (4) The program's check of a route (readyOf). Conditions: texts of modest size; the library's variable on searching is an int. (5) The program's check of routes (readyAll, CheckRoutes). Conditions: routes of modest size; the library's variable on searching is an int. (6) A template's parameters bear each name once: the program's test of To and the reference's are one. The plain law. No conditions. -/
import Derived.Test.YtnbcfpjalgfikaaGreatDoorRtLawGrp
import Derived.Test.YtnbcfpjalgfikaaGreatDoorTokGrp
import Derived.Test.YtnbcfpjalgfikaaGreatDoorHeldGrp
import Derived.Test.YtnbcfpjalgfikaaGreatDoorParamGrp

namespace Go.Proofs.YtnbcfpjalgfikaaGreatDoor
open Go.RowKit
set_option linter.unusedVariables false
set_option linter.unusedSimpArgs false

set_option maxHeartbeats 1000000 in
theorem rt_isHostPattern (s : ByteArray) (w : World) (hs : s.size ≤ 900000) (hx : MaxLn w) :
    Calls Tryz.prog 136 #[.string s] w fun e w' => e = .returned (.bool (hostPat s)) ∧ New w w' := by
  have htp := Tryz.strings_TrimPrefix s ⟨#[42, 46]⟩ w
  have HP : Hid (hostPat s = (hostForm (starOff s) && decide (hostN (starOff s).data.toList = (starOff s).data.toList))) := Lib.hid rfl
  have hst : (⟨(Lib.trimPrefix s.data.toList (⟨#[42, 46]⟩ : ByteArray).data.toList).toArray⟩ : ByteArray) = starOff s := rfl
  rw [hst] at htp
  have hsz : (starOff s).size ≤ 900000 := by
    show (Lib.trimPrefix s.data.toList [42, 46]).toArray.size ≤ _
    have : (Lib.trimPrefix s.data.toList [42, 46]).length ≤ s.data.toList.length := by
      unfold Lib.trimPrefix
      split
      · rw [List.length_drop]; omega
      · exact Nat.le_refl _
    have h2 : s.data.toList.length = s.size := rfl
    simp
    omega
  clear hst
  generalize starOff s = t at *
  have q := msg_normalHost t w hsz hx
  go_enter Tryz.func136, Tryz.ntmps136
  go_wp2_with fail
  refine htp.mono ?_
  clear htp
  rintro e w1 ⟨rfl, rfl⟩
  go_wp2_with fail
  refine q.mono ?_
  clear q
  rintro e w2 ⟨rfl, m2⟩
  have HM := Lib.hid m2
  clear m2 hx
  cases hf : hostForm t
  · rw [hf] at HP
    simp only [Bool.false_eq_true, if_false]
    clear hf
    go_wp2_with fail
    go_ret
    exact ⟨ret_bool (by rw [HP.out]; rfl), HM.out⟩
  · rw [hf, Bool.true_and] at HP
    simp only [if_true]
    have hb : ((⟨(hostN t.data.toList).toArray⟩ : ByteArray).toList == t.toList) = decide (hostN t.data.toList = t.data.toList) := by
      rw [ByteArray.toList_eq, ByteArray.toList_eq, Bool.eq_iff_iff]; simp
    generalize decide (hostN t.data.toList = t.data.toList) = r at *
    generalize (⟨(hostN t.data.toList).toArray⟩ : ByteArray) = z at *
    clear hf
    go_wp2_with fail
    go_ret
    exact ⟨ret_bool (by rw [HP.out]), HM.out⟩
theorem contains_take (A : Option Addr) (n c k : Nat) (l : List ByteArray) (x : ByteArray) (w : World) (h : SSl1 w A n l) (hk : k ≤ n) (hn : n ≤ 1000000) :
    Calls Tryz.prog 33 #[.slice A k c, .string x] w fun e w' => e = .returned (.bool (Lib.containsS (l.take k) x)) ∧ w' = w := by
  have hl := h.1
  rcases Nat.eq_zero_or_pos k with rfl | h0
  · refine (Tryz.slices_Contains_string_empty A c x w).mono ?_
    rintro e w' ⟨rfl, rfl⟩
    exact ⟨by rw [List.take_zero]; rfl, rfl⟩
  · obtain ⟨g, o, rfl, -, hc⟩ := h.2 (by omega)
    have q := Tryz.slices_Contains_string g o k c l x w (by omega) (by omega) (fun j hj => by
      have := hc j hj 0 (by omega)
      simp only [Nat.mul_one, Nat.add_zero] at this
      rw [this]
      simp [List.getD_eq_getElem?_getD, hj, sEnc])
    exact q
set_option maxHeartbeats 1000000 in
theorem rt_hostsFault (A : Option Addr) (n c : Nat) (l : List ByteArray) (w : World) (h : SSl1 w A n l) (hcap : n ≤ c) (hn : n ≤ 200000) (hz : ∀ s ∈ l, s.size ≤ 200000) (hx : MaxLn w) :
    Calls Tryz.prog 101 #[.slice A n c] w fun e w' => e = .returned (.int .i64 (hostsF l)) ∧ New w w' := by
  have hl := h.1
  by_cases hb : 20 < n
  · have hb' : (20 : Int) < n := by omega
    have HR : Hid (hostsF l = 2) := Lib.hid (by unfold hostsF; rw [if_pos (by omega)])
    go_enter Tryz.func101, Tryz.ntmps101
    go_wp2_with fail
    go_ret
    exact ⟨ret_int HR.out.symm, Mod.refl _ _⟩
  · have hb' : ¬ (20 : Int) < n := by omega
    have HR : Hid (hostsF l = eachF hostF (l.take 0) (l.drop 0)) := Lib.hid (by unfold hostsF; rw [if_neg (by omega)]; rfl)
    have HS := Lib.hid h
    have HZ := Lib.hid hz
    have HX := Lib.hid hx
    have HL := Lib.hid hl
    clear h hz hx hl hb
    go_enter Tryz.func101, Tryz.ntmps101
    go_wp2_with fail
    go_loopw [10] (fun i wr => ∃ k : Nat, k ≤ n ∧ i = .int .i64 k ∧ Hid (hostsF l = eachF hostF (l.take k) (l.drop k)) ∧ Hid (New w wr)) (fun i _ => n - (intOf i).toNat)
    case atStart => exact ⟨0, Nat.zero_le _, rfl, HR, Lib.hid (Mod.refl _ _)⟩
    clear HR
    case round =>
      rename World => wr
      obtain ⟨k, hk, rfl, HR, HM⟩ := hrel
      by_cases hlt : k < n
      · have hkl : k < l.length := by have := HL.out; omega
        have HST := Lib.hid (eachF_step hostF hkl)
        obtain ⟨g, o, hA, htb, hc0⟩ := (HS.out.new HM.out).2 (by omega)
        have hct := fun W (h : New w W) => contains_take A n c k l l[k] W (HS.out.new h) (by omega) (by omega)
        have hsz := HZ.out _ (List.getElem_mem hkl)
        subst hA
        have hgl := htb.lt
        have hcell := hc0 k hkl 0 (by omega)
        simp only [Nat.mul_one, Nat.add_zero, sEnc] at hcell
        have q := rt_isHostPattern l[k] wr (by omega) (HX.out.new HM.out)
        have HFF : Hid (hostF (l.take k) l[k] = if !hostPat l[k] then 3 else if Lib.containsS (l.take k) l[k] then 6 else 0) := Lib.hid rfl
        have HCT := Lib.hid hct
        clear hct htb hc0
        generalize l[k] = x at *
        generalize Lib.containsS (l.take k) x = cn at *
        have hb2 : (0 : Int) ≤ k := by omega
        have hb3 : (k : Int) < n := by omega
        have hb4 : (k : Int) ≤ c := by omega
        cases hp : hostPat x
        · rw [hp] at q HFF
          have HE : Hid (hostsF l = 3) := Lib.hid (by rw [HR.out, HST.out, HFF.out]; rfl)
          clear hp
          go_wp2_with fail
          refine q.mono ?_
          clear q
          rintro e w2 ⟨rfl, m2⟩
          have HM2 := Lib.hid (HM.out.trans m2)
          clear m2
          go_wp2_with fail
          go_ret
          exact ⟨ret_int HE.out.symm, HM2.out⟩
        · rw [hp] at q HFF
          clear hp
          go_wp2_with fail
          refine q.mono ?_
          clear q
          rintro e w2 ⟨rfl, m2⟩
          have HM2 := Lib.hid (HM.out.trans m2)
          have q2 := HCT.out _ HM2.out
          clear m2
          cases cn
          · have HE : Hid (hostsF l = eachF hostF (l.take (k + 1)) (l.drop (k + 1))) := Lib.hid (by rw [HR.out, HST.out, HFF.out]; rfl)
            go_wp2_with fail
            refine q2.mono ?_
            clear q2
            rintro e w3 ⟨rfl, rfl⟩
            go_wp2_with fail
            exact ⟨⟨k + 1, by omega, by go_num, HE, HM2⟩, by simp [intOf]; omega⟩
          · have HE : Hid (hostsF l = 6) := Lib.hid (by rw [HR.out, HST.out, HFF.out]; rfl)
            go_wp2_with fail
            refine q2.mono ?_
            clear q2
            rintro e w3 ⟨rfl, rfl⟩
            go_wp2_with fail
            go_ret
            exact ⟨ret_int HE.out.symm, HM2.out⟩
      · obtain rfl : k = n := by omega
        have HE : Hid (hostsF l = 0) := Lib.hid (by have := HL.out; rw [HR.out, ← this]; exact eachF_end _ _)
        go_wp2_with fail
        go_ret
        exact ⟨ret_int HE.out.symm, HM.out⟩
theorem tok_ascii_all {s : ByteArray} (h : isTok s = true) : ∀ (j : Nat) (b : UInt8), s.data.toList[j]? = some b → b.toNat < 128 := fun j b hb => by
  unfold isTok at h
  simp only [Bool.and_eq_true, List.all_eq_true] at h
  exact tok_ascii (h.1.1 b (List.mem_of_getElem? hb))
theorem upper_beq (s : ByteArray) : ((⟨(Lib.toUpperA s.data.toList).toArray⟩ : ByteArray).toList == s.toList) = noLow s.data.toList := by
  rw [← upper_self, ByteArray.toList_eq, ByteArray.toList_eq, Bool.eq_iff_iff]
  simp
theorem lower_beq (s : ByteArray) : ((⟨(Lib.toLowerA s.data.toList).toArray⟩ : ByteArray).toList == s.toList) = noUp s.data.toList := by
  rw [← lower_self, ByteArray.toList_eq, ByteArray.toList_eq, Bool.eq_iff_iff]
  simp
set_option maxHeartbeats 1000000 in
theorem rt_methodsFault (A : Option Addr) (n c : Nat) (l : List ByteArray) (w : World) (h : SSl1 w A n l) (hcap : n ≤ c) (hn : n ≤ 200000) (hz : ∀ s ∈ l, s.size ≤ 200000) (hx : MaxLn w) :
    Calls Tryz.prog 102 #[.slice A n c] w fun e w' => e = .returned (.int .i64 (methodsF l)) ∧ New w w' := by
  have hl := h.1
  by_cases hb : 20 < n
  · have hb' : (20 : Int) < n := by omega
    have HR : Hid (methodsF l = 2) := Lib.hid (by unfold methodsF; rw [if_pos (by omega)])
    go_enter Tryz.func102, Tryz.ntmps102
    go_wp2_with fail
    go_ret
    exact ⟨ret_int HR.out.symm, Mod.refl _ _⟩
  · have hb' : ¬ (20 : Int) < n := by omega
    have HR : Hid (methodsF l = eachF methodF (l.take 0) (l.drop 0)) := Lib.hid (by unfold methodsF; rw [if_neg (by omega)]; rfl)
    have HS := Lib.hid h
    have HZ := Lib.hid hz
    have HX := Lib.hid hx
    have HL := Lib.hid hl
    clear h hz hx hl hb
    go_enter Tryz.func102, Tryz.ntmps102
    go_wp2_with fail
    go_loopw [10] (fun i wr => ∃ k : Nat, k ≤ n ∧ i = .int .i64 k ∧ Hid (methodsF l = eachF methodF (l.take k) (l.drop k)) ∧ Hid (New w wr)) (fun i _ => n - (intOf i).toNat)
    case atStart => exact ⟨0, Nat.zero_le _, rfl, HR, Lib.hid (Mod.refl _ _)⟩
    clear HR
    case round =>
      rename World => wr
      obtain ⟨k, hk, rfl, HR, HM⟩ := hrel
      by_cases hlt : k < n
      · have hkl : k < l.length := by have := HL.out; omega
        have HST := Lib.hid (eachF_step methodF hkl)
        obtain ⟨g, o, hA, htb, hc0⟩ := (HS.out.new HM.out).2 (by omega)
        have hct := fun W (h : New w W) => contains_take A n c k l l[k] W (HS.out.new h) (by omega) (by omega)
        have hsz := HZ.out _ (List.getElem_mem hkl)
        subst hA
        have hgl := htb.lt
        have hcell := hc0 k hkl 0 (by omega)
        simp only [Nat.mul_one, Nat.add_zero, sEnc] at hcell
        have q := msg_isToken l[k] wr (by unfold maxLen; omega)
        have qu := fun W (h : isTok l[k] = true) => Tryz.strings_ToUpper_ascii l[k] W (by omega) (tok_ascii_all h)
        have HU := Lib.hid qu
        have HBQ := Lib.hid (upper_beq l[k])
        clear qu
        have HFF : Hid (methodF (l.take k) l[k] = if !(isTok l[k] && noLow l[k].data.toList) then 5 else if Lib.containsS (l.take k) l[k] then 6 else 0) := Lib.hid rfl
        have HCT := Lib.hid hct
        clear hct htb hc0
        generalize l[k] = x at *
        generalize Lib.containsS (l.take k) x = cn at *
        have hb2 : (0 : Int) ≤ k := by omega
        have hb3 : (k : Int) < n := by omega
        have hb4 : (k : Int) ≤ c := by omega
        cases hp : isTok x
        · rw [hp] at q HFF
          have HE : Hid (methodsF l = 5) := Lib.hid (by rw [HR.out, HST.out, HFF.out]; rfl)
          clear hp
          go_wp2_with fail
          refine q.mono ?_
          clear q
          rintro e w2 ⟨rfl, rfl⟩
          go_wp2_with fail
          go_ret
          exact ⟨ret_int HE.out.symm, HM.out⟩
        · have HUU := Lib.hid (fun W => HU.out W hp)
          rw [hp] at q HFF
          clear hp HU
          have hbq := HBQ.out
          generalize (⟨(Lib.toUpperA x.data.toList).toArray⟩ : ByteArray) = T at *
          generalize noLow x.data.toList = nl at *
          clear HBQ
          go_wp2_with fail
          refine q.mono ?_
          clear q
          rintro e w2 ⟨rfl, rfl⟩
          have qu := HUU.out wr
          cases nl
          · have HE : Hid (methodsF l = 5) := Lib.hid (by rw [HR.out, HST.out, HFF.out]; rfl)
            go_wp2_with fail
            refine qu.mono ?_
            clear qu
            rintro e w3 ⟨rfl, m3⟩
            have HM3 := Lib.hid (HM.out.trans (Mod.of_below m3))
            clear m3
            go_wp2_with fail
            go_ret
            exact ⟨ret_int HE.out.symm, HM3.out⟩
          · go_wp2_with fail
            refine qu.mono ?_
            clear qu
            rintro e w3 ⟨rfl, m3⟩
            have HM2 := Lib.hid (HM.out.trans (Mod.of_below m3))
            have q2 := HCT.out _ HM2.out
            clear m3
            cases cn
            · have HE : Hid (methodsF l = eachF methodF (l.take (k + 1)) (l.drop (k + 1))) := Lib.hid (by rw [HR.out, HST.out, HFF.out]; rfl)
              go_wp2_with fail
              refine q2.mono ?_
              clear q2
              rintro e w3 ⟨rfl, rfl⟩
              go_wp2_with fail
              exact ⟨⟨k + 1, by omega, by go_num, HE, HM2⟩, by simp [intOf]; omega⟩
            · have HE : Hid (methodsF l = 6) := Lib.hid (by rw [HR.out, HST.out, HFF.out]; rfl)
              go_wp2_with fail
              refine q2.mono ?_
              clear q2
              rintro e w3 ⟨rfl, rfl⟩
              go_wp2_with fail
              go_ret
              exact ⟨ret_int HE.out.symm, HM2.out⟩
      · obtain rfl : k = n := by omega
        have HE : Hid (methodsF l = 0) := Lib.hid (by have := HL.out; rw [HR.out, ← this]; exact eachF_end _ _)
        go_wp2_with fail
        go_ret
        exact ⟨ret_int HE.out.symm, HM.out⟩
end Go.Proofs.YtnbcfpjalgfikaaGreatDoor

namespace Go.Proofs.YtnbcfpjalgfikaaGreatDoor
open Go.RowKit
set_option linter.unusedVariables false
set_option linter.unusedSimpArgs false

theorem hasPair_take {l : List PairD} {k : Nat} (h : k < l.length) (p : PairD) : hasPair (l.take (k + 1)) p = (hasPair (l.take k) p || (decide (l[k].1 = p.1) && decide (l[k].2 = p.2))) := by
  unfold hasPair
  rw [List.take_succ_eq_append_getElem h, List.any_append]
  simp
theorem hasPair_more {l : List PairD} {j k : Nat} (h : j ≤ k) (p : PairD) (hp : hasPair (l.take j) p = true) : hasPair (l.take k) p = true := by
  unfold hasPair at hp ⊢
  rw [List.any_eq_true] at hp ⊢
  obtain ⟨q, h1, h2⟩ := hp
  exact ⟨q, (List.take_sublist_take_left h).subset h1, h2⟩
theorem ba_beq (a b : ByteArray) : (a.toList == b.toList) = decide (a = b) := by
  rw [ByteArray.toList_eq, ByteArray.toList_eq, Bool.eq_iff_iff]
  simp only [beq_iff_eq, decide_eq_true_eq]
  exact ⟨fun h => ByteArray.ext (Array.toList_inj.mp h), fun h => by rw [h]⟩
set_option maxHeartbeats 1000000 in
theorem index_pair (A : Option Addr) (n c k : Nat) (l : List PairD) (p : PairD) (w : World) (h : QSl w A n l) (hk : k ≤ n) (hn : n ≤ 1000000) :
    Calls Tryz.prog 80 #[.slice A k c, pairVal p] w fun e w' => (∃ i : Int, e = .returned (.int .i64 i) ∧ decide (0 ≤ i) = hasPair (l.take k) p) ∧ New w w' := by
  have hl := h.1
  have HS := Lib.hid h
  have hb := Blk.new w 55 #[.string p.1, .string p.2]
  have m1 : New w (w.alloc (.cells #[.string p.1, .string p.2] 55)) := (Mod.refl _ _).alloc _
  obtain ⟨pn, pv⟩ := p
  simp only [pairVal] at hb m1 ⊢
  go_enter Tryz.func80, Tryz.ntmps80
  go_upto_region 1 with (fail)
  have HSL := Lib.hid (h.new m1)
  have HB := Lib.hid hb
  have HM := Lib.hid m1
  clear h hb m1
  generalize w.alloc (.cells #[.string pn, .string pv] 55) = w1 at *
  generalize w.heap.size = pb at *
  go_wp2_with fail
  go_loopw [5, 8] (fun _ i wr => ∃ j : Nat, j ≤ k ∧ i = .int .i64 j ∧ Hid (hasPair (l.take j) (pn, pv) = false) ∧ ∃ q, wr = w1.drewN q) (fun _ i _ => k - (intOf i).toNat)
  case atStart => exact ⟨0, Nat.zero_le _, rfl, Lib.hid rfl, 0, rfl⟩
  case round =>
    obtain ⟨j, hj, rfl, HH, q, rfl⟩ := hrel
    by_cases hlt : j < k
    · have hjl : j < l.length := by omega
      have HT := Lib.hid (hasPair_take hjl (pn, pv))
      obtain ⟨g1, o1, hA1, t1, k1⟩ := HSL.out.2 (by omega)
      subst hA1
      have a0 := k1 j hjl 0 (by omega)
      have a1 := k1 j hjl 1 (by omega)
      have b0 := HB.out.cell 0
      have b1 := HB.out.cell 1
      have bl := HB.out.lt
      simp only [List.getElem?_toArray, List.getElem?_cons_zero, List.getElem?_cons_succ] at b0 b1
      simp only [pairEnc, Nat.add_zero] at a0 a1
      have l1 := t1.lt
      have hb1 : (0 : Int) ≤ j := by omega
      have hb2 : (j : Int) < k := by omega
      clear k1
      generalize l[j] = z at *
      obtain ⟨zn, zv⟩ := z
      simp only at a0 a1 HT
      have e1 := ba_beq pn zn
      have e2 := ba_beq pv zv
      by_cases h1 : zn = pn
      · rw [decide_eq_true h1.symm] at e1
        by_cases h2 : zv = pv
        · rw [decide_eq_true h2.symm] at e2
          have HY : Hid (hasPair (l.take k) (pn, pv) = true) := Lib.hid (hasPair_more (show j + 1 ≤ k by omega) _ (by rw [HT.out, h1, h2]; simp))
          clear h1 h2
          go_wp2_with fail
          go_quiet (fail)
          go_wp2_with fail
          go_ret
          exact ⟨⟨j, rfl, by rw [HY.out]; simp⟩, HM.out.trans (((Mod.refl _ _).drewN _).drewN _)⟩
        · rw [decide_eq_false (fun e => h2 e.symm)] at e2
          have HY : Hid (hasPair (l.take (j + 1)) (pn, pv) = false) := Lib.hid (by rw [HT.out, HH.out]; simp [h2])
          clear h1 h2
          go_wp2_with fail
          go_quiet (fail)
          go_wp2_with fail
          exact ⟨⟨j + 1, by omega, by go_num, HY, _, rfl⟩, by simp [intOf]; omega⟩
      · rw [decide_eq_false (fun e => h1 e.symm)] at e1
        have HY : Hid (hasPair (l.take (j + 1)) (pn, pv) = false) := Lib.hid (by rw [HT.out, HH.out]; simp [h1])
        clear h1
        go_wp2_with fail
        go_quiet (fail)
        go_wp2_with fail
        exact ⟨⟨j + 1, by omega, by go_num, HY, _, rfl⟩, by simp [intOf]; omega⟩
    · obtain rfl : j = k := by omega
      go_wp2_with fail
      go_ret
      exact ⟨⟨-1, rfl, by rw [HH.out]; rfl⟩, HM.out.trans ((Mod.refl _ _).drewN _)⟩
set_option maxHeartbeats 1000000 in
theorem contains_pair (A : Option Addr) (n c k : Nat) (l : List PairD) (p : PairD) (w : World) (h : QSl w A n l) (hk : k ≤ n) (hn : n ≤ 1000000) :
    Calls Tryz.prog 50 #[.slice A k c, pairVal p] w fun e w' => e = .returned (.bool (hasPair (l.take k) p)) ∧ New w w' := by
  have hb := Blk.new w 55 #[.string p.1, .string p.2]
  have m1 : New w (w.alloc (.cells #[.string p.1, .string p.2] 55)) := (Mod.refl _ _).alloc _
  have q := index_pair A n c k l p _ (h.new m1) hk hn
  obtain ⟨pn, pv⟩ := p
  simp only [pairVal] at hb m1 q ⊢
  have b0 := hb.cell 0
  have b1 := hb.cell 1
  have bl := hb.lt
  simp only [List.getElem?_toArray, List.getElem?_cons_zero, List.getElem?_cons_succ] at b0 b1
  have HM := Lib.hid m1
  clear h hb m1
  go_enter Tryz.func50, Tryz.ntmps50
  go_wp2_with fail
  refine q.mono ?_
  clear q
  rintro e w2 ⟨⟨i, rfl, hi⟩, m2⟩
  have HM2 := Lib.hid (HM.out.trans m2)
  clear m2
  go_wp2_with fail
  go_ret
  exact ⟨ret_bool (by first | exact hi | rfl), HM2.out⟩
set_option maxRecDepth 100000 in
set_option maxHeartbeats 1000000 in
theorem rt_needsFault (A : Option Addr) (n c : Nat) (l : List PairD) (w : World) (h : QSl w A n l) (hcap : n ≤ c) (hn : n ≤ 200000) (hz : ∀ p ∈ l, p.1.size ≤ 200000 ∧ p.2.size ≤ 200000) :
    Calls Tryz.prog 103 #[.slice A n c] w fun e w' => e = .returned (.int .i64 (needsF l)) ∧ New w w' := by
  have hl := h.1
  by_cases hb : 20 < n
  · have hb' : (20 : Int) < n := by omega
    have HR : Hid (needsF l = 2) := Lib.hid (by unfold needsF; rw [if_pos (by omega)])
    go_enter Tryz.func103, Tryz.ntmps103
    go_wp2_with fail
    go_ret
    exact ⟨ret_int HR.out.symm, Mod.refl _ _⟩
  · have hb' : ¬ (20 : Int) < n := by omega
    have HR : Hid (needsF l = eachF needF (l.take 0) (l.drop 0)) := Lib.hid (by unfold needsF; rw [if_neg (by omega)]; rfl)
    have HS := Lib.hid h
    have HZ := Lib.hid hz
    have HL := Lib.hid hl
    clear h hz hl hb
    go_enter Tryz.func103, Tryz.ntmps103
    go_wp2_with fail
    go_loopw [10] (fun i wr => ∃ k : Nat, k ≤ n ∧ i = .int .i64 k ∧ Hid (needsF l = eachF needF (l.take k) (l.drop k)) ∧ Hid (New w wr)) (fun i _ => n - (intOf i).toNat)
    case atStart => exact ⟨0, Nat.zero_le _, rfl, HR, Lib.hid (Mod.refl _ _)⟩
    clear HR
    case round =>
      rename World => wr
      obtain ⟨k, hk, rfl, HR, HM⟩ := hrel
      by_cases hlt : k < n
      · have hkl : k < l.length := by have := HL.out; omega
        have HST := Lib.hid (eachF_step needF hkl)
        obtain ⟨g, o, hA, htb, hc0⟩ := (HS.out.new HM.out).2 (by omega)
        have hct := fun W (h : New w W) => contains_pair A n c k l l[k] W (HS.out.new h) (by omega) (by omega)
        have hsz := HZ.out _ (List.getElem_mem hkl)
        subst hA
        have hgl := htb.lt
        have a0 := hc0 k hkl 0 (by omega)
        have a1 := hc0 k hkl 1 (by omega)
        simp only [pairEnc, Nat.add_zero] at a0 a1
        have HFF : Hid (needF (l.take k) l[k] = if !(isTok l[k].1 && noUp l[k].1.data.toList) then 5 else if !isFld l[k].2 then 3 else if hasPair (l.take k) l[k] then 6 else 0) := Lib.hid rfl
        have HCT := Lib.hid hct
        clear hct htb hc0
        generalize l[k] = x at *
        obtain ⟨xn, xv⟩ := x
        simp only at a0 a1 HFF hsz
        generalize hasPair (l.take k) (xn, xv) = cn at *
        have hb2 : (0 : Int) ≤ k := by omega
        have hb3 : (k : Int) < n := by omega
        have hb4 : (k : Int) ≤ c := by omega
        have bp := Blk.new wr 55 #[.string xn, .string xv]
        have mp : New wr (wr.alloc (.cells #[.string xn, .string xv] 55)) := (Mod.refl _ _).alloc _
        go_upto_region 6 with (fail)
        have HMP := Lib.hid (HM.out.trans mp)
        have HBP := Lib.hid bp
        clear a0 a1 bp mp hgl
        generalize wr.alloc (.cells #[.string xn, .string xv] 55) = w1 at *
        generalize wr.heap.size = pb at *
        have HSP : Hid (∀ W, New w1 W → W.cell? ⟨pb, 0, none⟩ = some (.string xn) ∧ W.cell? ⟨pb, 1, none⟩ = some (.string xv) ∧ pb < W.heap.size) := Lib.hid (fun W hW => by
          have h := HBP.out.mod hW (fun e => e)
          exact ⟨(h.cell 0).trans rfl, (h.cell 1).trans rfl, h.lt⟩)
        have hn1 : New w1 w1.drew := (Mod.refl _ _).drew
        have q := msg_isToken xn w1.drew (by unfold maxLen; omega)
        have qu := fun W (h : isTok xn = true) => Tryz.strings_ToLower_ascii xn W (by omega) (tok_ascii_all h)
        have HU := Lib.hid qu
        have hbq := lower_beq xn
        generalize (⟨(Lib.toLowerA xn.data.toList).toArray⟩ : ByteArray) = T at *
        generalize noUp xn.data.toList = nu at *
        clear qu
        go_cut [15] (fun s wx => s = .bool (!(isTok xn && nu)) ∧ Hid (New w1 wx))
        case first =>
          have HTK : Hid (∀ b, isTok xn = b → (!(isTok xn && nu)) = !(b && nu)) := Lib.hid (fun b e => by rw [e])
          cases hp : isTok xn
          · rw [hp] at q
            have HQ := Lib.hid (HTK.out _ hp)
            clear hp HTK HU
            refine wp_region_held_ord (New w1) [2, 7] [0, 1, 2, 3, 4, 5, 6, 8, 9, 7, 10] (by kernel_rfl) (by kernel_rfl) (fun _ _ d _ _ h => by cases d <;> exact h) ?_ (fun hHeld => ?_)
            · exact hn1
            simp only [List.length_cons, List.length_nil, List.drop_succ_cons, List.drop_zero]
            refine heldO_take ?_ (by rfl) (by rfl) (by rfl) (fun w hSw => ?_) ?_
            rotate_left
            · (have hq := HSP.out w hSw); (try simp only [List.getElem_toArray, List.getElem_cons_zero, List.getElem_cons_succ]); go_simp; any_goals (with_reducible rfl)
            simp only [Act.put, List.getElem_toArray, List.getElem_cons_zero, List.getElem_cons_succ, List.setIfInBounds_toArray, List.set_cons_zero, List.set_cons_succ]
            refine heldO_take ?_ (by rfl) (by rfl) (by rfl) (fun w hSw => ?_) ?_
            rotate_left
            · (have hq := HSP.out w hSw); (try simp only [List.getElem_toArray, List.getElem_cons_zero, List.getElem_cons_succ]); go_simp; any_goals (with_reducible rfl)
            simp only [Act.put, List.getElem_toArray, List.getElem_cons_zero, List.getElem_cons_succ, List.setIfInBounds_toArray, List.set_cons_zero, List.set_cons_succ]
            refine heldQ_step (by rfl) (by rfl) (by rfl) (fun K hK => ?_)
            go_simp
            refine q.mono ?_
            clear q
            rintro e w' ⟨rfl, rfl⟩
            go_wp2_with fail
            refine hK.out _ _ hn1 (fun hHeld => ?_)
            clear hK K hHeld
            try simp only [Act.put, List.setIfInBounds_toArray, List.set_cons_zero, List.set_cons_succ]
            refine heldO_take ?_ (by rfl) (by rfl) (by rfl) (fun w hSw => ?_) ?_
            rotate_left
            · (have hq := HSP.out w hSw); (try simp only [List.getElem_toArray, List.getElem_cons_zero, List.getElem_cons_succ]); go_simp; any_goals (with_reducible rfl)
            simp only [Act.put, List.getElem_toArray, List.getElem_cons_zero, List.getElem_cons_succ, List.setIfInBounds_toArray, List.set_cons_zero, List.set_cons_succ]
            refine heldO_take ?_ (by rfl) (by rfl) (by rfl) (fun w hSw => ?_) ?_
            rotate_left
            · (have hq := HSP.out w hSw); (try simp only [List.getElem_toArray, List.getElem_cons_zero, List.getElem_cons_succ]); go_simp; any_goals (with_reducible rfl)
            simp only [Act.put, List.getElem_toArray, List.getElem_cons_zero, List.getElem_cons_succ, List.setIfInBounds_toArray, List.set_cons_zero, List.set_cons_succ]
            refine heldQ_skip (by rfl) (by rfl) (by rfl) ?_
            simp only [Act.put, List.getElem_toArray, List.getElem_cons_zero, List.getElem_cons_succ, List.setIfInBounds_toArray, List.set_cons_zero, List.set_cons_succ]
            refine heldQ_skip (by rfl) (by rfl) (by rfl) ?_
            simp only [Act.put, List.getElem_toArray, List.getElem_cons_zero, List.getElem_cons_succ, List.setIfInBounds_toArray, List.set_cons_zero, List.set_cons_succ]
            refine heldQ_skip (by rfl) (by rfl) (by rfl) ?_
            simp only [Act.put, List.getElem_toArray, List.getElem_cons_zero, List.getElem_cons_succ, List.setIfInBounds_toArray, List.set_cons_zero, List.set_cons_succ]
            refine heldQ_skip (by rfl) (by rfl) (by rfl) ?_
            simp only [Act.put, List.getElem_toArray, List.getElem_cons_zero, List.getElem_cons_succ, List.setIfInBounds_toArray, List.set_cons_zero, List.set_cons_succ]
            refine heldQ_skipC (by rfl) (by rfl) (by rfl) (by assumption) ?_
            simp only [Act.put, List.getElem_toArray, List.getElem_cons_zero, List.getElem_cons_succ, List.setIfInBounds_toArray, List.set_cons_zero, List.set_cons_succ]
            refine heldQ_skip (by rfl) (by rfl) (by rfl) ?_
            simp only [Act.put, List.getElem_toArray, List.getElem_cons_zero, List.getElem_cons_succ, List.setIfInBounds_toArray, List.set_cons_zero, List.set_cons_succ]
            refine heldO_nil ?_
            go_wp2_with fail
            go_meet
            case rel => exact ⟨by rw [HQ.out]; rfl, Lib.hid hn1⟩
          · have HUU := Lib.hid (fun W => HU.out W hp)
            rw [hp] at q
            have HQ := Lib.hid (HTK.out _ hp)
            clear hp HTK HU
            refine wp_region_held_ord (New w1) [2, 7] [0, 1, 2, 3, 4, 5, 6, 8, 9, 7, 10] (by kernel_rfl) (by kernel_rfl) (fun _ _ d _ _ h => by cases d <;> exact h) ?_ (fun hHeld => ?_)
            · exact hn1
            simp only [List.length_cons, List.length_nil, List.drop_succ_cons, List.drop_zero]
            refine heldO_take ?_ (by rfl) (by rfl) (by rfl) (fun w hSw => ?_) ?_
            rotate_left
            · (have hq := HSP.out w hSw); (try simp only [List.getElem_toArray, List.getElem_cons_zero, List.getElem_cons_succ]); go_simp; any_goals (with_reducible rfl)
            simp only [Act.put, List.getElem_toArray, List.getElem_cons_zero, List.getElem_cons_succ, List.setIfInBounds_toArray, List.set_cons_zero, List.set_cons_succ]
            refine heldO_take ?_ (by rfl) (by rfl) (by rfl) (fun w hSw => ?_) ?_
            rotate_left
            · (have hq := HSP.out w hSw); (try simp only [List.getElem_toArray, List.getElem_cons_zero, List.getElem_cons_succ]); go_simp; any_goals (with_reducible rfl)
            simp only [Act.put, List.getElem_toArray, List.getElem_cons_zero, List.getElem_cons_succ, List.setIfInBounds_toArray, List.set_cons_zero, List.set_cons_succ]
            refine heldQ_step (by rfl) (by rfl) (by rfl) (fun K hK => ?_)
            go_simp
            refine q.mono ?_
            clear q
            rintro e w' ⟨rfl, rfl⟩
            go_wp2_with fail
            refine hK.out _ _ hn1 (fun hHeld => ?_)
            clear hK K hHeld
            try simp only [Act.put, List.setIfInBounds_toArray, List.set_cons_zero, List.set_cons_succ]
            refine heldO_take ?_ (by rfl) (by rfl) (by rfl) (fun w hSw => ?_) ?_
            rotate_left
            · (have hq := HSP.out w hSw); (try simp only [List.getElem_toArray, List.getElem_cons_zero, List.getElem_cons_succ]); go_simp; any_goals (with_reducible rfl)
            simp only [Act.put, List.getElem_toArray, List.getElem_cons_zero, List.getElem_cons_succ, List.setIfInBounds_toArray, List.set_cons_zero, List.set_cons_succ]
            refine heldO_take ?_ (by rfl) (by rfl) (by rfl) (fun w hSw => ?_) ?_
            rotate_left
            · (have hq := HSP.out w hSw); (try simp only [List.getElem_toArray, List.getElem_cons_zero, List.getElem_cons_succ]); go_simp; any_goals (with_reducible rfl)
            simp only [Act.put, List.getElem_toArray, List.getElem_cons_zero, List.getElem_cons_succ, List.setIfInBounds_toArray, List.set_cons_zero, List.set_cons_succ]
            refine heldO_take ?_ (by rfl) (by rfl) (by rfl) (fun w hSw => ?_) ?_
            rotate_left
            · (have hq := HSP.out w hSw); (try simp only [List.getElem_toArray, List.getElem_cons_zero, List.getElem_cons_succ]); go_simp; any_goals (with_reducible rfl)
            simp only [Act.put, List.getElem_toArray, List.getElem_cons_zero, List.getElem_cons_succ, List.setIfInBounds_toArray, List.set_cons_zero, List.set_cons_succ]
            refine heldO_take ?_ (by rfl) (by rfl) (by rfl) (fun w hSw => ?_) ?_
            rotate_left
            · (have hq := HSP.out w hSw); (try simp only [List.getElem_toArray, List.getElem_cons_zero, List.getElem_cons_succ]); go_simp; any_goals (with_reducible rfl)
            simp only [Act.put, List.getElem_toArray, List.getElem_cons_zero, List.getElem_cons_succ, List.setIfInBounds_toArray, List.set_cons_zero, List.set_cons_succ]
            refine heldO_take ?_ (by rfl) (by rfl) (by rfl) (fun w hSw => ?_) ?_
            rotate_left
            · (have hq := HSP.out w hSw); (try simp only [List.getElem_toArray, List.getElem_cons_zero, List.getElem_cons_succ]); go_simp; any_goals (with_reducible rfl)
            simp only [Act.put, List.getElem_toArray, List.getElem_cons_zero, List.getElem_cons_succ, List.setIfInBounds_toArray, List.set_cons_zero, List.set_cons_succ]
            refine heldO_take ?_ (by rfl) (by rfl) (by rfl) (fun w hSw => ?_) ?_
            rotate_left
            · (have hq := HSP.out w hSw); (try simp only [List.getElem_toArray, List.getElem_cons_zero, List.getElem_cons_succ]); go_simp; any_goals (with_reducible rfl)
            simp only [Act.put, List.getElem_toArray, List.getElem_cons_zero, List.getElem_cons_succ, List.setIfInBounds_toArray, List.set_cons_zero, List.set_cons_succ]
            refine heldQ_step (by rfl) (by rfl) (by rfl) (fun K hK => ?_)
            go_simp
            refine (HUU.out _).mono ?_
            rintro e w3 ⟨rfl, m3⟩
            have hn3 : New w1 w3 := hn1.trans (Mod.of_below m3)
            go_wp2_with fail
            refine hK.out _ _ hn3 (fun hHeld => ?_)
            clear hK K hHeld m3
            try simp only [Act.put, List.setIfInBounds_toArray, List.set_cons_zero, List.set_cons_succ]
            refine heldO_take ?_ (by rfl) (by rfl) (by rfl) (fun w hSw => ?_) ?_
            rotate_left
            · (have hq := HSP.out w hSw); (try simp only [List.getElem_toArray, List.getElem_cons_zero, List.getElem_cons_succ]); go_simp; any_goals (with_reducible rfl)
            simp only [Act.put, List.getElem_toArray, List.getElem_cons_zero, List.getElem_cons_succ, List.setIfInBounds_toArray, List.set_cons_zero, List.set_cons_succ]
            refine heldO_nil ?_
            go_wp2_with fail
            go_meet
            case rel => exact ⟨by rw [HQ.out]; cases nu <;> rfl, Lib.hid hn3⟩
        case rest =>
          rename World => w2
          obtain ⟨rfl, HM2⟩ := hcut
          clear q HU hbq hn1
          cases hp : (isTok xn && nu)
          · have HE : Hid (needsF l = 5) := Lib.hid (by rw [HR.out, HST.out, HFF.out, hp]; rfl)
            clear hp
            go_wp2_with fail
            go_ret
            exact ⟨ret_int HE.out.symm, HMP.out.trans HM2.out⟩
          · rw [hp] at HFF
            simp only [Bool.not_true, Bool.false_eq_true, if_false] at HFF
            clear hp
            obtain ⟨p0, p1, pl⟩ := HSP.out _ HM2.out
            have qf := msg_isField xv w2 (by omega)
            cases hf : isFld xv
            · have HE : Hid (needsF l = 3) := Lib.hid (by rw [HR.out, HST.out, HFF.out, hf]; rfl)
              rw [hf] at qf
              clear hf
              go_wp2_with fail
              refine qf.mono ?_
              clear qf
              rintro e w3 ⟨rfl, m3⟩
              have HM3 := Lib.hid ((HMP.out.trans HM2.out).trans m3)
              go_wp2_with fail
              go_ret
              exact ⟨ret_int HE.out.symm, HM3.out⟩
            · rw [hf] at HFF qf
              simp only [Bool.not_true, Bool.false_eq_true, if_false] at HFF
              clear hf
              go_wp2_with fail
              refine qf.mono ?_
              clear qf
              rintro e w3 ⟨rfl, m3⟩
              have HM3 := Lib.hid (HM2.out.trans m3)
              clear m3 p0 p1 pl
              go_upto_region 10 with (fail)
              have HSQ : Hid (∀ W, New w3 W → W.cell? ⟨pb, 0, none⟩ = some (.string xn) ∧ W.cell? ⟨pb, 1, none⟩ = some (.string xv) ∧ pb < W.heap.size) := Lib.hid (fun W hW => HSP.out W (HM3.out.trans hW))
              have hn3 : New w3 w3.drew := (Mod.refl _ _).drew
              have hct := HCT.out w3.drew ((HMP.out.trans HM3.out).trans hn3)
              simp only [pairVal] at hct
              refine wp_region_held_ord (New w3) [4] [0, 1, 2, 3, 4] (by kernel_rfl) (by kernel_rfl) (fun _ _ d _ _ h => by cases d <;> exact h) ?_ (fun hHeld => ?_)
              · exact hn3
              simp only [List.length_cons, List.length_nil, List.drop_succ_cons, List.drop_zero]
              refine heldO_take ?_ (by rfl) (by rfl) (by rfl) (fun w hSw => ?_) ?_
              rotate_left
              · (have hq := HSQ.out w hSw); (try simp only [List.getElem_toArray, List.getElem_cons_zero, List.getElem_cons_succ]); go_simp; any_goals (with_reducible rfl)
              simp only [Act.put, List.getElem_toArray, List.getElem_cons_zero, List.getElem_cons_succ, List.setIfInBounds_toArray, List.set_cons_zero, List.set_cons_succ]
              refine heldO_take ?_ (by rfl) (by rfl) (by rfl) (fun w hSw => ?_) ?_
              rotate_left
              · (have hq := HSQ.out w hSw); (try simp only [List.getElem_toArray, List.getElem_cons_zero, List.getElem_cons_succ]); go_simp; any_goals (with_reducible rfl)
              simp only [Act.put, List.getElem_toArray, List.getElem_cons_zero, List.getElem_cons_succ, List.setIfInBounds_toArray, List.set_cons_zero, List.set_cons_succ]
              refine heldO_take ?_ (by rfl) (by rfl) (by rfl) (fun w hSw => ?_) ?_
              rotate_left
              · (have hq := HSQ.out w hSw); (try simp only [List.getElem_toArray, List.getElem_cons_zero, List.getElem_cons_succ]); go_simp; any_goals (with_reducible rfl)
              simp only [Act.put, List.getElem_toArray, List.getElem_cons_zero, List.getElem_cons_succ, List.setIfInBounds_toArray, List.set_cons_zero, List.set_cons_succ]
              refine heldO_take ?_ (by rfl) (by rfl) (by rfl) (fun w hSw => ?_) ?_
              rotate_left
              · (have hq := HSQ.out w hSw); (try simp only [List.getElem_toArray, List.getElem_cons_zero, List.getElem_cons_succ]); go_simp; any_goals (with_reducible rfl)
              simp only [Act.put, List.getElem_toArray, List.getElem_cons_zero, List.getElem_cons_succ, List.setIfInBounds_toArray, List.set_cons_zero, List.set_cons_succ]
              refine heldQ_step (by rfl) (by rfl) (by rfl) (fun K hK => ?_)
              go_simp
              refine hct.mono ?_
              clear hct
              rintro e w4 ⟨rfl, m4⟩
              have HN4 := Lib.hid (hn3.trans m4)
              have HM4 := Lib.hid ((HMP.out.trans HM3.out).trans (hn3.trans m4))
              go_wp2_with fail
              refine hK.out _ _ HN4.out (fun hHeld => ?_)
              clear hK K hHeld m4 hn3
              try simp only [Act.put, List.setIfInBounds_toArray, List.set_cons_zero, List.set_cons_succ]
              refine heldO_nil ?_
              cases cn
              · have HE : Hid (needsF l = eachF needF (l.take (k + 1)) (l.drop (k + 1))) := Lib.hid (by rw [HR.out, HST.out, HFF.out]; rfl)
                go_wp2_with fail
                exact ⟨⟨k + 1, by omega, by go_num, HE, HM4⟩, by simp [intOf]; omega⟩
              · have HE : Hid (needsF l = 6) := Lib.hid (by rw [HR.out, HST.out, HFF.out]; rfl)
                go_wp2_with fail
                go_ret
                exact ⟨ret_int HE.out.symm, HM4.out⟩
      · obtain rfl : k = n := by omega
        have HE : Hid (needsF l = 0) := Lib.hid (by have := HL.out; rw [HR.out, ← this]; exact eachF_end _ _)
        go_wp2_with fail
        go_ret
        exact ⟨ret_int HE.out.symm, HM.out⟩
end Go.Proofs.YtnbcfpjalgfikaaGreatDoor

namespace Go.Proofs.YtnbcfpjalgfikaaGreatDoor
open Go.RowKit
set_option linter.unusedVariables false
set_option linter.unusedSimpArgs false

/-- the kind of the first parameter with a name -/
def kindAt (P : List PartD) (s : ByteArray) : Int := ((P.find? (isPar s)).map (·.kind)).getD 0
def toA (P T : List PartD) : Bool := T.any fun p => decide (p.kind ≠ 1) && !hasP P p.name
def toB (P T : List PartD) : Bool := T.any fun p => decide (p.kind ≠ 1) && decide (kindAt P p.name ≠ p.kind)
def toFP (P T : List PartD) : Int := if toA P T = true then 8 else if toB P T = true then 10 else 0
theorem firstP_find {α : Type} (f : α → Bool) (l : List α) (h : l.any f = true) : ∃ (i : Nat) (hi : i < l.length), firstP (fun i => (l[i]?).any f) l.length = i ∧ l.find? f = some l[i] := by
  rw [List.any_eq_true] at h
  obtain ⟨x, hx, hf⟩ := h
  cases e : l.find? f with
  | none => rw [List.find?_eq_none] at e; exact absurd hf (e x hx)
  | some y =>
    obtain ⟨h1, i, hi, rfl, h2⟩ := List.find?_eq_some_iff_getElem.1 e
    refine ⟨i, hi, firstP_hit hi (by rw [List.getElem?_eq_getElem hi]; exact h1) (fun j hj => ?_), rfl⟩
    rw [List.getElem?_eq_getElem (by omega)]
    have := h2 j hj
    simpa using this
set_option maxHeartbeats 1000000 in
theorem route_topar (p : PartD) (g : Nat) (k : Int) (s : ByteArray) (w : World) (hg : Blk w g 80 #[.int .i64 k, .string s]) :
    Calls Tryz.prog 140 #[p.val, .pointer (some ⟨g, 0, none⟩)] w fun e w' => e = .returned (.bool (isPar s p)) ∧ New w w' := by
  obtain ⟨pk, pn⟩ := p
  have hx := Blk.new w 80 #[.int .i64 pk, .string pn]
  have hb := hg.new2 ((Mod.refl (fun _ => False) w).alloc (.cells #[.int .i64 pk, .string pn] 80))
  have hlt := hb.lt
  have hgl := hg.lt
  have hc := hb.cell 1
  simp only [List.getElem?_toArray, List.getElem?_cons_zero, List.getElem?_cons_succ] at hc
  have hbq := str_beq pn s
  have HM : Hid (New w (w.alloc (.cells #[.int .i64 pk, .string pn] 80))) := Lib.hid ((Mod.refl _ _).alloc _)
  unfold PartD.val isPar
  simp only
  clear hb hg hx
  by_cases hk : pk = 1
  · subst hk
    go_enter Tryz.func140, Tryz.ntmps140
    go_wp2_with fail
    go_ret
    exact ⟨rfl, HM.out⟩
  · have hk1 : ((pk : Int) != 1) = true := by simpa using hk
    generalize decide (pn = s) = r at *
    rw [decide_eq_true hk]
    go_enter Tryz.func140, Tryz.ntmps140
    go_wp2_with fail
    all_goals go_ret
    all_goals exact ⟨ret_bool (by simp_all), HM.out⟩
theorem enters_topar (args : Array Value) (w : World) : (callFunc 140 args).run Tryz.prog w = .ok (.enter 140 args) w := by
  go_simp
theorem any_step {α : Type} (f : α → Bool) {l : List α} {k : Nat} (h : k < l.length) (hk : (l.take k).any f = false) : (f l[k] = true → l.any f = true) ∧ (f l[k] = false → (l.take (k + 1)).any f = false) := by
  refine ⟨fun e => List.any_eq_true.2 ⟨l[k], List.getElem_mem h, e⟩, fun e => ?_⟩
  rw [List.take_succ_eq_append_getElem h, List.any_append, hk]
  simp [e]
set_option maxRecDepth 100000 in
set_option maxHeartbeats 1000000 in
theorem rt_toFault (A1 A2 : Option Addr) (n1 c1 n2 c2 : Nat) (P T : List PartD) (w : World) (h1 : PSl w A1 n1 P) (h2 : PSl w A2 n2 T) (hn1 : n1 ≤ 100000) (hn2 : n2 ≤ 100000) :
    Calls Tryz.prog 104 #[.slice A1 n1 c1, .slice A2 n2 c2] w fun e w' => e = .returned (.int .i64 (toFP P T)) ∧ New w w' := by
  have hl1 := h1.1
  have hl2 := h2.1
  have HS1 := Lib.hid h1
  have HS2 := Lib.hid h2
  have HL1 := Lib.hid hl1
  have HL2 := Lib.hid hl2
  clear h1 h2 hl1 hl2
  go_enter Tryz.func104, Tryz.ntmps104
  go_wp2_with fail
  go_loopw [12] (fun i wr => ∃ k : Nat, k ≤ n2 ∧ i = .int .i64 k ∧ Hid ((T.take k).any (fun p => decide (p.kind ≠ 1) && !hasP P p.name) = false) ∧ Hid (New w wr)) (fun i _ => n2 - (intOf i).toNat)
  case atStart => exact ⟨0, Nat.zero_le _, rfl, Lib.hid rfl, Lib.hid (Mod.refl _ _)⟩
  case round =>
    rename World => wr
    obtain ⟨k, hk, rfl, HR, HM⟩ := hrel
    by_cases hlt : k < n2
    · have hkl : k < T.length := by have := HL2.out; omega
      have HAS := Lib.hid (any_step (fun p => decide (p.kind ≠ 1) && !hasP P p.name) hkl HR.out)
      obtain ⟨g, o, hA, htb, hc0⟩ := (HS2.out.new HM.out).2 (by omega)
      subst hA
      have hgl := htb.lt
      have a0 := hc0 k hkl 0 (by omega)
      have a1 := hc0 k hkl 1 (by omega)
      simp only [PartD.enc, Nat.add_zero] at a0 a1
      clear htb hc0
      generalize T[k] = x at *
      obtain ⟨xk, xn⟩ := x
      simp only at a0 a1 HAS
      have hb2 : (0 : Int) ≤ k := by omega
      have hb3 : (k : Int) < n2 := by omega
      have bp := Blk.new wr 80 #[.int .i64 xk, .string xn]
      have mp : New wr (wr.alloc (.cells #[.int .i64 xk, .string xn] 80)) := (Mod.refl _ _).alloc _
      have hq := route_hasParam A1 n1 c1 P xn _ ((HS1.out.new HM.out).new mp) hn1
      have p0 := bp.cell 0
      have p1 := bp.cell 1
      have pl := bp.lt
      simp only [List.getElem?_toArray, List.getElem?_cons_zero, List.getElem?_cons_succ] at p0 p1
      have HMP := Lib.hid (HM.out.trans mp)
      clear bp mp
      go_upto_region 4 with (fail)
      generalize wr.alloc (.cells #[.int .i64 xk, .string xn] 80) = w1 at *
      generalize wr.heap.size = pb at *
      by_cases hxk : xk = 1
      · have hk1 : (xk != 1) = false := by simpa using hxk
        have HN := Lib.hid (HAS.out.2 (by simp [hxk]))
        clear hxk hq
        go_wp2_with fail
        exact ⟨⟨k + 1, by omega, by go_num, HN, HMP⟩, by simp [intOf]; omega⟩
      · have hk1 : (xk != 1) = true := by simpa using hxk
        cases hh : hasP P xn
        · have HE : Hid (toFP P T = 8) := Lib.hid (by unfold toFP toA; rw [if_pos (HAS.out.1 (by simp [hxk, hh]))])
          rw [hh] at hq
          clear hxk hh
          go_wp2_with fail
          refine hq.mono ?_
          clear hq
          rintro e w2 ⟨rfl, m2⟩
          have HM2 := Lib.hid (HMP.out.trans m2)
          go_wp2_with fail
          go_ret
          exact ⟨ret_int HE.out.symm, HM2.out⟩
        · have HN := Lib.hid (HAS.out.2 (by simp [hh]))
          rw [hh] at hq
          clear hxk hh
          go_wp2_with fail
          refine hq.mono ?_
          clear hq
          rintro e w2 ⟨rfl, m2⟩
          have HM2 := Lib.hid (HMP.out.trans m2)
          go_wp2_with fail
          exact ⟨⟨k + 1, by omega, by go_num, HN, HM2⟩, by simp [intOf]; omega⟩
    · obtain rfl : n2 = k := by omega
      have HA0 : Hid (toA P T = false) := Lib.hid (by
        have h := HR.out
        rw [← HL2.out, List.take_length] at h
        exact h)
      clear HR
      go_wp2_with fail
      go_loopw [29] (fun i wr => ∃ k : Nat, k ≤ n2 ∧ i = .int .i64 k ∧ Hid ((T.take k).any (fun p => decide (p.kind ≠ 1) && decide (kindAt P p.name ≠ p.kind)) = false) ∧ Hid (New w wr)) (fun i _ => n2 - (intOf i).toNat)
      case atStart => exact ⟨0, Nat.zero_le _, rfl, Lib.hid rfl, HM⟩
      clear HM
      case round =>
        rename World => wr
        obtain ⟨k, hk, rfl, HR, HM⟩ := hrel
        by_cases hlt : k < n2
        · have hkl : k < T.length := by have := HL2.out; omega
          have HAS := Lib.hid (any_step (fun p => decide (p.kind ≠ 1) && decide (kindAt P p.name ≠ p.kind)) hkl HR.out)
          have HAP : Hid (T[k].kind ≠ 1 → hasP P T[k].name = true) := Lib.hid (fun e => by
            have h := HA0.out
            unfold toA at h
            rw [List.any_eq_false] at h
            have h2 := h _ (List.getElem_mem hkl)
            simp [e] at h2
            exact h2)
          obtain ⟨g, o, hA, htb, hc0⟩ := (HS2.out.new HM.out).2 (by omega)
          subst hA
          have hgl := htb.lt
          have a0 := hc0 k hkl 0 (by omega)
          have a1 := hc0 k hkl 1 (by omega)
          simp only [PartD.enc, Nat.add_zero] at a0 a1
          clear htb hc0
          generalize T[k] = x at *
          obtain ⟨xk, xn⟩ := x
          simp only at a0 a1 HAS HAP
          have hb2 : (0 : Int) ≤ k := by omega
          have hb3 : (k : Int) < n2 := by omega
          have bp := Blk.new wr 80 #[.int .i64 xk, .string xn]
          have mp : New wr (wr.alloc (.cells #[.int .i64 xk, .string xn] 80)) := (Mod.refl _ _).alloc _
          have p0 := bp.cell 0
          have pl := bp.lt
          simp only [List.getElem?_toArray, List.getElem?_cons_zero, List.getElem?_cons_succ] at p0
          have HMP := Lib.hid (HM.out.trans mp)
          have HBP := Lib.hid bp
          clear bp mp
          go_upto_region 10 with (fail)
          clear a0 a1 hgl
          generalize wr.alloc (.cells #[.int .i64 xk, .string xn] 80) = w1 at *
          generalize wr.heap.size = pb at *
          by_cases hxk : xk = 1
          · have hk1 : (xk == 1) = true := by simpa using hxk
            have HN := Lib.hid (HAS.out.2 (by simp [hxk]))
            clear hxk
            go_wp2_with fail
            exact ⟨⟨k + 1, by omega, by go_num, HN, HMP⟩, by simp [intOf]; omega⟩
          · have hk1 : (xk == 1) = false := by simpa using hxk
            have hix := indexFunc_part 140 (.pointer (some ⟨pb, 0, none⟩)) enters_topar w1 A1 n1 c1 P xn (HS1.out.new HMP.out) (fun p wq hw => route_topar p pb xk xn wq (HBP.out.new2 hw)) hn1
            obtain ⟨i, hi, e1, e2⟩ := firstP_find (isPar xn) P (by have := HAP.out hxk; unfold hasP at this; exact this)
            rw [HL1.out] at e1
            rw [e1] at hix
            have HKA : Hid (kindAt P xn = P[i].kind) := Lib.hid (by unfold kindAt; rw [e2]; rfl)
            clear e1 e2
            go_wp2_with fail
            clear p0 pl
            refine hix.mono ?_
            clear hix
            rintro e w2 ⟨rfl, m2⟩
            have HM2 := Lib.hid (HMP.out.trans m2)
            have bp2 := HBP.out.new2 m2
            have p0 := bp2.cell 0
            have pl := bp2.lt
            simp only [List.getElem?_toArray, List.getElem?_cons_zero, List.getElem?_cons_succ] at p0
            clear bp2 m2
            have hin : i < n1 := by have := HL1.out; omega
            obtain ⟨g1, o1, hA1, tb1, k1⟩ := (HS1.out.new HM2.out).2 (by omega)
            subst hA1
            have gl1 := tb1.lt
            have b0 := k1 i hi 0 (by omega)
            simp only [PartD.enc, Nat.add_zero] at b0
            clear k1 tb1
            have hb5 : (0 : Int) ≤ i := by omega
            have hb6 : (i : Int) < n1 := by omega
            generalize P[i].kind = y at *
            by_cases hy : y = xk
            · have hyb : (y != xk) = false := by simpa using hy
              have HN := Lib.hid (HAS.out.2 (by simp [HKA.out, hy]))
              clear hy hxk
              go_wp2_with fail
              go_quiet (fail)
              go_wp2_with fail
              exact ⟨⟨k + 1, by omega, by go_num, HN, Lib.hid (HM2.out.drewN _)⟩, by simp [intOf]; omega⟩
            · have hyb : (y != xk) = true := by simpa using hy
              have HE : Hid (toFP P T = 10) := Lib.hid (by
                unfold toFP
                rw [if_neg (by rw [HA0.out]; exact Bool.false_ne_true), if_pos]
                exact HAS.out.1 (by simp [HKA.out, hy, hxk]))
              clear hy hxk
              go_wp2_with fail
              go_quiet (fail)
              go_wp2_with fail
              go_ret
              exact ⟨ret_int HE.out.symm, HM2.out.drewN _⟩
        · obtain rfl : n2 = k := by omega
          have HE : Hid (toFP P T = 0) := Lib.hid (by
            have h := HR.out
            rw [← HL2.out, List.take_length] at h
            unfold toFP toB
            rw [HA0.out, h]
            rfl)
          go_wp2_with fail
          go_ret
          exact ⟨ret_int HE.out.symm, HM.out⟩
end Go.Proofs.YtnbcfpjalgfikaaGreatDoor

namespace Go.Proofs.YtnbcfpjalgfikaaGreatDoor
open Go.RowKit
set_option linter.unusedVariables false
set_option linter.unusedSimpArgs false

/-- what is wrong with a route, as the program finds it -/
def routeFP (r : RtD) : Int :=
  if !isKey r.key then 5 else if hostsF r.hosts ≠ 0 then hostsF r.hosts else if (tplOf r.path).1 ≠ 0 then (tplOf r.path).1 else
  if methodsF r.methods ≠ 0 then methodsF r.methods else if needsF r.needs ≠ 0 then needsF r.needs else
  if r.dest = ⟨#[]⟩ then 0 else if (tplOf r.dest).1 ≠ 0 then (tplOf r.dest).1 else toFP (tplOf r.path).2 (tplOf r.dest).2
def RRdy (r : RtD) (w : World) (e : Ending) (w' : World) : Prop := ∃ p : Option Addr, e = .returned (.tuple #[.pointer p, .int .i64 (routeFP r)]) ∧ New w w'
set_option maxRecDepth 100000 in
set_option maxHeartbeats 1000000 in
theorem rt_readyOf (x : RA) (r : RtD) (w : World) (h : RtAt w x r) (hz : RtShort r) (hx : MaxLn w) : Calls Tryz.prog 70 #[x.val] w (RRdy r w) := by
  obtain ⟨k1, k2, k3, h1, h2, h3, c1, c2, c3⟩ := h
  obtain ⟨z1, z2, z3, ⟨z4, z5⟩, ⟨z6, z7⟩, ⟨z8, z9⟩⟩ := hz
  obtain ⟨key, ha, hn, hc, path, ma, mn, mc, na, nn, nc, dest⟩ := x
  simp only at k1 k2 k3 h1 h2 h3 c1 c2 c3
  subst k1 k2 k3
  simp only [RA.val]
  have l1 := h1.1
  have l2 := h2.1
  have l3 := h3.1
  have HQH := Lib.hid (fun W (h : New w W) => rt_hostsFault ha hn hc r.hosts W (h1.new h) c1 (by omega) z5 (hx.new h))
  have HQP := Lib.hid (fun W (h : New w W) => route_parseTemplate r.path W z2 (hx.new h))
  have HQM := Lib.hid (fun W (h : New w W) => rt_methodsFault ma mn mc r.methods W (h2.new h) c2 (by omega) z7 (hx.new h))
  have HQN := Lib.hid (fun W (h : New w W) => rt_needsFault na nn nc r.needs W (h3.new h) c3 (by omega) z9)
  have HQD := Lib.hid (fun W (h : New w W) => route_parseTemplate r.dest W z3 (hx.new h))
  have HF : Hid (routeFP r = if !isKey r.key then 5 else if hostsF r.hosts ≠ 0 then hostsF r.hosts else if (tplOf r.path).1 ≠ 0 then (tplOf r.path).1 else
    if methodsF r.methods ≠ 0 then methodsF r.methods else if needsF r.needs ≠ 0 then needsF r.needs else
    if r.dest = ⟨#[]⟩ then 0 else if (tplOf r.dest).1 ≠ 0 then (tplOf r.dest).1 else toFP (tplOf r.path).2 (tplOf r.dest).2) := Lib.hid rfl
  have HRET := Lib.hid (fun (p : Option Addr) (w' : World) (f : Int) (hf : routeFP r = f) (hm : New w w') => (⟨p, by rw [hf], hm⟩ : RRdy r w (.returned (.tuple #[.pointer p, .int .i64 f])) w'))
  have HDE := Lib.hid (str_nil r.dest)
  clear h1 h2 h3 z3 z4 z5 z6 z7 z8 z9 hx l1 l2 l3 c1 c2 c3
  generalize tplOf r.path = P at *
  generalize tplOf r.dest = D at *
  obtain ⟨pe, pl⟩ := P
  obtain ⟨de, dls⟩ := D
  simp only at HF
  have hkk := fun W => kit_isKey r.key W (by unfold maxLen; omega)
  have HKK := Lib.hid hkk
  clear hkk
  obtain ⟨key, hosts, path, methods, needs, dest⟩ := r
  simp only at HQH HQP HQM HQN HQD HF HDE HKK z1 z2 ⊢
  generalize hostsF hosts = hf at *
  generalize methodsF methods = mf at *
  generalize needsF needs = nf at *
  have hb := Blk.new w 44 #[.string key, .slice ha hn hc, .string path, .slice ma mn mc, .slice na nn nc, .string dest]
  have hm : New w (w.alloc (.cells #[.string key, .slice ha hn hc, .string path, .slice ma mn mc, .slice na nn nc, .string dest] 44)) := (Mod.refl _ _).alloc _
  go_enter Tryz.func70, Tryz.ntmps70
  go_upto_region 1 with (fail)
  have HX := Lib.hid hb
  have HM := Lib.hid hm
  clear hb hm
  generalize w.alloc (.cells #[.string key, .slice ha hn hc, .string path, .slice ma mn mc, .slice na nn nc, .string dest] 44) = w1 at *
  generalize w.heap.size = xb at *
  have q := HKK.out w1
  cases hk : isKey key
  · rw [hk] at q HF
    have HE := Lib.hid (HF.out.trans rfl)
    clear hk HF
    have e0 := HX.out.cell 0
    have e1 := HX.out.cell 1
    have e2 := HX.out.cell 2
    have e3 := HX.out.cell 3
    have e4 := HX.out.cell 4
    have e5 := HX.out.cell 5
    have el := HX.out.lt
    simp only [List.getElem?_toArray, List.getElem?_cons_zero, List.getElem?_cons_succ] at e0 e1 e2 e3 e4 e5
    go_wp2_with fail
    refine q.mono ?_
    clear q
    rintro e w2 ⟨rfl, rfl⟩
    go_wp2_with fail
    go_ret2
    exact HRET.out _ _ _ HE.out HM.out
  rw [hk] at q HF
  simp only [Bool.not_true, Bool.false_eq_true, if_false] at HF
  clear hk
  have e0 := HX.out.cell 0
  have e1 := HX.out.cell 1
  have e2 := HX.out.cell 2
  have e3 := HX.out.cell 3
  have e4 := HX.out.cell 4
  have e5 := HX.out.cell 5
  have el := HX.out.lt
  simp only [List.getElem?_toArray, List.getElem?_cons_zero, List.getElem?_cons_succ] at e0 e1 e2 e3 e4 e5
  go_wp2_with fail
  clear e0 e1 e2 e3 e4 e5 el
  refine q.mono ?_
  clear q
  rintro e w2 ⟨rfl, rfl⟩
  have q := HQH.out _ HM.out
  have e0 := HX.out.cell 0
  have e1 := HX.out.cell 1
  have e2 := HX.out.cell 2
  have e3 := HX.out.cell 3
  have e4 := HX.out.cell 4
  have e5 := HX.out.cell 5
  have el := HX.out.lt
  simp only [List.getElem?_toArray, List.getElem?_cons_zero, List.getElem?_cons_succ] at e0 e1 e2 e3 e4 e5
  go_wp2_with fail
  clear e0 e1 e2 e3 e4 e5 el
  refine q.mono ?_
  clear q
  rintro e w2 ⟨rfl, m2⟩
  have HX1 := Lib.hid (HX.out.new2 m2)
  have HM1 := Lib.hid (HM.out.trans m2)
  clear HX HM
  have HX := HX1
  have HM := HM1
  clear HX1 HM1
  clear m2
  by_cases g1 : hf ≠ 0
  · have g1b : (hf != 0) = true := by simpa using g1
    rw [if_pos g1] at HF
    clear g1
    go_wp2_with fail
    go_ret2
    exact HRET.out _ _ _ HF.out HM.out
  have g1b : (hf != 0) = false := by simpa using g1
  rw [if_neg g1] at HF
  clear g1
  have q := HQP.out _ HM.out
  have e0 := HX.out.cell 0
  have e1 := HX.out.cell 1
  have e2 := HX.out.cell 2
  have e3 := HX.out.cell 3
  have e4 := HX.out.cell 4
  have e5 := HX.out.cell 5
  have el := HX.out.lt
  simp only [List.getElem?_toArray, List.getElem?_cons_zero, List.getElem?_cons_succ] at e0 e1 e2 e3 e4 e5
  go_wp2_with fail
  clear e0 e1 e2 e3 e4 e5 el
  refine q.mono ?_
  clear q
  rintro e w3 ⟨A3, n3, c3, rfl, s3, m3, b3⟩
  have HX1 := Lib.hid (HX.out.new2 m3)
  have HM1 := Lib.hid (HM.out.trans m3)
  clear HX HM
  have HX := HX1
  have HM := HM1
  clear HX1 HM1
  have HS3 := Lib.hid s3
  clear m3 s3
  by_cases g2 : pe ≠ 0
  · have g2b : (pe != 0) = true := by simpa using g2
    rw [if_pos g2] at HF
    clear g2
    go_wp2_with fail
    go_ret2
    exact HRET.out _ _ _ HF.out HM.out
  have g2b : (pe != 0) = false := by simpa using g2
  rw [if_neg g2] at HF
  clear g2
  have q := HQM.out _ HM.out
  have e0 := HX.out.cell 0
  have e1 := HX.out.cell 1
  have e2 := HX.out.cell 2
  have e3 := HX.out.cell 3
  have e4 := HX.out.cell 4
  have e5 := HX.out.cell 5
  have el := HX.out.lt
  simp only [List.getElem?_toArray, List.getElem?_cons_zero, List.getElem?_cons_succ] at e0 e1 e2 e3 e4 e5
  go_wp2_with fail
  clear e0 e1 e2 e3 e4 e5 el
  refine q.mono ?_
  clear q
  rintro e w4 ⟨rfl, m4⟩
  have HX1 := Lib.hid (HX.out.new2 m4)
  have HM1 := Lib.hid (HM.out.trans m4)
  clear HX HM
  have HX := HX1
  have HM := HM1
  clear HX1 HM1
  have HS4 := Lib.hid (HS3.out.new m4)
  clear m4 HS3
  by_cases g3 : mf ≠ 0
  · have g3b : (mf != 0) = true := by simpa using g3
    rw [if_pos g3] at HF
    clear g3
    go_wp2_with fail
    go_ret2
    exact HRET.out _ _ _ HF.out HM.out
  have g3b : (mf != 0) = false := by simpa using g3
  rw [if_neg g3] at HF
  clear g3
  have q := HQN.out _ HM.out
  have e0 := HX.out.cell 0
  have e1 := HX.out.cell 1
  have e2 := HX.out.cell 2
  have e3 := HX.out.cell 3
  have e4 := HX.out.cell 4
  have e5 := HX.out.cell 5
  have el := HX.out.lt
  simp only [List.getElem?_toArray, List.getElem?_cons_zero, List.getElem?_cons_succ] at e0 e1 e2 e3 e4 e5
  go_wp2_with fail
  clear e0 e1 e2 e3 e4 e5 el
  refine q.mono ?_
  clear q
  rintro e w5 ⟨rfl, m5⟩
  have HX1 := Lib.hid (HX.out.new2 m5)
  have HM1 := Lib.hid (HM.out.trans m5)
  clear HX HM
  have HX := HX1
  have HM := HM1
  clear HX1 HM1
  have HS5 := Lib.hid (HS4.out.new m5)
  clear m5 HS4
  by_cases g4 : nf ≠ 0
  · have g4b : (nf != 0) = true := by simpa using g4
    rw [if_pos g4] at HF
    clear g4
    go_wp2_with fail
    go_ret2
    exact HRET.out _ _ _ HF.out HM.out
  have g4b : (nf != 0) = false := by simpa using g4
  rw [if_neg g4] at HF
  clear g4
  have HM5S : Hid (w.heap.size ≤ w5.heap.size) := Lib.hid HM.out.size
  have e0 := HX.out.cell 0
  have e1 := HX.out.cell 1
  have e2 := HX.out.cell 2
  have e3 := HX.out.cell 3
  have e4 := HX.out.cell 4
  have e5 := HX.out.cell 5
  have el := HX.out.lt
  simp only [List.getElem?_toArray, List.getElem?_cons_zero, List.getElem?_cons_succ] at e0 e1 e2 e3 e4 e5
  go_upto_region 16 with (fail)
  clear e0 e1 e2 e3 e4 e5 el
  have bR := Blk.new w5 134 #[.string key, .slice ha hn hc, .string path, .slice ma mn mc, .slice na nn nc, .string dest, .slice A3 n3 c3, .slice none 0 0]
  have mR : New w5 (w5.alloc (.cells #[.string key, .slice ha hn hc, .string path, .slice ma mn mc, .slice na nn nc, .string dest, .slice A3 n3 c3, .slice none 0 0] 134)) := (Mod.refl _ _).alloc _
  have HX1 := Lib.hid (HX.out.new2 mR)
  have HM1 := Lib.hid (HM.out.trans mR)
  clear HX HM
  have HX := HX1
  have HM := HM1
  clear HX1 HM1
  have HS6 := Lib.hid (HS5.out.new mR)
  have HBR := Lib.hid bR
  clear HS5 mR bR
  generalize w5.alloc (.cells #[.string key, .slice ha hn hc, .string path, .slice ma mn mc, .slice na nn nc, .string dest, .slice A3 n3 c3, .slice none 0 0] 134) = w6 at *
  have HYB : Hid (w.heap.size ≤ w5.heap.size) := Lib.hid (by have h1 := HM5S.out; exact h1)
  generalize w5.heap.size = yb at *
  have hde := HDE.out
  by_cases g5 : dest = ⟨#[]⟩
  · rw [decide_eq_true g5] at hde
    rw [if_pos g5] at HF
    clear g5
    have e0 := HX.out.cell 0
    have e1 := HX.out.cell 1
    have e2 := HX.out.cell 2
    have e3 := HX.out.cell 3
    have e4 := HX.out.cell 4
    have e5 := HX.out.cell 5
    have el := HX.out.lt
    simp only [List.getElem?_toArray, List.getElem?_cons_zero, List.getElem?_cons_succ] at e0 e1 e2 e3 e4 e5
    go_wp2_with fail
    go_ret2
    exact HRET.out _ _ _ HF.out HM.out
  rw [decide_eq_false g5] at hde
  rw [if_neg g5] at HF
  clear g5
  have q := HQD.out _ HM.out
  have e0 := HX.out.cell 0
  have e1 := HX.out.cell 1
  have e2 := HX.out.cell 2
  have e3 := HX.out.cell 3
  have e4 := HX.out.cell 4
  have e5 := HX.out.cell 5
  have el := HX.out.lt
  simp only [List.getElem?_toArray, List.getElem?_cons_zero, List.getElem?_cons_succ] at e0 e1 e2 e3 e4 e5
  go_wp2_with fail
  clear e0 e1 e2 e3 e4 e5 el
  refine q.mono ?_
  clear q
  rintro e w7 ⟨A7, n7, c7, rfl, s7, m7, b7⟩
  have HX1 := Lib.hid (HX.out.new2 m7)
  have HM1 := Lib.hid (HM.out.trans m7)
  clear HX HM
  have HX := HX1
  have HM := HM1
  clear HX1 HM1
  have HS7 := Lib.hid (HS6.out.new m7)
  have HD7 := Lib.hid s7
  have HBR7 := Lib.hid (HBR.out.new2 m7)
  clear m7 s7 HS6 HBR
  have d7 := HBR7.out.cell 7
  have dl := HBR7.out.lt
  have df := HBR7.out.frozen
  simp only [List.getElem?_toArray, List.getElem?_cons_zero, List.getElem?_cons_succ] at d7
  go_upto_region 19 with (fail)
  clear d7 dl df
  have HO : Hid (Mod (fun k => k = yb) w7 (w7.setCell ⟨yb, 7, none⟩ (.slice A7 n7 c7))) := Lib.hid (Mod.setCell (S := fun k => k = yb) (p := ⟨yb, 7, none⟩) (Mod.refl _ _) (.inl rfl) _)
  have HM8 := Lib.hid (HM.out.step HO.out (fun i hi e => by have := HYB.out; omega))
  have HB8 := Lib.hid (HBR7.out.set 7 (.slice A7 n7 c7))
  simp only [Array.setIfInBounds, List.size_toArray, List.length_cons, List.length_nil, Nat.reduceAdd, Nat.reduceLT, ↓reduceDIte, List.set_toArray, List.set_cons_zero, List.set_cons_succ] at HB8
  have HS8 := Lib.hid (HS7.out.mod HO.out (fun g hg e => (HBR7.out.tb.ne hg (by decide)) e.symm))
  have HD8 := Lib.hid (HD7.out.mod HO.out (fun g hg e => (HBR7.out.tb.ne hg (by decide)) e.symm))
  clear HX HM HS7 HD7 HBR7 HO
  generalize w7.setCell ⟨yb, 7, none⟩ (.slice A7 n7 c7) = w8 at *
  by_cases g6 : de ≠ 0
  · have g6b : (de == 0) = false := by simpa using g6
    rw [if_pos g6] at HF
    clear g6
    go_wp2_with fail
    go_ret2
    exact HRET.out _ _ _ HF.out HM8.out
  have g6b : (de == 0) = true := by simpa using g6
  rw [if_neg g6] at HF
  clear g6
  have q := rt_toFault A3 A7 n3 c3 n7 c7 pl dls w8 HS8.out HD8.out b3 b7
  have d7 := HB8.out.cell 7
  have dl := HB8.out.lt
  simp only [List.getElem?_toArray, List.getElem?_cons_zero, List.getElem?_cons_succ] at d7
  go_wp2_with fail
  refine q.mono ?_
  clear q
  rintro e w9 ⟨rfl, m9⟩
  have HM9 := Lib.hid (HM8.out.trans m9)
  go_wp2_with fail
  go_ret2
  exact HRET.out _ _ _ HF.out HM9.out
theorem routeF_eq {r : RtD} (h : (tplOf r.path).1 = 0 → (tplOf r.dest).1 = 0 → toFP (tplOf r.path).2 (tplOf r.dest).2 = toF (tplOf r.path).2 (tplOf r.dest).2) : routeFP r = routeF r := by
  unfold routeFP routeF
  by_cases h1 : (tplOf r.path).1 = 0
  · by_cases h2 : (tplOf r.dest).1 = 0
    · rw [h h1 h2]
    · simp only [h2, ne_eq, not_false_eq_true, if_true]
  · simp only [h1, ne_eq, not_false_eq_true, if_true]
end Go.Proofs.YtnbcfpjalgfikaaGreatDoor

namespace Go.Proofs.YtnbcfpjalgfikaaGreatDoor
open Go.RowKit
set_option linter.unusedVariables false
set_option linter.unusedSimpArgs false

def rtFP (b : List RtD) (r : RtD) : Int := if routeFP r ≠ 0 then routeFP r else if (b.getLast?.map fun q => strLe r.key q.key).getD false then 7 else 0
def routesFP (l : List RtD) : Int := if 300 < l.length then 2 else eachF rtFP [] l
def ptrEnc (p : Option Addr) (_ : Nat) : Value := .pointer p
theorem einfo_ptr : EInfo Tryz.prog 107 1 8 := EInfo.of (z := .pointer none) (by kernel_rfl) rfl (by decide)
theorem last_take {α : Type} {l : List α} {k : Nat} (h : k < l.length) (h0 : 0 < k) : (l.take k).getLast? = some (l[k - 1]'(by omega)) := by
  rw [List.getLast?_eq_getElem?, List.length_take, List.getElem?_take, Nat.min_eq_left (by omega), if_pos (by omega), List.getElem?_eq_getElem (by omega)]
def RAll (f : Int) (w : World) (e : Ending) (w' : World) : Prop := ∃ (A : Option Addr) (n c : Nat), e = .returned (.tuple #[.slice A n c, .int .i64 f]) ∧ New w w'
set_option maxRecDepth 100000 in
set_option maxHeartbeats 1000000 in
theorem rt_readyAll (A : Option Addr) (n c : Nat) (rs : List RtD) (w : World) (h : RtRows w A n rs) (hz : ∀ r ∈ rs, RtShort r) (hx : MaxLn w) (hn : n ≤ 100000) : Calls Tryz.prog 41 #[.slice A n c] w (RAll (routesFP rs) w) := by
  have hlen := h.len
  obtain ⟨xs, h1, h2⟩ := h
  have hxl := h1.1
  by_cases hb : 300 < n
  · have hb' : (300 : Int) < n := by omega
    have HR : Hid (routesFP rs = 2) := Lib.hid (by unfold routesFP; rw [if_pos (by omega)])
    clear hlen hxl h1
    go_enter Tryz.func41, Tryz.ntmps41
    go_wp2_with fail
    go_ret2
    exact ⟨none, 0, 0, by rw [HR.out]; rfl, Mod.refl _ _⟩
  · have hb' : ¬ (300 : Int) < n := by omega
    have HR : Hid (routesFP rs = eachF rtFP (rs.take 0) (rs.drop 0)) := Lib.hid (by unfold routesFP; rw [if_neg (by omega)]; rfl)
    have HS := Lib.hid h1
    have HA := Lib.hid h2
    have HZ := Lib.hid hz
    have HX := Lib.hid hx
    have HL : Hid (xs.length = n ∧ rs.length = n) := Lib.hid ⟨hxl, hlen.symm⟩
    clear h1 h2 hz hx hlen hxl hb
    go_enter Tryz.func41, Tryz.ntmps41
    go_wp2_with fail
    go_loopw [4, 14] (fun t i wr => ∃ (k : Nat) (B : Option Addr) (cb : Nat) (ps : List (Option Addr)), k ≤ n ∧ i = .int .i64 k ∧ t = .slice B k cb ∧ Hid (Own wr w.heap.size 107 1 ptrEnc B k cb ps) ∧ Hid (routesFP rs = eachF rtFP (rs.take k) (rs.drop k)) ∧ Hid (New w wr)) (fun _ i _ => n - (intOf i).toNat)
    case atStart => exact ⟨0, none, 0, [], Nat.zero_le _, rfl, rfl, Lib.hid Own.nil, HR, Lib.hid (Mod.refl _ _)⟩
    clear HR
    case round =>
      rename World => wr
      obtain ⟨k, B, cb, ps, hk, rfl, rfl, HO, HR, HM⟩ := hrel
      by_cases hlt : k < n
      · have hkx : k < xs.length := by have := HL.out.1; omega
        have hkr : k < rs.length := by have := HL.out.2; omega
        have HST := Lib.hid (eachF_step rtFP hkr)
        obtain ⟨g, o, hA, htb, hc⟩ := (HS.out.new HM.out).2 (by omega)
        subst hA
        have hgl := htb.lt
        have c0 := hc k hkx 0 (by omega)
        have c1 := hc k hkx 1 (by omega)
        have c2 := hc k hkx 2 (by omega)
        have c3 := hc k hkx 3 (by omega)
        have c4 := hc k hkx 4 (by omega)
        have c5 := hc k hkx 5 (by omega)
        simp only [RA.enc, Nat.add_zero] at c0 c1 c2 c3 c4 c5
        have hat := HA.out.get k hkx hkr
        have HPV : Hid (0 < k → ∃ p : ByteArray, (rs.take k).getLast?.map (·.key) = some p ∧ wr.cell? ⟨g, o + (k - 1) * 6, none⟩ = some (.string p)) := Lib.hid (fun h0 => by
          refine ⟨(rs[k - 1]'(by omega)).key, by rw [last_take hkr h0]; rfl, ?_⟩
          have e := hc (k - 1) (by omega) 0 (by omega)
          have e2 := (HA.out.get (k - 1) (by omega) (by omega)).key
          simp only [RA.enc, Nat.add_zero] at e
          rw [← e2]
          exact e)
        have HPT : Hid (∃ L, rs.take k = L) := Lib.hid ⟨_, rfl⟩
        have hzs := HZ.out _ (List.getElem_mem hkr)
        have HTB := Lib.hid htb
        clear hc htb
        have HFF : Hid (rtFP (rs.take k) rs[k] = if routeFP rs[k] ≠ 0 then routeFP rs[k] else if ((rs.take k).getLast?.map fun q => strLe rs[k].key q.key).getD false then 7 else 0) := Lib.hid rfl
        generalize xs[k] = x at *
        generalize rs[k] = r at *
        obtain ⟨key, ha, hn_, hc_, path, ma, mn, mc, na, nn, nc, dest⟩ := x
        have HKEY : Hid (key = r.key) := Lib.hid hat.key
        simp only at c0 c1 c2 c3 c4 c5
        have hb2 : (0 : Int) ≤ k := by omega
        have hb3 : (k : Int) < n := by omega
        have bx := Blk.new wr 44 #[.string key, .slice ha hn_ hc_, .string path, .slice ma mn mc, .slice na nn nc, .string dest]
        have mx : New wr (wr.alloc (.cells #[.string key, .slice ha hn_ hc_, .string path, .slice ma mn mc, .slice na nn nc, .string dest] 44)) := (Mod.refl _ _).alloc _
        have q := rt_readyOf ⟨key, ha, hn_, hc_, path, ma, mn, mc, na, nn, nc, dest⟩ r _ (hat.new (HM.out.trans mx)) hzs (HX.out.new (HM.out.trans mx))
        simp only [RA.val] at q
        go_upto_region 7 with (fail)
        have HBX := Lib.hid bx
        have HMX := Lib.hid (HM.out.trans mx)
        have HO1 := Lib.hid (HO.out.new mx)
        have HPV1 : Hid (0 < k → ∃ p : ByteArray, (rs.take k).getLast?.map (·.key) = some p ∧ (wr.alloc (.cells #[.string key, .slice ha hn_ hc_, .string path, .slice ma mn mc, .slice na nn nc, .string dest] 44)).cell? ⟨g, o + (k - 1) * 6, none⟩ = some (.string p)) := Lib.hid (fun h0 => by
          obtain ⟨p, e1, e2⟩ := HPV.out h0
          exact ⟨p, e1, (mx.cell (p := ⟨g, o + (k - 1) * 6, none⟩) hgl (fun e => e)).trans e2⟩)
        have HTB1 := Lib.hid (HTB.out.mod mx (fun e => e))
        clear c0 c1 c2 c3 c4 c5 bx mx HO HPV hat hgl HTB
        generalize wr.alloc (.cells #[.string key, .slice ha hn_ hc_, .string path, .slice ma mn mc, .slice na nn nc, .string dest] 44) = w1 at *
        generalize wr.heap.size = xb at *
        have e0 := HBX.out.cell 0
        have e1 := HBX.out.cell 1
        have e2 := HBX.out.cell 2
        have e3 := HBX.out.cell 3
        have e4 := HBX.out.cell 4
        have e5 := HBX.out.cell 5
        have el := HBX.out.lt
        simp only [List.getElem?_toArray, List.getElem?_cons_zero, List.getElem?_cons_succ] at e0 e1 e2 e3 e4 e5
        go_wp2_with fail
        clear e0 e1 e2 e3 e4 e5 el
        refine q.mono ?_
        clear q
        rintro e w2 ⟨pp, rfl, m2⟩
        have HM2 := Lib.hid (HMX.out.trans m2)
        have HO2 := Lib.hid (HO1.out.new m2)
        have hbx := HBX.out.new2 m2
        have e0 := hbx.cell 0
        have el := hbx.lt
        simp only [List.getElem?_toArray, List.getElem?_cons_zero, List.getElem?_cons_succ] at e0
        have hgl2 : g < w2.heap.size := Nat.lt_of_lt_of_le HTB1.out.lt m2.size
        have HPV2 : Hid (0 < k → ∃ p : ByteArray, (rs.take k).getLast?.map (·.key) = some p ∧ w2.cell? ⟨g, o + (k - 1) * 6, none⟩ = some (.string p)) := Lib.hid (fun h0 => by
          obtain ⟨p, q1, q2⟩ := HPV1.out h0
          exact ⟨p, q1, (m2.cell (p := ⟨g, o + (k - 1) * 6, none⟩) HTB1.out.lt (fun e => e)).trans q2⟩)
        clear hbx m2 HPV1 HO1
        generalize routeFP r = f at *
        by_cases g1 : f ≠ 0
        · have g1b : (f != 0) = true := by simpa using g1
          have HE : Hid (routesFP rs = f) := Lib.hid (by rw [HR.out, HST.out, HFF.out, if_pos g1, if_pos g1])
          clear g1
          go_wp2_with fail
          go_ret2
          exact ⟨none, 0, 0, by rw [HE.out]; rfl, HM2.out⟩
        have g1b : (f != 0) = false := by simpa using g1
        rw [if_neg g1] at HFF
        clear g1
        have hle0 : w.heap.size ≤ w2.heap.size := HM2.out.size
        by_cases h0 : 0 < k
        · obtain ⟨p, hp1, hp2⟩ := HPV2.out h0
          have HP1 := Lib.hid hp1
          have hb4 : (0 : Int) < k := by omega
          have hb5 : (0 : Int) ≤ (k : Int) - 1 := by omega
          have hb6 : (k : Int) - 1 < n := by omega
          clear hp1 HPV2
          obtain ⟨bl, hbl⟩ : ∃ b, (Op.bytesLess key.toList p.toList || key.toList == p.toList) = b := ⟨_, rfl⟩
          have HLE : Hid (((rs.take k).getLast?.map fun q => strLe r.key q.key).getD false = bl) := Lib.hid (by
            have h := HP1.out
            cases hq : (rs.take k).getLast? with
            | none => rw [hq] at h; cases h
            | some z =>
              rw [hq] at h
              injection h with h
              have h2 : z.key = p := h
              simp only [Option.map_some, Option.getD_some]
              rw [h2, ← HKEY.out, ← hbl]
              rfl)
          cases bl
          · rw [HLE.out] at HFF
            have HE : Hid (routesFP rs = eachF rtFP (rs.take (k + 1)) (rs.drop (k + 1))) := Lib.hid (by rw [HR.out, HST.out, HFF.out]; rfl)
            go_wp2_with fail
            go_quiet (fail)
            rename_i nq
            have mq : New w2 (w2.drewN nq) := (Mod.refl _ _).drewN nq
            have HO3 := Lib.hid (HO2.out.new mq)
            have HM3 := Lib.hid (HM2.out.trans mq)
            have hle3 : w.heap.size ≤ (w2.drewN nq).heap.size := HM3.out.size
            clear HO2 mq e0 el hgl2 hle0
            generalize w2.drewN nq = w3 at *
            have HZZ : Hid (w.heap.size ≤ (w3.alloc (.cells #[.pointer pp] 107)).heap.size) := Lib.hid (by simp; omega)
            have ownA := HO3.out.alloc (.cells #[.pointer pp] 107)
            have blkA : Blk (w3.alloc (.cells #[.pointer pp] 107)) w3.heap.size 107 (encL 1 ptrEnc pp).toArray := Blk.new _ _ _
            go_wp2_with (at_builtin; refine wpList_push rfl _ _ _ rfl 8 Tryz.underlying85 einfo_ptr rfl ownA pp w3.heap.size rfl blkA (fun j hj => rfl) (by omega) (by omega) HZZ.out ?_; intro g9 cap9 w9 own9 hm9 hat9 hlt9)
            have hmw : New w w9 := Own.push_mod (a := w) ownA (HM3.out.alloc _) hm9 (Nat.le_refl _)
            exact ⟨⟨k + 1, some ⟨g9, 0, none⟩, cap9, ps ++ [pp], by omega, by go_num, rfl, Lib.hid own9, HE, Lib.hid hmw⟩, by simp [intOf]; omega⟩
          · rw [HLE.out] at HFF
            have HE : Hid (routesFP rs = 7) := Lib.hid (by rw [HR.out, HST.out, HFF.out]; rfl)
            go_wp2_with fail
            go_quiet (fail)
            go_wp2_with fail
            go_ret2
            exact ⟨none, 0, 0, by rw [HE.out]; rfl, HM2.out.drewN _⟩
        · obtain rfl : 0 = k := by omega
          have hd : decide ((0 : Int) < ((0 : Nat) : Int)) = false := by simp
          have HE : Hid (routesFP rs = eachF rtFP (rs.take (0 + 1)) (rs.drop (0 + 1))) := Lib.hid (by rw [HR.out, HST.out, HFF.out]; rfl)
          go_wp2_with fail
          go_quiet (fail)
          rename_i nq
          have mq : New w2 (w2.drewN nq) := (Mod.refl _ _).drewN nq
          have HO3 := Lib.hid (HO2.out.new mq)
          have HM3 := Lib.hid (HM2.out.trans mq)
          have hle3 : w.heap.size ≤ (w2.drewN nq).heap.size := HM3.out.size
          clear HO2 mq e0 el hgl2 hle0
          generalize w2.drewN nq = w3 at *
          have HZZ : Hid (w.heap.size ≤ (w3.alloc (.cells #[.pointer pp] 107)).heap.size) := Lib.hid (by simp; omega)
          have ownA := HO3.out.alloc (.cells #[.pointer pp] 107)
          have blkA : Blk (w3.alloc (.cells #[.pointer pp] 107)) w3.heap.size 107 (encL 1 ptrEnc pp).toArray := Blk.new _ _ _
          go_wp2_with (at_builtin; refine wpList_push rfl _ _ _ rfl 8 Tryz.underlying85 einfo_ptr rfl ownA pp w3.heap.size rfl blkA (fun j hj => rfl) (by omega) (by omega) HZZ.out ?_; intro g9 cap9 w9 own9 hm9 hat9 hlt9)
          have hmw : New w w9 := Own.push_mod (a := w) ownA (HM3.out.alloc _) hm9 (Nat.le_refl _)
          exact ⟨⟨0 + 1, some ⟨g9, 0, none⟩, cap9, ps ++ [pp], by omega, by go_num, rfl, Lib.hid own9, HE, Lib.hid hmw⟩, by simp [intOf]; omega⟩
      · obtain rfl : n = k := by omega
        have HE : Hid (routesFP rs = 0) := Lib.hid (by have := HL.out.2; rw [HR.out, ← this]; exact eachF_end _ _)
        go_wp2_with fail
        go_ret2
        exact ⟨B, n, cb, by rw [HE.out]; rfl, HM.out⟩
theorem rt_checkRoutes (A : Option Addr) (n c : Nat) (rs : List RtD) (w : World) (h : RtRows w A n rs) (hz : ∀ r ∈ rs, RtShort r) (hx : MaxLn w) (hn : n ≤ 100000) :
    Calls Tryz.prog 17 #[.slice A n c] w fun e w' => e = .returned (.int .i64 (routesFP rs)) ∧ New w w' := by
  have q := rt_readyAll A n c rs w h hz hx hn
  generalize routesFP rs = f at *
  clear h hz hx
  go_enter Tryz.func17, Tryz.ntmps17
  go_wp2_with fail
  refine q.mono ?_
  clear q
  rintro e w1 ⟨A1, n1, c1, rfl, m1⟩
  have HM := Lib.hid m1
  clear m1
  go_wp2_with fail
  go_ret
  exact ⟨rfl, HM.out⟩
end Go.Proofs.YtnbcfpjalgfikaaGreatDoor

namespace Go.Proofs.YtnbcfpjalgfikaaGreatDoor
open Go.RowKit
set_option linter.unusedVariables false
set_option linter.unusedSimpArgs false

def Once (P : List PartD) : Prop := P.Pairwise fun a b => a.kind ≠ 1 → b.kind ≠ 1 → a.name ≠ b.name
theorem partOf_once {x : ByteArray} {before : List PartD} {last : Bool} (h : (partOf x before last).1 = 0) : (partOf x before last).2.kind ≠ 1 → hasP before (partOf x before last).2.name = false := by
  unfold partOf at h ⊢
  split at h
  · rename_i h1
    rw [if_pos h1]
    split at h
    · cases h
    · rename_i h2
      rw [if_neg h2]
      simp only at h ⊢
      split at h
      · cases h
      · rename_i h3
        rw [if_neg h3]
        split at h
        · cases h
        · rename_i h4
          rw [if_neg h4]
          split at h
          · cases h
          · rename_i h5
            rw [if_neg h5]
            intro _
            simpa using h4
  · rename_i h1
    rw [if_neg h1]
    split at h
    · cases h
    · rename_i h2
      rw [if_neg h2]
      intro hk
      exfalso
      apply hk
      revert h
      cases decL x.data.toList with
      | none => intro h; cases h
      | some o =>
        intro h
        simp only at h ⊢
        split at h
        · cases h
        · rename_i h3
          rw [if_neg h3]
theorem once_snoc {l : List PartD} {p : PartD} (h : Once l) (hp : p.kind ≠ 1 → hasP l p.name = false) : Once (l ++ [p]) := by
  unfold Once
  rw [List.pairwise_append]
  refine ⟨h, List.pairwise_singleton _ _, fun a ha b hb k1 k2 e => ?_⟩
  obtain rfl := List.mem_singleton.1 hb
  have h1 := hp k2
  unfold hasP at h1
  rw [List.any_eq_false] at h1
  have h2 := h1 a ha
  simp [k1, e] at h2
theorem partsOf_once : ∀ (xs : List ByteArray) (acc : List PartD), Once acc → Once (partsOf xs acc).2
  | [], acc, h => h
  | x :: xs, acc, h => by
    rw [partsOf]
    split
    · exact List.Pairwise.nil
    · rename_i h1
      exact partsOf_once xs _ (once_snoc h (partOf_once (Decidable.not_not.1 h1)))
theorem tplOf_once (s : ByteArray) : Once (tplOf s).2 := by
  unfold tplOf
  split
  · exact List.Pairwise.nil
  · split
    · exact List.Pairwise.nil
    · unfold templateOf
      split
      · exact List.Pairwise.nil
      · split
        · exact List.Pairwise.nil
        · exact partsOf_once _ _ List.Pairwise.nil
theorem once_eq : ∀ {P : List PartD}, Once P → ∀ a ∈ P, ∀ b ∈ P, a.kind ≠ 1 → b.kind ≠ 1 → a.name = b.name → a = b
  | [], _, a, ha, _, _, _, _, _ => by cases ha
  | p :: P, h, a, ha, b, hb, ka, kb, e => by
    have h1 := List.pairwise_cons.1 h
    rcases List.mem_cons.1 ha with ea | ha2
    · rcases List.mem_cons.1 hb with eb | hb2
      · rw [ea, eb]
      · subst ea
        exact absurd e (h1.1 b hb2 ka kb)
    · rcases List.mem_cons.1 hb with eb | hb2
      · subst eb
        exact absurd e.symm (h1.1 a ha2 kb ka)
      · exact once_eq h1.2 a ha2 b hb2 ka kb e
theorem other_eq {P : List PartD} (h : Once P) {p : PartD} (hp : hasP P p.name = true) : otherK P p = decide (kindAt P p.name ≠ p.kind) := by
  unfold hasP at hp
  obtain ⟨i, hi, -, e2⟩ := firstP_find (isPar p.name) P hp
  obtain ⟨q1, -⟩ := List.find?_eq_some_iff_getElem.1 e2
  have hka : kindAt P p.name = P[i].kind := by unfold kindAt; rw [e2]; rfl
  rw [hka]
  unfold isPar at q1
  simp only [Bool.and_eq_true, decide_eq_true_eq] at q1
  unfold otherK
  rw [Bool.eq_iff_iff, List.any_eq_true]
  simp only [Bool.and_eq_true, decide_eq_true_eq]
  constructor
  · rintro ⟨q, hq, k1, n1, k2⟩
    have := once_eq h q hq P[i] (List.getElem_mem hi) k1 q1.1 (by rw [n1, q1.2])
    rw [← this]; exact k2
  · intro k2
    exact ⟨P[i], List.getElem_mem hi, q1.1, q1.2, k2⟩
theorem toFP_eq {P : List PartD} (h : Once P) (T : List PartD) : toFP P T = toF P T := by
  unfold toFP toF
  by_cases ha : toA P T = true
  · rw [if_pos ha]
    unfold toA at ha
    rw [if_pos ha]
  · rw [if_neg ha]
    have ha' := ha
    unfold toA at ha'
    rw [if_neg ha']
    have hb : toB P T = T.any (fun p => decide (p.kind ≠ 1) && otherK P p) := by
      unfold toB
      rw [Bool.eq_iff_iff, List.any_eq_true, List.any_eq_true]
      have key : ∀ p ∈ T, (decide (p.kind ≠ 1) && decide (kindAt P p.name ≠ p.kind)) = (decide (p.kind ≠ 1) && otherK P p) := fun p hp => by
        by_cases hk : p.kind = 1
        · simp [hk]
        · have hh : hasP P p.name = true := by
            have h1 := ha'
            simp only [Bool.not_eq_true, List.any_eq_false] at h1
            have h2 := h1 p hp
            simpa [hk] using h2
          rw [other_eq h hh]
      exact ⟨fun ⟨p, hp, e⟩ => ⟨p, hp, by rw [← key p hp]; exact e⟩, fun ⟨p, hp, e⟩ => ⟨p, hp, by rw [key p hp]; exact e⟩⟩
    rw [hb]
theorem routeFP_eq (r : RtD) : routeFP r = routeF r := routeF_eq (fun _ _ => toFP_eq (tplOf_once _) _)
theorem routesFP_eq (l : List RtD) : routesFP l = routesF l := by
  have : rtFP = rtF := by
    funext b r
    unfold rtFP rtF
    rw [routeFP_eq]
  unfold routesFP routesF
  rw [this]
end Go.Proofs.YtnbcfpjalgfikaaGreatDoor
