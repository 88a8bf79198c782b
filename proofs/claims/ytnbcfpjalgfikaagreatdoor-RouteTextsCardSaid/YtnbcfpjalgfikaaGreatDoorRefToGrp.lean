/- Several texts in one. (1) The reference: toFault of routes. Conditions: at most 100000 parts. (2) The reference: RouteFault. Conditions: texts of modest size; the library's variables lie as they should. (Session 13's end: under way.) (3) The reference: RoutesFault. Conditions: routes of modest size; the library's variables lie as they should. -/
import Derived.Test.YtnbcfpjalgfikaaGreatDoorRtChk1Grp
import Derived.Test.YtnbcfpjalgfikaaGreatDoorParamGrp
import Derived.Test.YtnbcfpjalgfikaaGreatDoorTokGrp
import Derived.Test.YtnbcfpjalgfikaaGreatDoorCased
import Derived.Test.YtnbcfpjalgfikaaGreatDoorTplR2Grp
import Derived.Test.YtnbcfpjalgfikaaGreatDoorOr

namespace Go.Proofs.YtnbcfpjalgfikaaGreatDoor
open Go.RowKit
set_option linter.unusedVariables false
set_option linter.unusedSimpArgs false

def otherQ (k : Int) (s : ByteArray) (q : PartD) : Bool := decide (q.kind ≠ 1) && (decide (q.name = s) && decide (q.kind ≠ k))
theorem otherQ_any (P : List PartD) (p : PartD) : P.any (otherQ p.kind p.name) = otherK P p := rfl
set_option maxHeartbeats 1000000 in
theorem ref_topar (p : PartD) (g : Nat) (k : Int) (s : ByteArray) (w : World) (hg : Blk w g 80 #[.int .i64 k, .string s]) :
    Calls Tryz.prog 82 #[p.val, .pointer (some ⟨g, 0, none⟩)] w fun e w' => e = .returned (.bool (otherQ k s p)) ∧ New w w' := by
  obtain ⟨pk, pn⟩ := p
  have hb := hg.new2 ((Mod.refl (fun _ => False) w).alloc (.cells #[.int .i64 pk, .string pn] 80))
  have hlt := hb.lt
  have hgl := hg.lt
  have hc := hb.cell 1
  have hd := hb.cell 0
  simp only [List.getElem?_toArray, List.getElem?_cons_zero, List.getElem?_cons_succ] at hc hd
  have hbq := str_beq pn s
  have HM : Hid (New w (w.alloc (.cells #[.int .i64 pk, .string pn] 80))) := Lib.hid ((Mod.refl _ _).alloc _)
  unfold PartD.val otherQ
  simp only
  clear hb hg
  by_cases hk : pk = 1
  · subst hk
    go_enter Tryz.func82, Tryz.ntmps82
    go_wp2_with fail
    go_ret
    exact ⟨rfl, HM.out⟩
  · have hk1 : ((pk : Int) != 1) = true := by simpa using hk
    rw [decide_eq_true hk, Bool.true_and]
    clear hk
    cases hr : decide (pn = s)
    · rw [hr] at hbq
      clear hr
      go_enter Tryz.func82, Tryz.ntmps82
      go_wp2_with fail
      go_ret
      exact ⟨rfl, HM.out⟩
    · rw [hr] at hbq
      clear hr
      by_cases hj : pk = k
      · have hj1 : ((pk : Int) != k) = false := by simpa using hj
        rw [show decide (pk ≠ k) = false by simpa using hj]
        clear hj
        go_enter Tryz.func82, Tryz.ntmps82
        go_wp2_with fail
        go_ret
        exact ⟨rfl, HM.out⟩
      · have hj1 : ((pk : Int) != k) = true := by simpa using hj
        rw [show decide (pk ≠ k) = true by simpa using hj]
        clear hj
        go_enter Tryz.func82, Tryz.ntmps82
        go_wp2_with fail
        go_ret
        exact ⟨rfl, HM.out⟩
theorem enters_reftopar (args : Array Value) (w : World) : (callFunc 82 args).run Tryz.prog w = .ok (.enter 82 args) w := by
  go_simp
theorem enters_rf1 (args : Array Value) (w : World) : (callFunc 53 args).run Tryz.prog w = .ok (.enter 53 args) w := by
  go_simp
theorem enters_rf2 (args : Array Value) (w : World) : (callFunc 54 args).run Tryz.prog w = .ok (.enter 54 args) w := by
  go_simp
theorem call_rf1 (a b : Bool) (w : World) : Calls Tryz.prog 53 #[.bool a, .bool b] w fun e w' => e = .returned (.bool (!a)) ∧ w = w' := by
  go_enter Tryz.func53, Tryz.ntmps53
  go_wp2_with fail
  go_ret
  exact ⟨rfl, rfl⟩
theorem call_rf2 (a b : Bool) (w : World) : Calls Tryz.prog 54 #[.bool a, .bool b] w fun e w' => e = .returned (.bool b) ∧ w = w' := by
  go_enter Tryz.func54, Tryz.ntmps54
  go_wp2_with fail
  go_ret
  exact ⟨rfl, rfl⟩
set_option maxRecDepth 100000 in
set_option maxHeartbeats 1000000 in
theorem ref_toFault (F : Nat) (isf : Bool → Bool → Bool) (why : Int) (eg : ∀ args w, (callFunc F args).run Tryz.prog w = .ok (.enter F args) w) (hF : ∀ a b W, Calls Tryz.prog F #[.bool a, .bool b] W fun e w' => e = .returned (.bool (isf a b)) ∧ W = w')
    (A1 A2 : Option Addr) (n1 c1 n2 c2 : Nat) (P T : List PartD) (w : World) (h1 : PSl w A1 n1 P) (h2 : PSl w A2 n2 T) (hn1 : n1 ≤ 100000) (hn2 : n2 ≤ 100000) :
    Calls Tryz.prog 52 #[.slice A1 n1 c1, .slice A2 n2 c2, .func (.func F) #[] #[], .int .i64 why] w fun e w' => e = .returned (.int .i64 (if T.any (fun p => decide (p.kind ≠ 1) && isf (hasP P p.name) (otherK P p)) = true then why else 0)) ∧ New w w' := by
  have hl1 := h1.1
  have hl2 := h2.1
  have HS1 := Lib.hid h1
  have HS2 := Lib.hid h2
  have HL2 := Lib.hid hl2
  have HF := Lib.hid hF
  clear h1 h2 hl1 hl2 hF
  obtain ⟨R, hR⟩ : ∃ R : Int, (if T.any (fun p => decide (p.kind ≠ 1) && isf (hasP P p.name) (otherK P p)) = true then why else 0) = R := ⟨_, rfl⟩
  have HR0 := Lib.hid hR
  rw [hR]
  clear hR
  go_enter Tryz.func52, Tryz.ntmps52
  go_wp2_with fail
  go_loopw [14] (fun i wr => ∃ k : Nat, k ≤ n2 ∧ i = .int .i64 k ∧ Hid ((T.take k).any (fun p => decide (p.kind ≠ 1) && isf (hasP P p.name) (otherK P p)) = false) ∧ Hid (New w wr)) (fun i _ => n2 - (intOf i).toNat)
  case atStart => exact ⟨0, Nat.zero_le _, rfl, Lib.hid rfl, Lib.hid (Mod.refl _ _)⟩
  case round =>
    rename World => wr
    obtain ⟨k, hk, rfl, HR, HM⟩ := hrel
    by_cases hlt : k < n2
    · have hkl : k < T.length := by have := HL2.out; omega
      have HAS := Lib.hid (any_step (fun p => decide (p.kind ≠ 1) && isf (hasP P p.name) (otherK P p)) hkl HR.out)
      obtain ⟨g, o, hA, htb, hc0⟩ := (HS2.out.new HM.out).2 (by omega)
      subst hA
      have hgl := htb.lt
      have a0 := hc0 k hkl 0 (by omega)
      have a1 := hc0 k hkl 1 (by omega)
      simp only [PartD.enc, Nat.add_zero] at a0 a1
      clear htb hc0
      generalize T[k] = x at *
      obtain ⟨xk, xn⟩ := x
      simp only at a0 a1 HAS
      have hb2 : (0 : Int) ≤ k := by omega
      have hb3 : (k : Int) < n2 := by omega
      have bp := Blk.new wr 80 #[.int .i64 xk, .string xn]
      have mp : New wr (wr.alloc (.cells #[.int .i64 xk, .string xn] 80)) := (Mod.refl _ _).alloc _
      have p0 := bp.cell 0
      have pl := bp.lt
      simp only [List.getElem?_toArray, List.getElem?_cons_zero, List.getElem?_cons_succ] at p0
      have HMP := Lib.hid (HM.out.trans mp)
      have HBP := Lib.hid bp
      clear bp mp
      go_upto_region 4 with (fail)
      clear a0 a1 hgl
      generalize wr.alloc (.cells #[.int .i64 xk, .string xn] 80) = w1 at *
      generalize wr.heap.size = pb at *
      by_cases hxk : xk = 1
      · have hk1 : (xk == 1) = true := by simpa using hxk
        have HN := Lib.hid (HAS.out.2 (by simp [hxk]))
        clear hxk
        go_wp2_with fail
        exact ⟨⟨k + 1, by omega, by go_num, HN, HMP⟩, by simp [intOf]; omega⟩
      · have hk1 : (xk == 1) = false := by simpa using hxk
        have hcf := containsFunc_partQ 82 (.pointer (some ⟨pb, 0, none⟩)) enters_reftopar w1 A1 n1 c1 P (otherQ xk xn) (HS1.out.new HMP.out) (fun p wq hw => ref_topar p pb xk xn wq (HBP.out.new2 hw)) hn1
        have HOT := Lib.hid (otherQ_any P ⟨xk, xn⟩)
        rw [otherQ_any P ⟨xk, xn⟩] at hcf
        go_wp2_with fail
        clear p0 pl
        refine hcf.mono ?_
        clear hcf
        rintro e w2 ⟨rfl, m2⟩
        have HM2 := Lib.hid (HMP.out.trans m2)
        have bp2 := HBP.out.new2 m2
        have p1 := bp2.cell 1
        have pl := bp2.lt
        simp only [List.getElem?_toArray, List.getElem?_cons_zero, List.getElem?_cons_succ] at p1
        clear bp2 m2
        have hhp := ref_hasParam A1 n1 c1 P xn w2 (HS1.out.new HM2.out) hn1
        have hdk : decide (xk ≠ 1) = true := by simpa using hxk
        rw [hdk, Bool.true_and] at HAS
        clear hxk hdk HOT
        generalize otherK P ⟨xk, xn⟩ = ok at *
        generalize hasP P xn = hp at *
        go_wp2_with fail
        refine hhp.mono ?_
        clear hhp
        rintro e w3 ⟨rfl, m3⟩
        have HM3 := Lib.hid (HM2.out.trans m3)
        have hq := HF.out hp ok w3
        clear m3 p1 pl
        go_wp2_with fail
        refine hq.mono ?_
        clear hq
        rintro e w4 ⟨rfl, rfl⟩
        generalize isf hp ok = ans at *
        cases ans
        · have HN := Lib.hid (HAS.out.2 rfl)
          go_wp2_with fail
          exact ⟨⟨k + 1, by omega, by go_num, HN, HM3⟩, by simp [intOf]; omega⟩
        · have HE : Hid (R = why) := Lib.hid (by rw [← HR0.out, if_pos (HAS.out.1 rfl)])
          go_wp2_with fail
          go_ret
          exact ⟨ret_int HE.out.symm, HM3.out⟩
    · obtain rfl : n2 = k := by omega
      have HE : Hid (R = 0) := Lib.hid (by
        have h := HR.out
        rw [← HL2.out, List.take_length] at h
        rw [← HR0.out, h]
        rfl)
      go_wp2_with fail
      go_ret
      exact ⟨ret_int HE.out.symm, HM.out⟩
end Go.Proofs.YtnbcfpjalgfikaaGreatDoor

namespace Go.Proofs.YtnbcfpjalgfikaaGreatDoor
open Go.RowKit
set_option linter.unusedVariables false
set_option linter.unusedSimpArgs false

theorem starOff_size (s : ByteArray) : (starOff s).size ≤ s.size := by
  show (Lib.trimPrefix s.data.toList [42, 46]).toArray.size ≤ _
  have : (Lib.trimPrefix s.data.toList [42, 46]).length ≤ s.data.toList.length := by
    unfold Lib.trimPrefix
    split
    · rw [List.length_drop]; omega
    · exact Nat.le_refl _
  have h2 : s.data.toList.length = s.size := rfl
  simp
  omega
theorem cased_up (x : ByteArray) : (x.toList == (⟨(x.data.toList.map (caseC false)).toArray⟩ : ByteArray).toList) = noLow x.data.toList := by
  rw [← upper_self, ByteArray.toList_eq, ByteArray.toList_eq, Bool.eq_iff_iff]
  simp only [beq_iff_eq, decide_eq_true_eq]
  have e : x.data.toList.map (caseC false) = Lib.toUpperA x.data.toList := rfl
  rw [e]
  constructor
  · intro h; exact (by simpa using h.symm)
  · intro h; simp [h]
theorem cased_down (x : ByteArray) : (x.toList == (⟨(x.data.toList.map (caseC true)).toArray⟩ : ByteArray).toList) = noUp x.data.toList := by
  rw [← lower_self, ByteArray.toList_eq, ByteArray.toList_eq, Bool.eq_iff_iff]
  simp only [beq_iff_eq, decide_eq_true_eq]
  have e : x.data.toList.map (caseC true) = Lib.toLowerA x.data.toList := rfl
  rw [e]
  constructor
  · intro h; exact (by simpa using h.symm)
  · intro h; simp [h]
set_option maxRecDepth 100000 in
set_option maxHeartbeats 1000000 in
theorem ref_routeFault (x : RA) (r : RtD) (w : World) (h : RtAt w x r) (hz : RtShort r) (hx : MaxLn w) (hT : Pow10 w) : Calls Tryz.prog 21 #[x.val] w fun e w' => e = .returned (.int .i64 (routeF r)) ∧ New w w' := by
  obtain ⟨k1, k2, k3, h1, h2, h3, c1, c2, c3⟩ := h
  obtain ⟨z1, z2, z3, ⟨z4, z5⟩, ⟨z6, z7⟩, ⟨z8, z9⟩⟩ := hz
  obtain ⟨key, ha, hn, hc, path, ma, mn, mc, na, nn, nc, dest⟩ := x
  simp only at k1 k2 k3 h1 h2 h3 c1 c2 c3
  subst k1 k2 k3
  simp only [RA.val]
  have l1 := h1.1
  have l2 := h2.1
  have l3 := h3.1
  have HH1 := Lib.hid h1
  have HH2 := Lib.hid h2
  have HH3 := Lib.hid h3
  have HZ5 := Lib.hid z5
  have HZ7 := Lib.hid z7
  have HZ9 := Lib.hid z9
  have HCAP : Hid (hn ≤ hc ∧ mn ≤ mc ∧ nn ≤ nc) := Lib.hid ⟨c1, c2, c3⟩
  have HLN : Hid (r.hosts.length = hn ∧ r.methods.length = mn ∧ r.needs.length = nn) := Lib.hid ⟨l1, l2, l3⟩
  have HXM := Lib.hid hx
  have HTM := Lib.hid hT
  have HQP := Lib.hid (fun W (h : New w W) => ref_templateOf r.path W z2 (hx.new h))
  have HQD := Lib.hid (fun W (h : New w W) => ref_templateOf r.dest W z3 (hx.new h))
  have HF : Hid (routeF r = if !isKey r.key then 5 else if hostsF r.hosts ≠ 0 then hostsF r.hosts else if (tplOf r.path).1 ≠ 0 then (tplOf r.path).1 else
    if methodsF r.methods ≠ 0 then methodsF r.methods else if needsF r.needs ≠ 0 then needsF r.needs else
    if r.dest = ⟨#[]⟩ then 0 else if (tplOf r.dest).1 ≠ 0 then (tplOf r.dest).1 else toF (tplOf r.path).2 (tplOf r.dest).2) := Lib.hid rfl
  have HDE := Lib.hid (str_nil r.dest)
  clear h1 h2 h3 z3 z4 z5 z6 z7 z8 z9 hx hT l1 l2 l3
  generalize tplOf r.path = P at *
  generalize tplOf r.dest = D at *
  obtain ⟨pe, pl⟩ := P
  obtain ⟨de, dls⟩ := D
  simp only at HF
  have hkk := fun W => ref_key r.key W (by unfold maxLen; omega)
  have HKK := Lib.hid hkk
  clear hkk
  obtain ⟨key, hosts, path, methods, needs, dest⟩ := r
  simp only at HQP HQD HF HDE HKK z1 z2 HH1 HH2 HH3 HZ5 HZ7 HZ9 HLN ⊢
  obtain ⟨R, hR⟩ : ∃ R : Int, routeF ⟨key, hosts, path, methods, needs, dest⟩ = R := ⟨_, rfl⟩
  rw [hR] at HF
  rw [hR]
  clear hR
  have hb := Blk.new w 44 #[.string key, .slice ha hn hc, .string path, .slice ma mn mc, .slice na nn nc, .string dest]
  have hm : New w (w.alloc (.cells #[.string key, .slice ha hn hc, .string path, .slice ma mn mc, .slice na nn nc, .string dest] 44)) := (Mod.refl _ _).alloc _
  go_enter Tryz.func21, Tryz.ntmps21
  go_upto_region 1 with (fail)
  have HX := Lib.hid hb
  have HM := Lib.hid hm
  clear hb hm
  generalize w.alloc (.cells #[.string key, .slice ha hn hc, .string path, .slice ma mn mc, .slice na nn nc, .string dest] 44) = w1 at *
  generalize w.heap.size = xb at *
  have q := HKK.out w1
  cases hk : isKey key
  · rw [hk] at q HF
    have HE := Lib.hid (HF.out.trans rfl)
    clear hk HF
    have e0 := HX.out.cell 0
    have e1 := HX.out.cell 1
    have e2 := HX.out.cell 2
    have e3 := HX.out.cell 3
    have e4 := HX.out.cell 4
    have e5 := HX.out.cell 5
    have el := HX.out.lt
    simp only [List.getElem?_toArray, List.getElem?_cons_zero, List.getElem?_cons_succ] at e0 e1 e2 e3 e4 e5
    go_wp2_with fail
    refine q.mono ?_
    clear q
    rintro e w2 ⟨rfl, rfl⟩
    go_wp2_with fail
    go_ret
    exact ⟨ret_int HE.out.symm, HM.out⟩
  rw [hk] at q HF
  simp only [Bool.not_true, Bool.false_eq_true, if_false] at HF
  clear hk
  have e0 := HX.out.cell 0
  have e1 := HX.out.cell 1
  have e2 := HX.out.cell 2
  have e3 := HX.out.cell 3
  have e4 := HX.out.cell 4
  have e5 := HX.out.cell 5
  have el := HX.out.lt
  simp only [List.getElem?_toArray, List.getElem?_cons_zero, List.getElem?_cons_succ] at e0 e1 e2 e3 e4 e5
  go_wp2_with fail
  clear e0 e1 e2 e3 e4 e5 el
  refine q.mono ?_
  clear q
  rintro e w2 ⟨rfl, rfl⟩
  -- the hosts
  by_cases hb : 20 < hn
  · have hb' : (20 : Int) < hn := by omega
    have HE : Hid (R = 2) := Lib.hid (by
      have : hostsF hosts = 2 := by unfold hostsF; rw [if_pos (by have := HLN.out.1; omega)]
      rw [HF.out, this]; rfl)
    have e0 := HX.out.cell 0
    have e1 := HX.out.cell 1
    have e2 := HX.out.cell 2
    have e3 := HX.out.cell 3
    have e4 := HX.out.cell 4
    have e5 := HX.out.cell 5
    have el := HX.out.lt
    simp only [List.getElem?_toArray, List.getElem?_cons_zero, List.getElem?_cons_succ] at e0 e1 e2 e3 e4 e5
    go_wp2_with fail
    go_ret
    exact ⟨ret_int HE.out.symm, HM.out⟩
  have hb' : ¬ (20 : Int) < hn := by omega
  have HHR : Hid (hostsF hosts = eachF hostF (hosts.take 0) (hosts.drop 0)) := Lib.hid (by unfold hostsF; rw [if_neg (by have := HLN.out.1; omega)]; rfl)
  clear hb
  have HX1 := Lib.hid (fun W (h : New w1 W) => HX.out.new2 h)
  have e0 := HX.out.cell 0
  have e1 := HX.out.cell 1
  have e2 := HX.out.cell 2
  have e3 := HX.out.cell 3
  have e4 := HX.out.cell 4
  have e5 := HX.out.cell 5
  have el := HX.out.lt
  simp only [List.getElem?_toArray, List.getElem?_cons_zero, List.getElem?_cons_succ] at e0 e1 e2 e3 e4 e5
  go_wp2_with fail
  clear e0 e1 e2 e3 e4 e5 el
  go_loopw [25] (fun i wr => ∃ k : Nat, k ≤ hn ∧ i = .int .i64 k ∧ Hid (hostsF hosts = eachF hostF (hosts.take k) (hosts.drop k)) ∧ Hid (New w1 wr)) (fun i _ => hn - (intOf i).toNat)
  case atStart => exact ⟨0, Nat.zero_le _, rfl, HHR, Lib.hid (Mod.refl _ _)⟩
  clear HHR
  case round =>
    rename World => wr
    obtain ⟨k, hk, rfl, HR, HMR⟩ := hrel
    by_cases hlt : k < hn
    · have hkl : k < hosts.length := by have := HLN.out.1; omega
      have HST := Lib.hid (eachF_step hostF hkl)
      have HMM := Lib.hid (HM.out.trans HMR.out)
      obtain ⟨g, o, hA, htb, hc0⟩ := (HH1.out.new HMM.out).2 (by omega)
      have hct := fun W (h : New w W) => contains_take ha hn hc k hosts hosts[k] W (HH1.out.new h) (by omega) (by omega)
      have hsz := HZ5.out _ (List.getElem_mem hkl)
      subst hA
      have hgl := htb.lt
      have hcell := hc0 k hkl 0 (by omega)
      simp only [Nat.mul_one, Nat.add_zero, sEnc] at hcell
      have HFF : Hid (hostF (hosts.take k) hosts[k] = if !hostPat hosts[k] then 3 else if Lib.containsS (hosts.take k) hosts[k] then 6 else 0) := Lib.hid rfl
      have HCT := Lib.hid hct
      clear hct htb hc0
      generalize hosts[k] = x at *
      generalize Lib.containsS (hosts.take k) x = cn at *
      have hb2 : (0 : Int) ≤ k := by omega
      have hb3 : (k : Int) < hn := by omega
      have hb4 : (k : Int) ≤ hc := by have := HCAP.out.1; omega
      have htp := fun W => Tryz.strings_TrimPrefix x ⟨#[42, 46]⟩ W
      have hst : (⟨(Lib.trimPrefix x.data.toList (⟨#[42, 46]⟩ : ByteArray).data.toList).toArray⟩ : ByteArray) = starOff x := rfl
      rw [hst] at htp
      have hts := starOff_size x
      clear hst
      have HTP := Lib.hid htp
      have HPT : Hid (hostPat x = (hostForm (starOff x) && decide (hostN (starOff x).data.toList = (starOff x).data.toList))) := Lib.hid rfl
      have hho := ref_hostOf (starOff x) wr (by omega) (HXM.out.new HMM.out) (HTM.out.new HMM.out)
      clear htp hts
      generalize starOff x = t at *
      have htp := HTP.out wr
      go_wp2_with fail
      refine htp.mono ?_
      clear htp
      rintro e w3 ⟨rfl, rfl⟩
      go_wp2_with fail
      refine hho.mono ?_
      clear hho
      rintro e w3 ⟨rfl, m3⟩
      have HM3 := Lib.hid (HMM.out.trans m3)
      have HMR3 := Lib.hid (HMR.out.trans m3)
      clear m3
      cases hf : hostForm t
      · rw [hf] at HPT
        have HE : Hid (R = 3) := Lib.hid (by
          have : hostsF hosts = 3 := by rw [HR.out, HST.out, HFF.out, HPT.out]; rfl
          rw [HF.out, this]; rfl)
        simp only [Bool.false_eq_true, if_false]
        clear hf
        go_wp2_with fail
        go_ret
        exact ⟨ret_int HE.out.symm, HM3.out⟩
      rw [hf, Bool.true_and] at HPT
      simp only [if_true]
      clear hf
      have hbq := ba_beq ⟨(hostN t.data.toList).toArray⟩ t
      have hdq : decide ((⟨(hostN t.data.toList).toArray⟩ : ByteArray) = t) = decide (hostN t.data.toList = t.data.toList) := by
        rw [decide_eq_decide]
        constructor
        · intro e
          have h := congrArg (fun z : ByteArray => z.data.toList) e
          simpa using h
        · intro e
          rw [e]
      rw [hdq] at hbq
      clear hdq
      generalize decide (hostN t.data.toList = t.data.toList) = eq at *
      generalize (⟨(hostN t.data.toList).toArray⟩ : ByteArray) = T at *
      have htp := HTP.out w3
      cases eq
      · have HE : Hid (R = 3) := Lib.hid (by
          have : hostsF hosts = 3 := by rw [HR.out, HST.out, HFF.out, HPT.out]; rfl
          rw [HF.out, this]; rfl)
        go_wp2_with fail
        refine htp.mono ?_
        clear htp
        rintro e w4 ⟨rfl, rfl⟩
        go_wp2_with fail
        go_ret
        exact ⟨ret_int HE.out.symm, HM3.out⟩
      go_wp2_with fail
      refine htp.mono ?_
      clear htp
      rintro e w4 ⟨rfl, rfl⟩
      have hbx := HX1.out _ HMR3.out
      have e1 := hbx.cell 1
      have el := hbx.lt
      simp only [List.getElem?_toArray, List.getElem?_cons_zero, List.getElem?_cons_succ] at e1
      clear hbx
      have q2 := HCT.out _ HM3.out
      cases cn
      · have HE : Hid (hostsF hosts = eachF hostF (hosts.take (k + 1)) (hosts.drop (k + 1))) := Lib.hid (by rw [HR.out, HST.out, HFF.out, HPT.out]; rfl)
        go_wp2_with fail
        refine q2.mono ?_
        clear q2
        rintro e w5 ⟨rfl, rfl⟩
        go_wp2_with fail
        exact ⟨⟨k + 1, by omega, by go_num, HE, HMR3⟩, by simp [intOf]; omega⟩
      · have HE : Hid (R = 6) := Lib.hid (by
          have : hostsF hosts = 6 := by rw [HR.out, HST.out, HFF.out, HPT.out]; rfl
          rw [HF.out, this]; rfl)
        go_wp2_with fail
        refine q2.mono ?_
        clear q2
        rintro e w5 ⟨rfl, rfl⟩
        go_wp2_with fail
        go_ret
        exact ⟨ret_int HE.out.symm, HM3.out⟩
    · obtain rfl : hn = k := by omega
      have HH0 : Hid (hostsF hosts = 0) := Lib.hid (by have := HLN.out.1; rw [HR.out, ← this]; exact eachF_end _ _)
      rw [HH0.out] at HF
      have HXW := Lib.hid (HX1.out _ HMR.out)
      have HMW := Lib.hid (HM.out.trans HMR.out)
      clear HX HM HX1 HR HMR HH0
      have HX := HXW
      have HM := HMW
      clear HXW HMW
      have q := HQP.out _ HM.out
      have e0 := HX.out.cell 0
      have e1 := HX.out.cell 1
      have e2 := HX.out.cell 2
      have e3 := HX.out.cell 3
      have e4 := HX.out.cell 4
      have e5 := HX.out.cell 5
      have el := HX.out.lt
      simp only [List.getElem?_toArray, List.getElem?_cons_zero, List.getElem?_cons_succ] at e0 e1 e2 e3 e4 e5
      go_wp2_with fail
      clear e0 e1 e2 e3 e4 e5 el
      refine q.mono ?_
      clear q
      rintro e w3 ⟨A3, n3, c3, rfl, s3, m3, b3⟩
      have HX1 := Lib.hid (HX.out.new2 m3)
      have HM1 := Lib.hid (HM.out.trans m3)
      clear HX HM
      have HX := HX1
      have HM := HM1
      clear HX1 HM1
      have HS3 := Lib.hid s3
      clear m3 s3
      by_cases g2 : pe ≠ 0
      · have g2b : (pe != 0) = true := by simpa using g2
        have HE : Hid (R = pe) := Lib.hid (by rw [HF.out, if_neg (by simp), if_pos g2])
        clear g2
        go_wp2_with fail
        go_ret
        exact ⟨ret_int HE.out.symm, HM.out⟩
      have g2b : (pe != 0) = false := by simpa using g2
      rw [if_neg (by simp), if_neg g2] at HF
      clear g2
      -- the methods
      by_cases hb : 20 < mn
      · have hb2 : (20 : Int) < mn := by omega
        have HE : Hid (R = 2) := Lib.hid (by
          have : methodsF methods = 2 := by unfold methodsF; rw [if_pos (by have := HLN.out.2.1; omega)]
          rw [HF.out, this]; rfl)
        have e0 := HX.out.cell 0
        have e1 := HX.out.cell 1
        have e2 := HX.out.cell 2
        have e3 := HX.out.cell 3
        have e4 := HX.out.cell 4
        have e5 := HX.out.cell 5
        have el := HX.out.lt
        simp only [List.getElem?_toArray, List.getElem?_cons_zero, List.getElem?_cons_succ] at e0 e1 e2 e3 e4 e5
        go_wp2_with fail
        go_ret
        exact ⟨ret_int HE.out.symm, HM.out⟩
      have hb2 : ¬ (20 : Int) < mn := by omega
      have HHR : Hid (methodsF methods = eachF methodF (methods.take 0) (methods.drop 0)) := Lib.hid (by unfold methodsF; rw [if_neg (by have := HLN.out.2.1; omega)]; rfl)
      clear hb
      have HX1 := Lib.hid (fun W (h : New w3 W) => HX.out.new2 h)
      have e0 := HX.out.cell 0
      have e1 := HX.out.cell 1
      have e2 := HX.out.cell 2
      have e3 := HX.out.cell 3
      have e4 := HX.out.cell 4
      have e5 := HX.out.cell 5
      have el := HX.out.lt
      simp only [List.getElem?_toArray, List.getElem?_cons_zero, List.getElem?_cons_succ] at e0 e1 e2 e3 e4 e5
      go_wp2_with fail
      clear e0 e1 e2 e3 e4 e5 el
      go_loopw [67] (fun i wr => ∃ k : Nat, k ≤ mn ∧ i = .int .i64 k ∧ Hid (methodsF methods = eachF methodF (methods.take k) (methods.drop k)) ∧ Hid (New w3 wr)) (fun i _ => mn - (intOf i).toNat)
      case atStart => exact ⟨0, Nat.zero_le _, rfl, HHR, Lib.hid (Mod.refl _ _)⟩
      clear HHR
      case round =>
        rename World => wr
        obtain ⟨k, hk, rfl, HR, HMR⟩ := hrel
        by_cases hlt : k < mn
        · have hkl : k < methods.length := by have := HLN.out.2.1; omega
          have HST := Lib.hid (eachF_step methodF hkl)
          have HMM := Lib.hid (HM.out.trans HMR.out)
          obtain ⟨g, o, hA, htb, hc0⟩ := (HH2.out.new HMM.out).2 (by omega)
          have hct := fun W (h : New w W) => contains_take ma mn mc k methods methods[k] W (HH2.out.new h) (by omega) (by omega)
          have hsz := HZ7.out _ (List.getElem_mem hkl)
          subst hA
          have hgl := htb.lt
          have hcell := hc0 k hkl 0 (by omega)
          simp only [Nat.mul_one, Nat.add_zero, sEnc] at hcell
          have HFF : Hid (methodF (methods.take k) methods[k] = if !(isTok methods[k] && noLow methods[k].data.toList) then 5 else if Lib.containsS (methods.take k) methods[k] then 6 else 0) := Lib.hid rfl
          have HCT := Lib.hid hct
          clear hct htb hc0
          generalize methods[k] = x at *
          generalize Lib.containsS (methods.take k) x = cn at *
          have hb3 : (0 : Int) ≤ k := by omega
          have hb4 : (k : Int) < mn := by omega
          have hb5 : (k : Int) ≤ mc := by have := HCAP.out.2.1; omega
          have q := ref_token x wr (by omega)
          have qu := ref_cased x false wr (by omega)
          have hbq := cased_up x
          generalize (⟨(x.data.toList.map (caseC false)).toArray⟩ : ByteArray) = T at *
          generalize noLow x.data.toList = nl at *
          cases hp : isTok x
          · rw [hp] at q HFF
            have HE : Hid (R = 5) := Lib.hid (by
              have : methodsF methods = 5 := by rw [HR.out, HST.out, HFF.out]; rfl
              rw [HF.out, this]; rfl)
            clear hp qu
            go_wp2_with fail
            refine q.mono ?_
            clear q
            rintro e w4 ⟨rfl, rfl⟩
            go_wp2_with fail
            go_ret
            exact ⟨ret_int HE.out.symm, HMM.out⟩
          rw [hp] at q HFF
          clear hp
          go_wp2_with fail
          refine q.mono ?_
          clear q
          rintro e w4 ⟨rfl, rfl⟩
          go_wp2_with fail
          refine qu.mono ?_
          clear qu
          rintro e w4 ⟨rfl, m4⟩
          have HM4 := Lib.hid (HMM.out.trans m4)
          have HMR4 := Lib.hid (HMR.out.trans m4)
          clear m4
          cases nl
          · have HE : Hid (R = 5) := Lib.hid (by
              have : methodsF methods = 5 := by rw [HR.out, HST.out, HFF.out]; rfl
              rw [HF.out, this]; rfl)
            go_wp2_with fail
            go_ret
            exact ⟨ret_int HE.out.symm, HM4.out⟩
          have hbx := HX1.out _ HMR4.out
          have e3 := hbx.cell 3
          have el := hbx.lt
          simp only [List.getElem?_toArray, List.getElem?_cons_zero, List.getElem?_cons_succ] at e3
          clear hbx
          have q2 := HCT.out _ HM4.out
          cases cn
          · have HE : Hid (methodsF methods = eachF methodF (methods.take (k + 1)) (methods.drop (k + 1))) := Lib.hid (by rw [HR.out, HST.out, HFF.out]; rfl)
            go_wp2_with fail
            refine q2.mono ?_
            clear q2
            rintro e w5 ⟨rfl, rfl⟩
            go_wp2_with fail
            exact ⟨⟨k + 1, by omega, by go_num, HE, HMR4⟩, by simp [intOf]; omega⟩
          · have HE : Hid (R = 6) := Lib.hid (by
              have : methodsF methods = 6 := by rw [HR.out, HST.out, HFF.out]; rfl
              rw [HF.out, this]; rfl)
            go_wp2_with fail
            refine q2.mono ?_
            clear q2
            rintro e w5 ⟨rfl, rfl⟩
            go_wp2_with fail
            go_ret
            exact ⟨ret_int HE.out.symm, HM4.out⟩
        · obtain rfl : mn = k := by omega
          have HH0 : Hid (methodsF methods = 0) := Lib.hid (by have := HLN.out.2.1; rw [HR.out, ← this]; exact eachF_end _ _)
          rw [HH0.out, if_neg (by simp)] at HF
          have HXW := Lib.hid (HX1.out _ HMR.out)
          have HMW := Lib.hid (HM.out.trans HMR.out)
          have HS4 := Lib.hid (HS3.out.new HMR.out)
          clear HX HM HX1 HR HMR HH0 HS3
          have HX := HXW
          have HM := HMW
          clear HXW HMW
          -- the needs
          by_cases hb : 20 < nn
          · have hb3 : (20 : Int) < nn := by omega
            have HE : Hid (R = 2) := Lib.hid (by
              have : needsF needs = 2 := by unfold needsF; rw [if_pos (by have := HLN.out.2.2; omega)]
              rw [HF.out, this]; rfl)
            have e0 := HX.out.cell 0
            have e1 := HX.out.cell 1
            have e2 := HX.out.cell 2
            have e3 := HX.out.cell 3
            have e4 := HX.out.cell 4
            have e5 := HX.out.cell 5
            have el := HX.out.lt
            simp only [List.getElem?_toArray, List.getElem?_cons_zero, List.getElem?_cons_succ] at e0 e1 e2 e3 e4 e5
            go_wp2_with fail
            go_ret
            exact ⟨ret_int HE.out.symm, HM.out⟩
          have hb3 : ¬ (20 : Int) < nn := by omega
          have HHR : Hid (needsF needs = eachF needF (needs.take 0) (needs.drop 0)) := Lib.hid (by unfold needsF; rw [if_neg (by have := HLN.out.2.2; omega)]; rfl)
          clear hb
          have HX1 := Lib.hid (fun W (h : New wr W) => HX.out.new2 h)
          have e0 := HX.out.cell 0
          have e1 := HX.out.cell 1
          have e2 := HX.out.cell 2
          have e3 := HX.out.cell 3
          have e4 := HX.out.cell 4
          have e5 := HX.out.cell 5
          have el := HX.out.lt
          simp only [List.getElem?_toArray, List.getElem?_cons_zero, List.getElem?_cons_succ] at e0 e1 e2 e3 e4 e5
          go_wp2_with fail
          clear e0 e1 e2 e3 e4 e5 el
          go_loopw [95] (fun i wq => ∃ k : Nat, k ≤ nn ∧ i = .int .i64 k ∧ Hid (needsF needs = eachF needF (needs.take k) (needs.drop k)) ∧ Hid (New wr wq)) (fun i _ => nn - (intOf i).toNat)
          case atStart => exact ⟨0, Nat.zero_le _, rfl, HHR, Lib.hid (Mod.refl _ _)⟩
          clear HHR
          case round =>
            rename World => wq
            obtain ⟨k, hk, rfl, HR, HMR⟩ := hrel
            by_cases hlt : k < nn
            · have hkl : k < needs.length := by have := HLN.out.2.2; omega
              have HST := Lib.hid (eachF_step needF hkl)
              have HMM := Lib.hid (HM.out.trans HMR.out)
              obtain ⟨g, o, hA, htb, hc0⟩ := (HH3.out.new HMM.out).2 (by omega)
              have hct := fun W (h : New w W) => contains_pair na nn nc k needs needs[k] W (HH3.out.new h) (by omega) (by omega)
              have hsz := HZ9.out _ (List.getElem_mem hkl)
              subst hA
              have hgl := htb.lt
              have a0 := hc0 k hkl 0 (by omega)
              have a1 := hc0 k hkl 1 (by omega)
              simp only [pairEnc, Nat.add_zero] at a0 a1
              have HFF : Hid (needF (needs.take k) needs[k] = if !(isTok needs[k].1 && noUp needs[k].1.data.toList) then 5 else if !isFld needs[k].2 then 3 else if hasPair (needs.take k) needs[k] then 6 else 0) := Lib.hid rfl
              have HCT := Lib.hid hct
              clear hct htb hc0
              generalize needs[k] = y at *
              obtain ⟨xn, xv⟩ := y
              simp only at a0 a1 HFF hsz
              generalize hasPair (needs.take k) (xn, xv) = cn at *
              have hb4 : (0 : Int) ≤ k := by omega
              have hb5 : (k : Int) < nn := by omega
              have hb6 : (k : Int) ≤ nc := by have := HCAP.out.2.2; omega
              have bp := Blk.new wq 55 #[.string xn, .string xv]
              have mp : New wq (wq.alloc (.cells #[.string xn, .string xv] 55)) := (Mod.refl _ _).alloc _
              go_upto_region 32 with (fail)
              have HMP := Lib.hid (HMR.out.trans mp)
              have HBP := Lib.hid bp
              clear a0 a1 bp mp hgl
              generalize wq.alloc (.cells #[.string xn, .string xv] 55) = w5 at *
              generalize wq.heap.size = pb at *
              have HSP : Hid (∀ W, New w5 W → W.cell? ⟨pb, 0, none⟩ = some (.string xn) ∧ W.cell? ⟨pb, 1, none⟩ = some (.string xv) ∧ pb < W.heap.size) := Lib.hid (fun W hW => by
                have h := HBP.out.mod hW (fun e => e)
                exact ⟨(h.cell 0).trans rfl, (h.cell 1).trans rfl, h.lt⟩)
              have hn1 : New w5 w5.drew := (Mod.refl _ _).drew
              have q := ref_token xn w5.drew (by omega)
              have HU := Lib.hid (fun W => ref_cased xn true W (by omega))
              have hbq := cased_down xn
              generalize (⟨(xn.data.toList.map (caseC true)).toArray⟩ : ByteArray) = T at *
              generalize noUp xn.data.toList = nu at *
              go_cut [100] (fun s wx => s = .bool (!(isTok xn && nu)) ∧ Hid (New w5 wx))
              case first =>
                have HTK : Hid (∀ b, isTok xn = b → (!(isTok xn && nu)) = !(b && nu)) := Lib.hid (fun b e => by rw [e])
                cases hp : isTok xn
                · rw [hp] at q
                  have HQ := Lib.hid (HTK.out _ hp)
                  clear hp HTK HU
                  refine wp_region_held_ord (New w5) [2, 9] [0, 1, 2, 3, 4, 5, 6, 7, 8, 9, 10] (by kernel_rfl) (by kernel_rfl) (fun _ _ d _ _ h => by cases d <;> exact h) ?_ (fun hHeld => ?_)
                  · exact hn1
                  simp only [List.length_cons, List.length_nil, List.drop_succ_cons, List.drop_zero]
                  refine heldO_take ?_ (by rfl) (by rfl) (by rfl) (fun w hSw => ?_) ?_
                  rotate_left
                  · (have hq := HSP.out w hSw); (try simp only [List.getElem_toArray, List.getElem_cons_zero, List.getElem_cons_succ]); go_simp; any_goals (with_reducible rfl)
                  simp only [Act.put, List.getElem_toArray, List.getElem_cons_zero, List.getElem_cons_succ, List.setIfInBounds_toArray, List.set_cons_zero, List.set_cons_succ]
                  refine heldO_take ?_ (by rfl) (by rfl) (by rfl) (fun w hSw => ?_) ?_
                  rotate_left
                  · (have hq := HSP.out w hSw); (try simp only [List.getElem_toArray, List.getElem_cons_zero, List.getElem_cons_succ]); go_simp; any_goals (with_reducible rfl)
                  simp only [Act.put, List.getElem_toArray, List.getElem_cons_zero, List.getElem_cons_succ, List.setIfInBounds_toArray, List.set_cons_zero, List.set_cons_succ]
                  refine heldQ_step (by rfl) (by rfl) (by rfl) (fun K hK => ?_)
                  go_simp
                  refine q.mono ?_
                  clear q
                  rintro e w' ⟨rfl, rfl⟩
                  go_wp2_with fail
                  refine hK.out _ _ hn1 (fun hHeld => ?_)
                  clear hK K hHeld
                  try simp only [Act.put, List.setIfInBounds_toArray, List.set_cons_zero, List.set_cons_succ]
                  refine heldO_take ?_ (by rfl) (by rfl) (by rfl) (fun w hSw => ?_) ?_
                  rotate_left
                  · (have hq := HSP.out w hSw); (try simp only [List.getElem_toArray, List.getElem_cons_zero, List.getElem_cons_succ]); go_simp; any_goals (with_reducible rfl)
                  simp only [Act.put, List.getElem_toArray, List.getElem_cons_zero, List.getElem_cons_succ, List.setIfInBounds_toArray, List.set_cons_zero, List.set_cons_succ]
                  refine heldO_take ?_ (by rfl) (by rfl) (by rfl) (fun w hSw => ?_) ?_
                  rotate_left
                  · (have hq := HSP.out w hSw); (try simp only [List.getElem_toArray, List.getElem_cons_zero, List.getElem_cons_succ]); go_simp; any_goals (with_reducible rfl)
                  simp only [Act.put, List.getElem_toArray, List.getElem_cons_zero, List.getElem_cons_succ, List.setIfInBounds_toArray, List.set_cons_zero, List.set_cons_succ]
                  refine heldQ_skip (by rfl) (by rfl) (by rfl) ?_
                  simp only [Act.put, List.getElem_toArray, List.getElem_cons_zero, List.getElem_cons_succ, List.setIfInBounds_toArray, List.set_cons_zero, List.set_cons_succ]
                  refine heldQ_skip (by rfl) (by rfl) (by rfl) ?_
                  simp only [Act.put, List.getElem_toArray, List.getElem_cons_zero, List.getElem_cons_succ, List.setIfInBounds_toArray, List.set_cons_zero, List.set_cons_succ]
                  refine heldQ_skip (by rfl) (by rfl) (by rfl) ?_
                  simp only [Act.put, List.getElem_toArray, List.getElem_cons_zero, List.getElem_cons_succ, List.setIfInBounds_toArray, List.set_cons_zero, List.set_cons_succ]
                  refine heldQ_skip (by rfl) (by rfl) (by rfl) ?_
                  simp only [Act.put, List.getElem_toArray, List.getElem_cons_zero, List.getElem_cons_succ, List.setIfInBounds_toArray, List.set_cons_zero, List.set_cons_succ]
                  refine heldQ_skipC (by rfl) (by rfl) (by rfl) (by assumption) ?_
                  simp only [Act.put, List.getElem_toArray, List.getElem_cons_zero, List.getElem_cons_succ, List.setIfInBounds_toArray, List.set_cons_zero, List.set_cons_succ]
                  refine heldQ_skip (by rfl) (by rfl) (by rfl) ?_
                  simp only [Act.put, List.getElem_toArray, List.getElem_cons_zero, List.getElem_cons_succ, List.setIfInBounds_toArray, List.set_cons_zero, List.set_cons_succ]
                  refine heldO_nil ?_
                  go_wp2_with fail
                  go_meet
                  case rel => exact ⟨by rw [HQ.out]; rfl, Lib.hid hn1⟩
                · rw [hp] at q
                  have HQ := Lib.hid (HTK.out _ hp)
                  clear hp HTK
                  refine wp_region_held_ord (New w5) [2, 9] [0, 1, 2, 3, 4, 5, 6, 7, 8, 9, 10] (by kernel_rfl) (by kernel_rfl) (fun _ _ d _ _ h => by cases d <;> exact h) ?_ (fun hHeld => ?_)
                  · exact hn1
                  simp only [List.length_cons, List.length_nil, List.drop_succ_cons, List.drop_zero]
                  refine heldO_take ?_ (by rfl) (by rfl) (by rfl) (fun w hSw => ?_) ?_
                  rotate_left
                  · (have hq := HSP.out w hSw); (try simp only [List.getElem_toArray, List.getElem_cons_zero, List.getElem_cons_succ]); go_simp; any_goals (with_reducible rfl)
                  simp only [Act.put, List.getElem_toArray, List.getElem_cons_zero, List.getElem_cons_succ, List.setIfInBounds_toArray, List.set_cons_zero, List.set_cons_succ]
                  refine heldO_take ?_ (by rfl) (by rfl) (by rfl) (fun w hSw => ?_) ?_
                  rotate_left
                  · (have hq := HSP.out w hSw); (try simp only [List.getElem_toArray, List.getElem_cons_zero, List.getElem_cons_succ]); go_simp; any_goals (with_reducible rfl)
                  simp only [Act.put, List.getElem_toArray, List.getElem_cons_zero, List.getElem_cons_succ, List.setIfInBounds_toArray, List.set_cons_zero, List.set_cons_succ]
                  refine heldQ_step (by rfl) (by rfl) (by rfl) (fun K hK => ?_)
                  go_simp
                  refine q.mono ?_
                  clear q
                  rintro e w' ⟨rfl, rfl⟩
                  go_wp2_with fail
                  refine hK.out _ _ hn1 (fun hHeld => ?_)
                  clear hK K hHeld
                  try simp only [Act.put, List.setIfInBounds_toArray, List.set_cons_zero, List.set_cons_succ]
                  refine heldO_take ?_ (by rfl) (by rfl) (by rfl) (fun w hSw => ?_) ?_
                  rotate_left
                  · (have hq := HSP.out w hSw); (try simp only [List.getElem_toArray, List.getElem_cons_zero, List.getElem_cons_succ]); go_simp; any_goals (with_reducible rfl)
                  simp only [Act.put, List.getElem_toArray, List.getElem_cons_zero, List.getElem_cons_succ, List.setIfInBounds_toArray, List.set_cons_zero, List.set_cons_succ]
                  refine heldO_take ?_ (by rfl) (by rfl) (by rfl) (fun w hSw => ?_) ?_
                  rotate_left
                  · (have hq := HSP.out w hSw); (try simp only [List.getElem_toArray, List.getElem_cons_zero, List.getElem_cons_succ]); go_simp; any_goals (with_reducible rfl)
                  simp only [Act.put, List.getElem_toArray, List.getElem_cons_zero, List.getElem_cons_succ, List.setIfInBounds_toArray, List.set_cons_zero, List.set_cons_succ]
                  refine heldO_take ?_ (by rfl) (by rfl) (by rfl) (fun w hSw => ?_) ?_
                  rotate_left
                  · (have hq := HSP.out w hSw); (try simp only [List.getElem_toArray, List.getElem_cons_zero, List.getElem_cons_succ]); go_simp; any_goals (with_reducible rfl)
                  simp only [Act.put, List.getElem_toArray, List.getElem_cons_zero, List.getElem_cons_succ, List.setIfInBounds_toArray, List.set_cons_zero, List.set_cons_succ]
                  refine heldO_take ?_ (by rfl) (by rfl) (by rfl) (fun w hSw => ?_) ?_
                  rotate_left
                  · (have hq := HSP.out w hSw); (try simp only [List.getElem_toArray, List.getElem_cons_zero, List.getElem_cons_succ]); go_simp; any_goals (with_reducible rfl)
                  simp only [Act.put, List.getElem_toArray, List.getElem_cons_zero, List.getElem_cons_succ, List.setIfInBounds_toArray, List.set_cons_zero, List.set_cons_succ]
                  refine heldO_take ?_ (by rfl) (by rfl) (by rfl) (fun w hSw => ?_) ?_
                  rotate_left
                  · (have hq := HSP.out w hSw); (try simp only [List.getElem_toArray, List.getElem_cons_zero, List.getElem_cons_succ]); go_simp; any_goals (with_reducible rfl)
                  simp only [Act.put, List.getElem_toArray, List.getElem_cons_zero, List.getElem_cons_succ, List.setIfInBounds_toArray, List.set_cons_zero, List.set_cons_succ]
                  refine heldO_take ?_ (by rfl) (by rfl) (by rfl) (fun w hSw => ?_) ?_
                  rotate_left
                  · (have hq := HSP.out w hSw); (try simp only [List.getElem_toArray, List.getElem_cons_zero, List.getElem_cons_succ]); go_simp; any_goals (with_reducible rfl)
                  simp only [Act.put, List.getElem_toArray, List.getElem_cons_zero, List.getElem_cons_succ, List.setIfInBounds_toArray, List.set_cons_zero, List.set_cons_succ]
                  refine heldQ_step (by rfl) (by rfl) (by rfl) (fun K hK => ?_)
                  go_simp
                  refine (HU.out _).mono ?_
                  rintro e w6 ⟨rfl, m6⟩
                  have hn3 : New w5 w6 := hn1.trans m6
                  go_wp2_with fail
                  refine hK.out _ _ hn3 (fun hHeld => ?_)
                  clear hK K hHeld m6
                  try simp only [Act.put, List.setIfInBounds_toArray, List.set_cons_zero, List.set_cons_succ]
                  refine heldO_take ?_ (by rfl) (by rfl) (by rfl) (fun w hSw => ?_) ?_
                  rotate_left
                  · (have hq := HSP.out w hSw); (try simp only [List.getElem_toArray, List.getElem_cons_zero, List.getElem_cons_succ]); go_simp; any_goals (with_reducible rfl)
                  simp only [Act.put, List.getElem_toArray, List.getElem_cons_zero, List.getElem_cons_succ, List.setIfInBounds_toArray, List.set_cons_zero, List.set_cons_succ]
                  refine heldO_nil ?_
                  go_wp2_with fail
                  go_meet
                  case rel => exact ⟨by rw [HQ.out]; cases nu <;> rfl, Lib.hid hn3⟩
              case rest =>
                rename World => w6
                obtain ⟨rfl, HM6⟩ := hcut
                clear q HU hbq hn1
                have HMA := Lib.hid (HM.out.trans (HMP.out.trans HM6.out))
                cases hp : (isTok xn && nu)
                · have HE : Hid (R = 5) := Lib.hid (by
                    have : needsF needs = 5 := by rw [HR.out, HST.out, HFF.out, hp]; rfl
                    rw [HF.out, this]; rfl)
                  clear hp
                  go_wp2_with fail
                  go_ret
                  exact ⟨ret_int HE.out.symm, HMA.out⟩
                · rw [hp] at HFF
                  simp only [Bool.not_true, Bool.false_eq_true, if_false] at HFF
                  clear hp
                  obtain ⟨p0, p1, plt⟩ := HSP.out _ HM6.out
                  have qf := ref_field xv w6 (by omega)
                  cases hf : isFld xv
                  · have HE : Hid (R = 3) := Lib.hid (by
                      have : needsF needs = 3 := by rw [HR.out, HST.out, HFF.out, hf]; rfl
                      rw [HF.out, this]; rfl)
                    rw [hf] at qf
                    clear hf
                    go_wp2_with fail
                    refine qf.mono ?_
                    clear qf
                    rintro e w7 ⟨rfl, m7⟩
                    have HM7 := Lib.hid (HMA.out.trans m7)
                    go_wp2_with fail
                    go_ret
                    exact ⟨ret_int HE.out.symm, HM7.out⟩
                  · rw [hf] at HFF qf
                    simp only [Bool.not_true, Bool.false_eq_true, if_false] at HFF
                    clear hf
                    go_wp2_with fail
                    refine qf.mono ?_
                    clear qf
                    rintro e w7 ⟨rfl, m7⟩
                    have HM7 := Lib.hid (HM6.out.trans m7)
                    clear m7 p0 p1 plt
                    go_upto_region 36 with (fail)
                    have HSQ : Hid (∀ W, New w7 W → (W.cell? ⟨pb, 0, none⟩ = some (.string xn) ∧ W.cell? ⟨pb, 1, none⟩ = some (.string xv) ∧ pb < W.heap.size) ∧ W.cell? ⟨xb, 4, none⟩ = some (.slice (some ⟨g, o, none⟩) nn nc) ∧ xb < W.heap.size) := Lib.hid (fun W hW => by
                      have h := HX1.out W ((HMP.out.trans HM7.out).trans hW)
                      exact ⟨HSP.out W (HM7.out.trans hW), (h.cell 4).trans rfl, h.lt⟩)
                    have hn3 : New w7 w7.drew := (Mod.refl _ _).drew
                    have hct := HCT.out w7.drew ((HM.out.trans (HMP.out.trans HM7.out)).trans hn3)
                    simp only [pairVal] at hct
                    refine wp_region_held_ord (New w7) [5] [0, 1, 2, 3, 4, 5] (by kernel_rfl) (by kernel_rfl) (fun _ _ d _ _ h => by cases d <;> exact h) ?_ (fun hHeld => ?_)
                    · exact hn3
                    simp only [List.length_cons, List.length_nil, List.drop_succ_cons, List.drop_zero]
                    refine heldO_take ?_ (by rfl) (by rfl) (by rfl) (fun w hSw => ?_) ?_
                    rotate_left
                    · (have hq := HSQ.out w hSw); (try simp only [List.getElem_toArray, List.getElem_cons_zero, List.getElem_cons_succ]); go_simp; any_goals (with_reducible rfl)
                    simp only [Act.put, List.getElem_toArray, List.getElem_cons_zero, List.getElem_cons_succ, List.setIfInBounds_toArray, List.set_cons_zero, List.set_cons_succ]
                    refine heldO_take ?_ (by rfl) (by rfl) (by rfl) (fun w hSw => ?_) ?_
                    rotate_left
                    · (have hq := HSQ.out w hSw); (try simp only [List.getElem_toArray, List.getElem_cons_zero, List.getElem_cons_succ]); go_simp; any_goals (with_reducible rfl)
                    simp only [Act.put, List.getElem_toArray, List.getElem_cons_zero, List.getElem_cons_succ, List.setIfInBounds_toArray, List.set_cons_zero, List.set_cons_succ]
                    refine heldO_take ?_ (by rfl) (by rfl) (by rfl) (fun w hSw => ?_) ?_
                    rotate_left
                    · (have hq := HSQ.out w hSw); (try simp only [List.getElem_toArray, List.getElem_cons_zero, List.getElem_cons_succ]); go_simp; any_goals (with_reducible rfl)
                    simp only [Act.put, List.getElem_toArray, List.getElem_cons_zero, List.getElem_cons_succ, List.setIfInBounds_toArray, List.set_cons_zero, List.set_cons_succ]
                    refine heldO_take ?_ (by rfl) (by rfl) (by rfl) (fun w hSw => ?_) ?_
                    rotate_left
                    · (have hq := HSQ.out w hSw); (try simp only [List.getElem_toArray, List.getElem_cons_zero, List.getElem_cons_succ]); go_simp; any_goals (with_reducible rfl)
                    simp only [Act.put, List.getElem_toArray, List.getElem_cons_zero, List.getElem_cons_succ, List.setIfInBounds_toArray, List.set_cons_zero, List.set_cons_succ]
                    refine heldO_take ?_ (by rfl) (by rfl) (by rfl) (fun w hSw => ?_) ?_
                    rotate_left
                    · (have hq := HSQ.out w hSw); (try simp only [List.getElem_toArray, List.getElem_cons_zero, List.getElem_cons_succ]); go_simp; any_goals (with_reducible rfl)
                    simp only [Act.put, List.getElem_toArray, List.getElem_cons_zero, List.getElem_cons_succ, List.setIfInBounds_toArray, List.set_cons_zero, List.set_cons_succ]
                    refine heldQ_step (by rfl) (by rfl) (by rfl) (fun K hK => ?_)
                    go_simp
                    refine hct.mono ?_
                    clear hct
                    rintro e w8 ⟨rfl, m8⟩
                    have HN8 := Lib.hid (hn3.trans m8)
                    have HMR8 := Lib.hid ((HMP.out.trans HM7.out).trans (hn3.trans m8))
                    go_wp2_with fail
                    refine hK.out _ _ HN8.out (fun hHeld => ?_)
                    clear hK K hHeld m8 hn3
                    try simp only [Act.put, List.setIfInBounds_toArray, List.set_cons_zero, List.set_cons_succ]
                    refine heldO_nil ?_
                    cases cn
                    · have HE : Hid (needsF needs = eachF needF (needs.take (k + 1)) (needs.drop (k + 1))) := Lib.hid (by rw [HR.out, HST.out, HFF.out]; rfl)
                      go_wp2_with fail
                      exact ⟨⟨k + 1, by omega, by go_num, HE, HMR8⟩, by simp [intOf]; omega⟩
                    · have HE : Hid (R = 6) := Lib.hid (by
                        have : needsF needs = 6 := by rw [HR.out, HST.out, HFF.out]; rfl
                        rw [HF.out, this]; rfl)
                      go_wp2_with fail
                      go_ret
                      exact ⟨ret_int HE.out.symm, HM.out.trans HMR8.out⟩
            · obtain rfl : nn = k := by omega
              have HH0 : Hid (needsF needs = 0) := Lib.hid (by have := HLN.out.2.2; rw [HR.out, ← this]; exact eachF_end _ _)
              rw [HH0.out, if_neg (by simp)] at HF
              have HXW := Lib.hid (HX1.out _ HMR.out)
              have HMW := Lib.hid (HM.out.trans HMR.out)
              have HS5 := Lib.hid (HS4.out.new HMR.out)
              clear HX HM HX1 HR HMR HH0 HS4
              have HX := HXW
              have HM := HMW
              clear HXW HMW
              have hde := HDE.out
              by_cases g5 : dest = ⟨#[]⟩
              · rw [decide_eq_true g5] at hde
                rw [if_pos g5] at HF
                clear g5
                have e0 := HX.out.cell 0
                have e1 := HX.out.cell 1
                have e2 := HX.out.cell 2
                have e3 := HX.out.cell 3
                have e4 := HX.out.cell 4
                have e5 := HX.out.cell 5
                have el := HX.out.lt
                simp only [List.getElem?_toArray, List.getElem?_cons_zero, List.getElem?_cons_succ] at e0 e1 e2 e3 e4 e5
                go_wp2_with fail
                go_ret
                exact ⟨ret_int HF.out.symm, HM.out⟩
              rw [decide_eq_false g5] at hde
              rw [if_neg g5] at HF
              clear g5
              have q := HQD.out _ HM.out
              have e0 := HX.out.cell 0
              have e1 := HX.out.cell 1
              have e2 := HX.out.cell 2
              have e3 := HX.out.cell 3
              have e4 := HX.out.cell 4
              have e5 := HX.out.cell 5
              have el := HX.out.lt
              simp only [List.getElem?_toArray, List.getElem?_cons_zero, List.getElem?_cons_succ] at e0 e1 e2 e3 e4 e5
              go_wp2_with fail
              clear e0 e1 e2 e3 e4 e5 el
              refine q.mono ?_
              clear q
              rintro e w7 ⟨A7, n7, c7, rfl, s7, m7, b7⟩
              have HX1 := Lib.hid (HX.out.new2 m7)
              have HM1 := Lib.hid (HM.out.trans m7)
              clear HX HM
              have HX := HX1
              have HM := HM1
              clear HX1 HM1
              have HS7 := Lib.hid (HS5.out.new m7)
              have HD7 := Lib.hid s7
              clear m7 s7 HS5
              by_cases g6 : de ≠ 0
              · have g6b : (de != 0) = true := by simpa using g6
                rw [if_pos g6] at HF
                clear g6
                go_wp2_with fail
                go_ret
                exact ⟨ret_int HF.out.symm, HM.out⟩
              have g6b : (de != 0) = false := by simpa using g6
              rw [if_neg g6] at HF
              clear g6
              have q1 := ref_toFault 53 (fun a _ => !a) 8 enters_rf1 call_rf1 A3 A7 n3 c3 n7 c7 pl dls w7 HS7.out HD7.out b3 b7
              go_wp2_with fail
              refine q1.mono ?_
              clear q1
              rintro e w8 ⟨rfl, m8⟩
              have HM8 := Lib.hid (HM.out.trans m8)
              have q2 := ref_toFault 54 (fun _ b => b) 10 enters_rf2 call_rf2 A3 A7 n3 c3 n7 c7 pl dls w8 (HS7.out.new m8) (HD7.out.new m8) b3 b7
              clear m8
              obtain ⟨R1, hR1⟩ : ∃ R1 : Int, (if dls.any (fun p => decide (p.kind ≠ 1) && !hasP pl p.name) = true then (8 : Int) else 0) = R1 := ⟨_, rfl⟩
              obtain ⟨R2, hR2⟩ : ∃ R2 : Int, (if dls.any (fun p => decide (p.kind ≠ 1) && otherK pl p) = true then (10 : Int) else 0) = R2 := ⟨_, rfl⟩
              rw [hR2] at q2
              have HR1 := Lib.hid hR1
              have HR2 := Lib.hid hR2
              simp only [hR1]
              clear hR1 hR2
              go_wp2_with fail
              refine q2.mono ?_
              clear q2
              rintro e w9 ⟨rfl, m9⟩
              have m10 : New w9 (w9.alloc (.cells #[.int .i64 R1, .int .i64 R2] 28)) := (Mod.refl _ _).alloc _
              have q3 := cmpOr_any [R1, R2] w9.heap.size 2 _ (Blk.new w9 28 #[.int .i64 R1, .int .i64 R2]) rfl (by omega)
              have HM10 := Lib.hid ((HM8.out.trans m9).trans m10)
              have HE : Hid (orL [R1, R2] = R) := Lib.hid (by
                rw [HF.out, ← HR1.out, ← HR2.out]
                unfold toF orL orL orL
                by_cases h1 : dls.any (fun p => decide (p.kind ≠ 1) && !hasP pl p.name) = true
                · rw [if_pos h1, if_pos h1]; rfl
                · rw [if_neg h1, if_neg h1, if_pos rfl]
                  by_cases h2 : dls.any (fun p => decide (p.kind ≠ 1) && otherK pl p) = true
                  · rw [if_pos h2, if_neg (by decide)]
                  · rw [if_neg h2, if_pos rfl])
              clear m9 m10
              go_wp2_with fail
              refine q3.mono ?_
              clear q3
              rintro e w11 ⟨rfl, rfl⟩
              go_wp2_with fail
              go_ret
              exact ⟨ret_int HE.out, HM10.out⟩
end Go.Proofs.YtnbcfpjalgfikaaGreatDoor

namespace Go.Proofs.YtnbcfpjalgfikaaGreatDoor
open Go.RowKit
set_option linter.unusedVariables false
set_option linter.unusedSimpArgs false

set_option maxRecDepth 100000 in
set_option maxHeartbeats 1000000 in
theorem ref_routesFault (A : Option Addr) (n c : Nat) (rs : List RtD) (w : World) (h : RtRows w A n rs) (hz : ∀ r ∈ rs, RtShort r) (hx : MaxLn w) (hT : Pow10 w) (hn : n ≤ 100000) : Calls Tryz.prog 6 #[.slice A n c] w fun e w' => e = .returned (.int .i64 (routesF rs)) ∧ New w w' := by
  have hlen := h.len
  obtain ⟨xs, h1, h2⟩ := h
  have hxl := h1.1
  by_cases hb : 300 < n
  · have hb' : (300 : Int) < n := by omega
    have HR : Hid (routesF rs = 2) := Lib.hid (by unfold routesF; rw [if_pos (by omega)])
    clear hlen hxl h1
    go_enter Tryz.func6, Tryz.ntmps6
    go_wp2_with fail
    go_ret
    exact ⟨ret_int HR.out.symm, Mod.refl _ _⟩
  · have hb' : ¬ (300 : Int) < n := by omega
    have HR : Hid (routesF rs = eachF rtF (rs.take 0) (rs.drop 0)) := Lib.hid (by unfold routesF; rw [if_neg (by omega)]; rfl)
    have HS := Lib.hid h1
    have HA := Lib.hid h2
    have HZ := Lib.hid hz
    have HX := Lib.hid hx
    have HT := Lib.hid hT
    have HL : Hid (xs.length = n ∧ rs.length = n) := Lib.hid ⟨hxl, hlen.symm⟩
    clear h1 h2 hz hx hT hlen hxl hb
    go_enter Tryz.func6, Tryz.ntmps6
    go_wp2_with fail
    go_loopw [11] (fun i wr => ∃ (k : Nat), k ≤ n ∧ i = .int .i64 k ∧ Hid (routesF rs = eachF rtF (rs.take k) (rs.drop k)) ∧ Hid (New w wr)) (fun i _ => n - (intOf i).toNat)
    case atStart => exact ⟨0, Nat.zero_le _, rfl, HR, Lib.hid (Mod.refl _ _)⟩
    clear HR
    case round =>
      rename World => wr
      obtain ⟨k, hk, rfl, HR, HM⟩ := hrel
      by_cases hlt : k < n
      · have hkx : k < xs.length := by have := HL.out.1; omega
        have hkr : k < rs.length := by have := HL.out.2; omega
        have HST := Lib.hid (eachF_step rtF hkr)
        obtain ⟨g, o, hA, htb, hc⟩ := (HS.out.new HM.out).2 (by omega)
        subst hA
        have hgl := htb.lt
        have c0 := hc k hkx 0 (by omega)
        have c1 := hc k hkx 1 (by omega)
        have c2 := hc k hkx 2 (by omega)
        have c3 := hc k hkx 3 (by omega)
        have c4 := hc k hkx 4 (by omega)
        have c5 := hc k hkx 5 (by omega)
        simp only [RA.enc, Nat.add_zero] at c0 c1 c2 c3 c4 c5
        have hat := HA.out.get k hkx hkr
        have HPV : Hid (0 < k → ∃ p : ByteArray, (rs.take k).getLast?.map (·.key) = some p ∧ wr.cell? ⟨g, o + (k - 1) * 6, none⟩ = some (.string p)) := Lib.hid (fun h0 => by
          refine ⟨(rs[k - 1]'(by omega)).key, by rw [last_take hkr h0]; rfl, ?_⟩
          have e := hc (k - 1) (by omega) 0 (by omega)
          have e2 := (HA.out.get (k - 1) (by omega) (by omega)).key
          simp only [RA.enc, Nat.add_zero] at e
          rw [← e2]
          exact e)
        have HPT : Hid (∃ L, rs.take k = L) := Lib.hid ⟨_, rfl⟩
        have hzs := HZ.out _ (List.getElem_mem hkr)
        have HTB := Lib.hid htb
        clear hc htb
        have HFF : Hid (rtF (rs.take k) rs[k] = if routeF rs[k] ≠ 0 then routeF rs[k] else if ((rs.take k).getLast?.map fun q => strLe rs[k].key q.key).getD false then 7 else 0) := Lib.hid rfl
        generalize xs[k] = x at *
        generalize rs[k] = r at *
        obtain ⟨key, ha, hn_, hc_, path, ma, mn, mc, na, nn, nc, dest⟩ := x
        have HKEY : Hid (key = r.key) := Lib.hid hat.key
        simp only at c0 c1 c2 c3 c4 c5
        have hb2 : (0 : Int) ≤ k := by omega
        have hb3 : (k : Int) < n := by omega
        have bx := Blk.new wr 44 #[.string key, .slice ha hn_ hc_, .string path, .slice ma mn mc, .slice na nn nc, .string dest]
        have mx : New wr (wr.alloc (.cells #[.string key, .slice ha hn_ hc_, .string path, .slice ma mn mc, .slice na nn nc, .string dest] 44)) := (Mod.refl _ _).alloc _
        have q := ref_routeFault ⟨key, ha, hn_, hc_, path, ma, mn, mc, na, nn, nc, dest⟩ r _ (hat.new (HM.out.trans mx)) hzs (HX.out.new (HM.out.trans mx)) (HT.out.new (HM.out.trans mx))
        simp only [RA.val] at q
        go_upto_region 6 with (fail)
        have HBX := Lib.hid bx
        have HMX := Lib.hid (HM.out.trans mx)
        have HPV1 : Hid (0 < k → ∃ p : ByteArray, (rs.take k).getLast?.map (·.key) = some p ∧ (wr.alloc (.cells #[.string key, .slice ha hn_ hc_, .string path, .slice ma mn mc, .slice na nn nc, .string dest] 44)).cell? ⟨g, o + (k - 1) * 6, none⟩ = some (.string p)) := Lib.hid (fun h0 => by
          obtain ⟨p, e1, e2⟩ := HPV.out h0
          exact ⟨p, e1, (mx.cell (p := ⟨g, o + (k - 1) * 6, none⟩) hgl (fun e => e)).trans e2⟩)
        have HTB1 := Lib.hid (HTB.out.mod mx (fun e => e))
        clear c0 c1 c2 c3 c4 c5 bx mx HPV hat hgl HTB
        generalize wr.alloc (.cells #[.string key, .slice ha hn_ hc_, .string path, .slice ma mn mc, .slice na nn nc, .string dest] 44) = w1 at *
        generalize wr.heap.size = xb at *
        have e0 := HBX.out.cell 0
        have e1 := HBX.out.cell 1
        have e2 := HBX.out.cell 2
        have e3 := HBX.out.cell 3
        have e4 := HBX.out.cell 4
        have e5 := HBX.out.cell 5
        have el := HBX.out.lt
        simp only [List.getElem?_toArray, List.getElem?_cons_zero, List.getElem?_cons_succ] at e0 e1 e2 e3 e4 e5
        go_wp2_with fail
        clear e0 e1 e2 e3 e4 e5 el
        refine q.mono ?_
        clear q
        rintro e w2 ⟨rfl, m2⟩
        have HM2 := Lib.hid (HMX.out.trans m2)
        have hbx := HBX.out.new2 m2
        have e0 := hbx.cell 0
        have el := hbx.lt
        simp only [List.getElem?_toArray, List.getElem?_cons_zero, List.getElem?_cons_succ] at e0
        have hgl2 : g < w2.heap.size := Nat.lt_of_lt_of_le HTB1.out.lt m2.size
        have HPV2 : Hid (0 < k → ∃ p : ByteArray, (rs.take k).getLast?.map (·.key) = some p ∧ w2.cell? ⟨g, o + (k - 1) * 6, none⟩ = some (.string p)) := Lib.hid (fun h0 => by
          obtain ⟨p, q1, q2⟩ := HPV1.out h0
          exact ⟨p, q1, (m2.cell (p := ⟨g, o + (k - 1) * 6, none⟩) HTB1.out.lt (fun e => e)).trans q2⟩)
        clear hbx m2 HPV1
        generalize routeF r = f at *
        by_cases g1 : f ≠ 0
        · have g1b : (f != 0) = true := by simpa using g1
          have HE : Hid (routesF rs = f) := Lib.hid (by rw [HR.out, HST.out, HFF.out, if_pos g1, if_pos g1])
          clear g1
          go_wp2_with fail
          go_ret
          exact ⟨ret_int HE.out.symm, HM2.out⟩
        have g1b : (f != 0) = false := by simpa using g1
        rw [if_neg g1] at HFF
        clear g1
        have hle0 : w.heap.size ≤ w2.heap.size := HM2.out.size
        by_cases h0 : 0 < k
        · obtain ⟨p, hp1, hp2⟩ := HPV2.out h0
          have HP1 := Lib.hid hp1
          have hb4 : (0 : Int) < k := by omega
          have hb5 : (0 : Int) ≤ (k : Int) - 1 := by omega
          have hb6 : (k : Int) - 1 < n := by omega
          clear hp1 HPV2
          obtain ⟨bl, hbl⟩ : ∃ b, (Op.bytesLess key.toList p.toList || key.toList == p.toList) = b := ⟨_, rfl⟩
          have HLE : Hid (((rs.take k).getLast?.map fun q => strLe r.key q.key).getD false = bl) := Lib.hid (by
            have h := HP1.out
            cases hq : (rs.take k).getLast? with
            | none => rw [hq] at h; cases h
            | some z =>
              rw [hq] at h
              injection h with h
              have h2 : z.key = p := h
              simp only [Option.map_some, Option.getD_some]
              rw [h2, ← HKEY.out, ← hbl]
              rfl)
          cases bl
          · rw [HLE.out] at HFF
            have HE : Hid (routesF rs = eachF rtF (rs.take (k + 1)) (rs.drop (k + 1))) := Lib.hid (by rw [HR.out, HST.out, HFF.out]; rfl)
            go_wp2_with fail
            go_quiet (fail)
            go_wp2_with fail
            exact ⟨⟨k + 1, by omega, by go_num, HE, Lib.hid (HM2.out.drewN _)⟩, by simp [intOf]; omega⟩
          · rw [HLE.out] at HFF
            have HE : Hid (routesF rs = 7) := Lib.hid (by rw [HR.out, HST.out, HFF.out]; rfl)
            go_wp2_with fail
            go_quiet (fail)
            go_wp2_with fail
            go_ret
            exact ⟨ret_int HE.out.symm, HM2.out.drewN _⟩
        · obtain rfl : 0 = k := by omega
          have hd : decide ((0 : Int) < ((0 : Nat) : Int)) = false := by simp
          have HE : Hid (routesF rs = eachF rtF (rs.take (0 + 1)) (rs.drop (0 + 1))) := Lib.hid (by rw [HR.out, HST.out, HFF.out]; rfl)
          go_wp2_with fail
          go_quiet (fail)
          go_wp2_with fail
          exact ⟨⟨0 + 1, by omega, by go_num, HE, Lib.hid (HM2.out.drewN _)⟩, by simp [intOf]; omega⟩
      · obtain rfl : n = k := by omega
        have HE : Hid (routesF rs = 0) := Lib.hid (by have := HL.out.2; rw [HR.out, ← this]; exact eachF_end _ _)
        go_wp2_with fail
        go_ret
        exact ⟨ret_int HE.out.symm, HM.out⟩
end Go.Proofs.YtnbcfpjalgfikaaGreatDoor
