/- Several texts in one. (1) Tokens, fields and labels: the program's tests (package message). Conditions: strings no longer than an int can count. (2) Hosts: the program's isHost and NormalHost (package message). Conditions: a text of modest size; the library's variable on searching is an int. (3) The reference: tokens and fields. Conditions: a text of modest size. (4) The reference: HostOf (gateref2). Conditions: a text of modest size; the library's variables lie as they should. -/
import Derived.Test.YtnbcfpjalgfikaaGreatDoorCaseLaw
import Derived.Test.YtnbcfpjalgfikaaGreatDoorSegGrp
import Derived.Test.YtnbcfpjalgfikaaGreatDoorKeys
import Derived.Test.YtnbcfpjalgfikaaGreatDoorHostLaw
import Derived.Test.YtnbcfpjalgfikaaGreatDoorNumM

namespace Go.Proofs.YtnbcfpjalgfikaaGreatDoor
open Go.RowKit
set_option linter.unusedVariables false
set_option linter.unusedSimpArgs false

set_option maxHeartbeats 1000000 in
theorem msg_isTokenByte (c : UInt8) (w : World) : Calls Tryz.prog 164 #[.int .u8 (c.toNat : Int)] w fun e w' => e = .returned (.bool (tokN c)) ∧ w = w' := by
  have hl := msg_isLetter c.toNat w
  have hd := msg_isDigit c.toNat w
  have hi := Tryz.strings_IndexByte ⟨#[33, 35, 36, 37, 38, 39, 42, 43, 45, 46, 94, 95, 96, 124, 126]⟩ (c.toNat : Int) w
  rw [byteBack] at hi
  have HF := Lib.hid (tmark_at c)
  generalize hr : Lib.indexByte (⟨#[33, 35, 36, 37, 38, 39, 42, 43, 45, 46, 94, 95, 96, 124, 126]⟩ : ByteArray).data.toList c = r at hi
  have HR : Hid (Lib.indexByte tokMarks c = r) := Lib.hid hr
  clear hr
  cases h : isLetN c.toNat <;> rw [h] at hl
  · cases h2 : isDigN c.toNat <;> rw [h2] at hd
    · go_enter Tryz.func164, Tryz.ntmps164
      go_wp2_with (first | (refine hl.mono ?_; clear hl; rintro e w' ⟨rfl, rfl⟩) | (refine hd.mono ?_; clear hd; rintro e w' ⟨rfl, rfl⟩) | (refine hi.mono ?_; clear hi; rintro e w' ⟨rfl, rfl⟩))
      all_goals go_ret
      all_goals (refine ⟨ret_bool ?_, rfl⟩)
      all_goals (have hk : tokN c = decide (0 ≤ r) := by (unfold tokN; rw [h, h2, Bool.false_or, Bool.false_or, ← HR.out, HF.out]))
      all_goals (first | exact hk.symm | (simp only [hk]; simp; done) | (simp only [hk]; simp; omega))
    · go_enter Tryz.func164, Tryz.ntmps164
      go_wp2_with (first | (refine hl.mono ?_; clear hl; rintro e w' ⟨rfl, rfl⟩) | (refine hd.mono ?_; clear hd; rintro e w' ⟨rfl, rfl⟩))
      go_ret
      exact ⟨ret_bool (by simp [tokN, h, h2]), rfl⟩
  · go_enter Tryz.func164, Tryz.ntmps164
    go_wp2_with (first | (refine hl.mono ?_; clear hl; rintro e w' ⟨rfl, rfl⟩))
    go_ret
    exact ⟨ret_bool (by simp [tokN, h]), rfl⟩

set_option maxHeartbeats 1000000 in
theorem msg_isToken (s : ByteArray) (w : World) (hs : s.size ≤ maxLen) :
    Calls Tryz.prog 137 #[.string s] w fun e w' => e = .returned (.bool (isTok s)) ∧ w = w' := by
  unfold maxLen at hs
  go_enter Tryz.func137, Tryz.ntmps137
  go_wp2_with fail
  go_loop [6] (fun v => ∃ k : Nat, k ≤ s.size ∧ v = .int .i64 k ∧ Hid ((s.data.toList.take k).all tokN = true)) (fun v => s.size - (intOf v).toNat)
  case atStart => exact ⟨0, Nat.zero_le _, rfl, Lib.hid rfl⟩
  case round =>
    obtain ⟨k, hk, rfl, HR⟩ := hrel
    by_cases hlt : k < s.size
    · have hkl : k < s.data.toList.length := hlt
      have hg : s.data.toList[k] = s[k] := rfl
      have HT : Hid ((s.data.toList.take (k + 1)).all tokN = tokN s[k]) := Lib.hid (by rw [all_take hkl, HR.out, hg]; rfl)
      have HF : Hid (tokN s[k] = false → s.data.toList.all tokN = false) := Lib.hid (fun h => all_stop hkl (by rw [hg]; exact h))
      have q := msg_isTokenByte s[k] w
      clear hg
      cases hb : tokN s[k]
      · rw [hb] at q
        have HB := Lib.hid hb
        clear hb
        go_wp2_with fail
        refine q.mono ?_
        clear q
        rintro e w' ⟨rfl, rfl⟩
        go_wp2_with fail
        go_ret
        exact ⟨ret_bool (by unfold isTok; rw [HF.out HB.out]; rfl), rfl⟩
      · rw [hb] at q
        have HB := Lib.hid hb
        clear hb
        go_wp2_with fail
        refine q.mono ?_
        clear q
        rintro e w' ⟨rfl, rfl⟩
        go_wp2_with fail
        exact ⟨⟨k + 1, by omega, by go_num, Lib.hid (HT.out.trans HB.out)⟩, by simp [intOf]; omega⟩
    · obtain rfl : k = s.size := by omega
      have hfull : s.data.toList.take s.size = s.data.toList := List.take_length
      rw [hfull] at HR
      clear hfull
      by_cases h0 : s.size = 0
      · have h1 : (s.toList == []) = true := by simpa using str_empty.1 h0
        have HB : Hid (isTok s = false) := Lib.hid (by unfold isTok; simp [h0])
        go_wp2_with fail
        all_goals go_ret
        all_goals exact ⟨ret_bool HB.out.symm, rfl⟩
      · have h1 : (s.toList == []) = false := by simpa using fun e => h0 (str_empty.2 e)
        have HB : Hid (isTok s = decide ((s.size : Int) ≤ 100)) := Lib.hid (by unfold isTok; rw [HR.out]; simp [h0]; omega)
        go_wp2_with fail
        all_goals go_ret
        all_goals (refine ⟨ret_bool ?_, rfl⟩)
        all_goals (rw [HB.out]; try simp; try omega)
theorem asciiOne (c : UInt8) (h : c.toNat < 128) : ∀ (j : Nat) b, (⟨#[c]⟩ : ByteArray).data.toList[j]? = some b → b.toNat < 128 := fun j b e => by
  have := List.mem_of_getElem? e
  obtain rfl : b = c := by simpa using this
  exact h
theorem trim_beq (s : ByteArray) (cs : List UInt8) : ((⟨(Lib.trimS s.data.toList cs).toArray⟩ : ByteArray).toList == s.toList) = decide (Lib.trimS s.data.toList cs = s.data.toList) := by
  rw [ByteArray.toList_eq, ByteArray.toList_eq, Bool.eq_iff_iff]
  simp
set_option maxHeartbeats 1000000 in
theorem msg_isField (s : ByteArray) (w : World) (hs : s.size ≤ 900000) :
    Calls Tryz.prog 139 #[.string s] w fun e w' => e = .returned (.bool (isFld s)) ∧ New w w' := by
  have hr := msg_isRange s 32 126 w (by unfold maxLen; omega)
  have ht := fun W => Tryz.strings_Trim_set s ⟨#[32]⟩ W (by omega) (by decide) (asciiOne 32 (by decide))
  have htb := trim_beq s [32]
  have HF : Hid (isFld s = (decide (s.size ≤ 2000) && inR 32 126 s.data.toList && decide (Lib.trimS s.data.toList [32] = s.data.toList))) := Lib.hid rfl
  simp only [List.toList_toArray] at ht
  generalize (⟨(Lib.trimS s.data.toList [32]).toArray⟩ : ByteArray) = T at *
  generalize decide (Lib.trimS s.data.toList [32] = s.data.toList) = q at *
  generalize inR 32 126 s.data.toList = p at *
  have HT := Lib.hid ht
  clear ht
  by_cases h1 : s.size ≤ 2000
  · have h2 : decide (s.size ≤ 2000) = true := by simpa using h1
    rw [h2, Bool.true_and] at HF
    have h3 : (s.size : Int) ≤ 2000 := by omega
    clear h1 h2
    cases p
    · go_enter Tryz.func139, Tryz.ntmps139
      go_wp2_with fail
      refine hr.mono ?_
      clear hr
      rintro e w' ⟨rfl, rfl⟩
      go_wp2_with fail
      go_ret
      exact ⟨ret_bool HF.out.symm, Mod.refl _ _⟩
    · go_enter Tryz.func139, Tryz.ntmps139
      go_wp2_with fail
      refine hr.mono ?_
      clear hr
      rintro e w' ⟨rfl, rfl⟩
      have ht := HT.out w
      go_wp2_with fail
      refine ht.mono ?_
      clear ht
      rintro e w2 ⟨rfl, hm2⟩
      have HM2 := Lib.hid hm2
      clear hm2
      go_wp2_with fail
      go_ret
      exact ⟨ret_bool (by rw [HF.out, Bool.true_and]), Mod.of_below HM2.out⟩
  · have h2 : decide (s.size ≤ 2000) = false := by simpa using h1
    rw [h2, Bool.false_and, Bool.false_and] at HF
    have h3 : ¬ (s.size : Int) ≤ 2000 := by omega
    clear h1 h2
    go_enter Tryz.func139, Tryz.ntmps139
    go_wp2_with fail
    go_ret
    exact ⟨ret_bool HF.out.symm, Mod.refl _ _⟩
set_option maxHeartbeats 1000000 in
theorem msg_isLabel (s : ByteArray) (w : World) (hs : s.size ≤ maxLen) :
    Calls Tryz.prog 196 #[.string s] w fun e w' => e = .returned (.bool (labOk s.data.toList)) ∧ w = w' := by
  unfold maxLen at hs
  go_enter Tryz.func196, Tryz.ntmps196
  go_wp2_with fail
  go_loop [6] (fun v => ∃ k : Nat, k ≤ s.size ∧ v = .int .i64 k ∧ Hid ((s.data.toList.take k).all labC = true)) (fun v => s.size - (intOf v).toNat)
  case atStart => exact ⟨0, Nat.zero_le _, rfl, Lib.hid rfl⟩
  case round =>
    obtain ⟨k, hk, rfl, HR⟩ := hrel
    by_cases hlt : k < s.size
    · have hkl : k < s.data.toList.length := hlt
      have hg : s.data.toList[k] = s[k] := rfl
      have HT : Hid ((s.data.toList.take (k + 1)).all labC = labC s[k]) := Lib.hid (by rw [all_take hkl, HR.out, hg]; rfl)
      have HF : Hid (labC s[k] = false → labOk s.data.toList = false) := Lib.hid (fun h => by unfold labOk; rw [all_stop hkl (by rw [hg]; exact h)]; rfl)
      have ql := msg_isLetter s[k].toNat w
      have qd := msg_isDigit s[k].toNat w
      have HC : Hid (labC s[k] = (isLetN s[k].toNat || isDigN s[k].toNat || decide (s[k] = 45))) := Lib.hid rfl
      clear hg
      cases h1 : isLetN s[k].toNat <;> rw [h1] at ql
      · cases h2 : isDigN s[k].toNat <;> rw [h2] at qd
        · by_cases h3 : s[k].toNat = 45
          · have h4 : (((s[k].toNat : Int)) != 45) = false := by simp; omega
            have HB : Hid (labC s[k] = true) := Lib.hid (by rw [HC.out, h1, h2]; simp; exact UInt8.toNat_inj.1 (by simpa using h3))
            clear h1 h2 h3
            go_wp2_with (first | (refine ql.mono ?_; clear ql; rintro e w' ⟨rfl, rfl⟩) | (refine qd.mono ?_; clear qd; rintro e w' ⟨rfl, rfl⟩))
            exact ⟨⟨k + 1, by omega, by go_num, Lib.hid (HT.out.trans HB.out)⟩, by simp [intOf]; omega⟩
          · have h4 : (((s[k].toNat : Int)) != 45) = true := by simp; omega
            have HB : Hid (labC s[k] = false) := Lib.hid (by rw [HC.out, h1, h2]; simp; intro e; rw [e] at h3; exact h3 rfl)
            clear h1 h2 h3
            go_wp2_with (first | (refine ql.mono ?_; clear ql; rintro e w' ⟨rfl, rfl⟩) | (refine qd.mono ?_; clear qd; rintro e w' ⟨rfl, rfl⟩))
            go_ret
            exact ⟨ret_bool (HF.out HB.out).symm, rfl⟩
        · have HB : Hid (labC s[k] = true) := Lib.hid (by rw [HC.out, h1, h2]; rfl)
          clear h1 h2
          go_wp2_with (first | (refine ql.mono ?_; clear ql; rintro e w' ⟨rfl, rfl⟩) | (refine qd.mono ?_; clear qd; rintro e w' ⟨rfl, rfl⟩))
          exact ⟨⟨k + 1, by omega, by go_num, Lib.hid (HT.out.trans HB.out)⟩, by simp [intOf]; omega⟩
      · have HB : Hid (labC s[k] = true) := Lib.hid (by rw [HC.out, h1]; rfl)
        clear h1
        go_wp2_with (first | (refine ql.mono ?_; clear ql; rintro e w' ⟨rfl, rfl⟩) | (refine qd.mono ?_; clear qd; rintro e w' ⟨rfl, rfl⟩))
        exact ⟨⟨k + 1, by omega, by go_num, Lib.hid (HT.out.trans HB.out)⟩, by simp [intOf]; omega⟩
    · obtain rfl : k = s.size := by omega
      have hfull : s.data.toList.take s.size = s.data.toList := List.take_length
      rw [hfull] at HR
      clear hfull
      by_cases h0 : s.size = 0
      · have h1 : (s.toList == []) = true := by simpa using str_empty.1 h0
        have HB : Hid (labOk s.data.toList = false) := Lib.hid (by
          have : s.data.toList = [] := List.eq_nil_of_length_eq_zero h0
          rw [this]; rfl)
        go_wp2_with fail
        all_goals go_ret
        all_goals exact ⟨ret_bool HB.out.symm, rfl⟩
      · have h1 : (s.toList == []) = false := by simpa using fun e => h0 (str_empty.2 e)
        have HB : Hid (labOk s.data.toList = (decide (s.size ≤ 63) && decide (s[0].toNat ≠ 45) && decide (s[s.size - 1].toNat ≠ 45))) := Lib.hid (by
          have hl : s.data.toList.length = s.size := rfl
          have e1 : s.data.toList.head? = some s[0] := by
            rw [List.head?_eq_getElem?, List.getElem?_eq_getElem (by omega)]; rfl
          have e2 : s.data.toList.getLast? = some s[s.size - 1] := by
            rw [List.getLast?_eq_getElem?, List.getElem?_eq_getElem (by omega)]; rfl
          have e3 : ∀ c : UInt8, decide (some c ≠ some (45 : UInt8)) = decide (c.toNat ≠ 45) := fun c => by
            rw [decide_eq_decide]
            simp [← UInt8.toNat_inj]
          unfold labOk
          rw [HR.out, e1, e2, e3, e3, hl, Bool.true_and]
          have : decide (s.data.toList ≠ []) = true := by
            simp only [decide_eq_true_eq]
            intro e
            rw [e] at hl
            simp at hl
            omega
          rw [this, Bool.true_and])
        have hp0 : 0 < s.size := by omega
        have hpl : s.size - 1 < s.size := by omega
        by_cases h63 : s.size ≤ 63
        · have h63' : (s.size : Int) ≤ 63 := by omega
          by_cases ha : s[0].toNat = 45
          · have ha' : ((s[0].toNat : Int) != 45) = false := by simp; omega
            have hr : labOk s.data.toList = false := by rw [HB.out]; simp [ha]
            have HRR := Lib.hid hr
            clear hr ha h63 HB
            go_wp2_with fail
            all_goals go_ret
            all_goals exact ⟨ret_bool HRR.out.symm, rfl⟩
          · have ha' : ((s[0].toNat : Int) != 45) = true := by simp; omega
            have hl1 : ((s.size : Int) - 1).toNat = s.size - 1 := by omega
            have hl2 : (0 : Int) ≤ (s.size : Int) - 1 := by omega
            have hl3 : ((s.size : Int) - 1) < s.size := by omega
            go_wp2_with fail
            go_ret
            refine ⟨ret_bool ?_, rfl⟩
            rw [HB.out, decide_eq_true h63, decide_eq_true ha, Bool.eq_iff_iff]
            simp
            omega
        · have h63' : ¬ (s.size : Int) ≤ 63 := by omega
          have hr : labOk s.data.toList = false := by rw [HB.out]; simp [h63]
          have HRR := Lib.hid hr
          clear hr h63 HB
          go_wp2_with fail
          all_goals go_ret
          all_goals exact ⟨ret_bool HRR.out.symm, rfl⟩
end Go.Proofs.YtnbcfpjalgfikaaGreatDoor

namespace Go.Proofs.YtnbcfpjalgfikaaGreatDoor
open Go.RowKit
set_option linter.unusedVariables false
set_option linter.unusedSimpArgs false

theorem cut_at (t : ByteArray) (c : UInt8) (w : World) (hs : t.size ≤ 1000000) (hx : MaxLn w) :
    Calls Tryz.prog 58 #[.string t, .string ⟨#[c]⟩] w fun e w' => e = .returned (.tuple #[.string ⟨(cutL c t.data.toList).1.toArray⟩, .string ⟨(cutL c t.data.toList).2.1.toArray⟩, .bool (cutL c t.data.toList).2.2]) ∧ New w w' := by
  obtain ⟨m, hm⟩ := hx
  have hc := Tryz.strings_Cut t ⟨#[c]⟩ m w (by omega) hm
  have e : Lib.cut t.data.toList (⟨#[c]⟩ : ByteArray).data.toList = cutL c t.data.toList := cut_eq c _
  rw [e] at hc
  refine hc.mono ?_
  rintro e w' ⟨rfl, n, rfl⟩
  exact ⟨rfl, (Mod.refl _ _).drewN n⟩
theorem outside_h (n a b : Int) (w : World) :
    Calls Tryz.prog 198 #[.int .i64 n, .int .i64 a, .int .i64 b] w fun e w' => e = .returned (.bool (!(decide (a ≤ n) && decide (n ≤ b)))) ∧ w = w' := by
  by_cases h : n < a
  · go_enter Tryz.func198, Tryz.ntmps198
    go_wp2
    go_ret
    refine ⟨?_, rfl⟩
    have : ¬ a ≤ n := by omega
    simp [this]
  · have h' : decide (n < a) = false := by simpa using h
    have h2 : decide (a ≤ n) = true := by simp; omega
    go_enter Tryz.func198, Tryz.ntmps198
    go_wp2
    go_ret
    refine ⟨?_, rfl⟩
    refine ret_bool ?_
    rw [Bool.eq_iff_iff]
    simp
set_option maxHeartbeats 1000000 in
theorem kit_small (s : ByteArray) (w : World) (hs : s.size ≤ 1000000) : Calls Tryz.prog 197 #[.string s] w (RNum 9 s w) := by
  have q := kit_number 9 (by omega) s w hs
  go_enter Tryz.func197, Tryz.ntmps197
  go_wp2_with fail
  refine q.mono ?_
  clear q
  rintro e w' ⟨v, rfl, h1, h2⟩
  go_wp2_with fail
  go_ret2
  exact ⟨v, rfl, h1, h2⟩
theorem cutL_le (c : UInt8) (l : List UInt8) : (cutL c l).1.length ≤ l.length ∧ (cutL c l).2.1.length ≤ l.length := by
  have h := congrArg List.length (cutL_join c l)
  rw [List.length_append] at h
  refine ⟨by omega, ?_⟩
  unfold cutL
  simp only [List.length_drop]
  have := (List.dropWhile_sublist (· != c) (l := l)).length_le
  omega
set_option maxRecDepth 100000 in
set_option maxHeartbeats 1000000 in
theorem msg_isHost (s : ByteArray) (w : World) (hs : s.size ≤ 900000) (hx : MaxLn w) :
    Calls Tryz.prog 181 #[.string s] w fun e w' => e = .returned (.bool (hostForm s)) ∧ New w w' := by
  have hcut := cut_at s 58 w (by omega) hx
  have hle := cutL_le 58 s.data.toList
  have hls : s.data.toList.length = s.size := rfl
  have HF : Hid (hostForm s = ((pieces ⟨(cutL 58 s.data.toList).1.toArray⟩ dotB).all (fun x => labOk x.data.toList) && decide (s.size ≤ 255) && (!(cutL 58 s.data.toList).2.2 || portOk ⟨(cutL 58 s.data.toList).2.1.toArray⟩))) := Lib.hid rfl
  generalize cutL 58 s.data.toList = C at *
  obtain ⟨c1, c2, has⟩ := C
  simp only at hcut hle HF
  have z1 : (⟨c1.toArray⟩ : ByteArray).size ≤ 900000 := by show c1.toArray.size ≤ _; simp; omega
  have z2 : (⟨c2.toArray⟩ : ByteArray).size ≤ 900000 := by show c2.toArray.size ≤ _; simp; omega
  generalize (⟨c1.toArray⟩ : ByteArray) = names at *
  generalize (⟨c2.toArray⟩ : ByteArray) = port at *
  clear hle hls c1 c2
  have HX := Lib.hid hx
  clear hx
  go_enter Tryz.func181, Tryz.ntmps181
  go_wp2_with fail
  refine hcut.mono ?_
  clear hcut
  rintro e w1 ⟨rfl, m1⟩
  have HM1 := Lib.hid m1
  have hsp := split_any names 46 w1 (by omega) (HX.out.new m1)
  have hpl : ∀ x ∈ pieces names dotB, x.size ≤ 900000 := fun x hx => Nat.le_trans (pieces_le hx) z1
  have hcnt : (pieces names dotB).length ≤ 1000001 := by
    rw [pieces_length (show 1 ≤ (dotB : ByteArray).size from Nat.le_refl _)]
    have := Lib.countB_le dotB (Nat.le_refl _) names.size names (Nat.le_refl _)
    omega
  clear m1
  generalize pieces names dotB = P at *
  have HP := Lib.hid hpl
  clear hpl
  go_wp2_with fail
  refine hsp.mono ?_
  clear hsp
  rintro e w2 ⟨rfl, rfl⟩
  have bP := Lib.hid (Blk.new w1 9 (strCs P))
  have HM2 := Lib.hid (HM1.out.alloc (.cells (strCs P) 9))
  generalize w1.alloc (.cells (strCs P) 9) = w2 at *
  generalize w1.heap.size = g at *
  go_wp2_with fail
  have hbl := bP.out.lt
  go_loop [19] (fun i => ∃ k : Nat, k ≤ P.length ∧ i = .int .i64 k ∧ Hid ((P.take k).all (fun x => labOk x.data.toList) = true)) (fun i => P.length - (intOf i).toNat)
  case atStart => exact ⟨0, Nat.zero_le _, rfl, Lib.hid rfl⟩
  case round =>
    obtain ⟨k, hk, rfl, HR⟩ := hrel
    by_cases hlt : k < P.length
    · have hcell := strs_at bP.out k hlt
      rw [show P.getD k ByteArray.empty = P[k] by rw [List.getD_eq_getElem?_getD, List.getElem?_eq_getElem hlt]; rfl] at hcell
      have HT : Hid ((P.take (k + 1)).all (fun x => labOk x.data.toList) = labOk P[k].data.toList) := Lib.hid (by rw [List.take_succ_eq_append_getElem hlt, List.all_append, HR.out]; simp)
      have HN : Hid (labOk P[k].data.toList = false → P.all (fun x => labOk x.data.toList) = false) := Lib.hid (fun h => by
        rw [List.all_eq_false]
        exact ⟨P[k], List.getElem_mem hlt, by rw [h]; simp⟩)
      have q := msg_isLabel P[k] w2 (by have := HP.out _ (List.getElem_mem hlt); unfold maxLen; omega)
      have hb2 : (0 : Int) ≤ k := by omega
      have hb3 : (k : Int) < P.length := by omega
      generalize P[k] = x at *
      cases hb : labOk x.data.toList
      · rw [hb] at q
        have HB := Lib.hid hb
        clear hb
        go_wp2_with fail
        refine q.mono ?_
        clear q
        rintro e w' ⟨rfl, rfl⟩
        go_wp2_with fail
        go_ret
        exact ⟨ret_bool (by rw [HF.out, HN.out HB.out]; rfl), HM2.out⟩
      · rw [hb] at q
        have HB := Lib.hid hb
        clear hb
        go_wp2_with fail
        refine q.mono ?_
        clear q
        rintro e w' ⟨rfl, rfl⟩
        go_wp2_with fail
        exact ⟨⟨k + 1, by omega, by go_num, Lib.hid (HT.out.trans HB.out)⟩, by simp [intOf]; omega⟩
    · obtain rfl : k = P.length := by omega
      have hfull : P.take P.length = P := List.take_length
      rw [hfull] at HR
      rw [HR.out, Bool.true_and] at HF
      clear hfull HR HP
      have q := kit_small port w2 (by omega)
      go_wp2_with fail
      refine q.mono ?_
      clear q
      rintro e w3 ⟨v, rfl, hv, m3⟩
      have HM3 := Lib.hid (HM2.out.trans m3)
      have HPO : Hid (portOk port = (numOk 9 port && (decide (1 ≤ v) && decide (v ≤ 65535)))) := Lib.hid (by
        unfold portOk
        cases h : numOk 9 port
        · rfl
        · rw [hv h])
      clear hv m3
      generalize numOk 9 port = ok at *
      by_cases h1 : s.size ≤ 255
      · have h2 : (s.size : Int) ≤ 255 := by omega
        rw [decide_eq_true h1, Bool.true_and] at HF
        cases has
        · go_wp2_with fail
          go_ret
          exact ⟨ret_bool (by rw [HF.out]; rfl), HM3.out⟩
        · cases ok
          · go_wp2_with fail
            go_ret
            exact ⟨ret_bool (by rw [HF.out, HPO.out]; rfl), HM3.out⟩
          · have q := outside_h v 1 65535 w3
            go_wp2_with fail
            refine q.mono ?_
            clear q
            rintro e w4 ⟨rfl, rfl⟩
            go_wp2_with fail
            go_ret
            exact ⟨ret_bool (by rw [HF.out, HPO.out]; simp), HM3.out⟩
      · have h2 : ¬ (s.size : Int) ≤ 255 := by omega
        rw [decide_eq_false h1, Bool.false_and] at HF
        go_wp2_with fail
        go_ret
        exact ⟨ret_bool (by rw [HF.out]), HM3.out⟩
/-- a host written in its normal form, or nothing -/
def RHost (s : ByteArray) (w : World) (e : Ending) (w' : World) : Prop := e = .returned (.tuple #[.string (if hostForm s = true then ⟨(hostN s.data.toList).toArray⟩ else ⟨#[]⟩), .int .i64 (if hostForm s = true then 0 else 3)]) ∧ New w w'
theorem splitB_mem (c : UInt8) : ∀ (k : Nat) (s : ByteArray) (b : UInt8), b ∈ s.data.toList → b = c ∨ ∃ x ∈ Lib.splitB ⟨#[c]⟩ 0 k s, b ∈ x.data.toList
  | 0, s, b, h => .inr ⟨s, by simp [Lib.splitB], h⟩
  | k + 1, s, b, h => by
    rcases Lib.indexB_cases s ⟨#[c]⟩ with hm | ⟨i, hm, hi⟩
    · rw [Lib.splitB_miss _ 0 _ s hm]
      exact .inr ⟨s, by simp, h⟩
    · rw [Lib.splitB_hit _ 0 k s i hm]
      obtain ⟨j, hj, rfl⟩ := List.getElem_of_mem h
      have hx : Lib.indexByte s.data.toList c = i := by rw [← Lib.index_one]; exact hm
      obtain ⟨h1, -⟩ := Lib.indexByte_some hx
      have hsz : j < s.size := hj
      have e1 : (s.extract 0 i).data.toList = s.data.toList.take i := by rw [← ByteArray.toList_eq, Lib.extract_toList]; simp
      have e2 : (s.extract (i + 1) s.size).data.toList = s.data.toList.drop (i + 1) := by
        rw [← ByteArray.toList_eq, Lib.extract_toList]
        exact List.take_of_length_le (by rw [List.length_drop]; show s.size - (i + 1) ≤ _; omega)
      by_cases hji : j < i
      · refine .inr ⟨s.extract 0 i, List.mem_cons_self, ?_⟩
        rw [e1]
        exact List.mem_take_iff_getElem.2 ⟨j, by simp only [Nat.lt_min]; exact ⟨hji, hj⟩, rfl⟩
      · by_cases hje : j = i
        · subst hje
          rw [List.getElem?_eq_getElem hj] at h1
          injection h1 with h1
          exact .inl h1
        · have hd : s.data.toList[j] ∈ (s.extract (i + 1) s.size).data.toList := by
            rw [e2]
            exact List.mem_drop_iff_getElem.2 ⟨j - (i + 1), by omega, by congr 1; omega⟩
          rcases splitB_mem c k _ _ hd with h2 | ⟨x, h2, h3⟩
          · exact .inl h2
          · exact .inr ⟨x, List.mem_cons_of_mem _ h2, h3⟩
theorem host_ascii {s : ByteArray} (h : hostForm s = true) : ∀ (j : Nat) (b : UInt8), s.data.toList[j]? = some b → b.toNat < 128 := by
  intro j b hb
  have hm := List.mem_of_getElem? hb
  unfold hostForm at h
  simp only [Bool.and_eq_true, List.all_eq_true] at h
  obtain ⟨⟨h1, -⟩, h3⟩ := h
  rw [cutL_join 58 s.data.toList] at hm
  rcases List.mem_append.1 hm with hm | hm
  · rcases splitB_mem 46 (Lib.countB ⟨(cutL 58 s.data.toList).1.toArray⟩ dotB) ⟨(cutL 58 s.data.toList).1.toArray⟩ b (by simpa using hm) with e | ⟨x, hx, hbx⟩
    · subst e; decide
    · have hl := h1 x hx
      unfold labOk at hl
      simp only [Bool.and_eq_true, List.all_eq_true] at hl
      exact lab_ascii (hl.1.1.1.1 b hbx)
  · split at hm
    · rename_i hh
      rw [hh] at h3
      simp only [Bool.not_true, Bool.false_or] at h3
      rcases List.mem_cons.1 hm with rfl | hm
      · decide
      · have hd := List.all_eq_true.1 (port_digs h3).2 b hm
        unfold isDig at hd
        simp only [Bool.and_eq_true, decide_eq_true_eq] at hd
        omega
    · cases hm
set_option maxHeartbeats 1000000 in
theorem msg_normalHost (s : ByteArray) (w : World) (hs : s.size ≤ 900000) (hx : MaxLn w) : Calls Tryz.prog 163 #[.string s] w (RHost s w) := by
  have q := msg_isHost s w hs hx
  have HX := Lib.hid (fun W (h : New w W) => hx.new h)
  clear hx
  cases hf : hostForm s
  · have HR : Hid (∀ w', New w w' → RHost s w (.returned (.tuple #[.string ⟨#[]⟩, .int .i64 3])) w') := Lib.hid (fun w' hm => ⟨by rw [hf]; rfl, hm⟩)
    rw [hf] at q
    clear hf
    go_enter Tryz.func163, Tryz.ntmps163
    go_wp2_with fail
    refine q.mono ?_
    clear q
    rintro e w1 ⟨rfl, m1⟩
    go_wp2_with fail
    go_ret2
    exact HR.out _ m1
  · have HR : Hid (∀ w' (z : ByteArray), z = ⟨(hostN s.data.toList).toArray⟩ → New w w' → RHost s w (.returned (.tuple #[.string z, .int .i64 0])) w') := Lib.hid (fun w' z hz hm => ⟨by rw [hf, hz]; rfl, hm⟩)
    have hp : (!(cutL 58 s.data.toList).2.2 || portOk ⟨(cutL 58 s.data.toList).2.1.toArray⟩) = true := by
      have h := hf
      unfold hostForm at h
      simp only [Bool.and_eq_true] at h
      exact h.2
    have HP := Lib.hid (hostN_prog hp)
    have hlow := fun W => Tryz.strings_ToLower_ascii s W (by omega) (host_ascii hf)
    rw [hf] at q
    have HLOW := Lib.hid hlow
    clear hf hp hlow
    go_enter Tryz.func163, Tryz.ntmps163
    go_wp2_with fail
    refine q.mono ?_
    clear q
    rintro e w1 ⟨rfl, m1⟩
    have hlow := HLOW.out w1
    have HM1 := Lib.hid m1
    clear m1
    go_wp2_with fail
    refine hlow.mono ?_
    clear hlow
    rintro e w2 ⟨rfl, hm2⟩
    have HM2 := Lib.hid (HM1.out.trans (Mod.of_below hm2))
    have hll : (Lib.toLowerA s.data.toList).length = s.size := lower_len _
    generalize Lib.toLowerA s.data.toList = L at *
    have hcut := cut_at ⟨L.toArray⟩ 58 w2 (by show L.toArray.size ≤ _; simp; omega) (HX.out _ HM2.out)
    have hcl := cutL_le 58 L
    simp only [List.toList_toArray] at hcut
    generalize cutL 58 L = C at *
    obtain ⟨c1, c2, has⟩ := C
    simp only at hcut hcl HP
    have z1 : (⟨c1.toArray⟩ : ByteArray).size ≤ 900000 := by show c1.toArray.size ≤ _; simp; omega
    have z2 : (⟨c2.toArray⟩ : ByteArray).size ≤ 900000 := by show c2.toArray.size ≤ _; simp; omega
    have hb0 : ((⟨c2.toArray⟩ : ByteArray).toList == []) = decide (c2 = []) := by rw [ByteArray.toList_eq, Bool.eq_iff_iff]; simp
    have hb1 : ((⟨c2.toArray⟩ : ByteArray).toList == [56, 48]) = decide (c2 = [56, 48]) := by rw [ByteArray.toList_eq, Bool.eq_iff_iff]; simp
    have hb2 : ((⟨c2.toArray⟩ : ByteArray).toList == [52, 52, 51]) = decide (c2 = [52, 52, 51]) := by rw [ByteArray.toList_eq, Bool.eq_iff_iff]; simp
    have HJ : Hid ((⟨c1.toArray⟩ : ByteArray) ++ ⟨#[58]⟩ ++ ⟨c2.toArray⟩ = ⟨(c1 ++ 58 :: c2).toArray⟩) := Lib.hid (by
      apply ByteArray.ext
      simp [ByteArray.data_append])
    go_wp2_with fail
    refine hcut.mono ?_
    clear hcut
    rintro e w3 ⟨rfl, m3⟩
    have HM3 := Lib.hid (HM2.out.trans m3)
    clear m3
    obtain ⟨N1, hN1⟩ : ∃ z : ByteArray, ⟨c1.toArray⟩ = z := ⟨_, rfl⟩
    obtain ⟨P1, hP1⟩ : ∃ z : ByteArray, ⟨c2.toArray⟩ = z := ⟨_, rfl⟩
    rw [hN1] at z1 HJ
    rw [hP1] at z2 hb0 hb1 hb2 HJ
    have HN1 := Lib.hid hN1
    simp only [hN1, hP1]
    clear hN1 hP1 hcl hll HLOW HX
    have HPP : Hid ((c2 = [] ∨ c2 = [56, 48] ∨ c2 = [52, 52, 51] → hostN s.data.toList = c1) ∧ (¬ (c2 = [] ∨ c2 = [56, 48] ∨ c2 = [52, 52, 51]) → hostN s.data.toList = c1 ++ 58 :: c2)) := Lib.hid (by
      have h := HP.out
      unfold plainP at h
      simp only [Bool.or_eq_true, decide_eq_true_eq] at h
      exact ⟨fun e => by rw [if_pos e] at h; exact h.symm, fun e => by rw [if_neg e] at h; exact h.symm⟩)
    clear HP
    by_cases k0 : c2 = []
    · rw [decide_eq_true k0] at hb0
      have HE := Lib.hid (HPP.out.1 (.inl k0))
      clear k0 HPP
      go_wp2_with fail
      go_ret2
      exact HR.out _ N1 (by rw [HE.out, ← HN1.out]) HM3.out
    · rw [decide_eq_false k0] at hb0
      by_cases k1 : c2 = [56, 48]
      · rw [decide_eq_true k1] at hb1
        have HE := Lib.hid (HPP.out.1 (.inr (.inl k1)))
        clear k0 k1 HPP
        go_wp2_with fail
        go_ret2
        exact HR.out _ N1 (by rw [HE.out, ← HN1.out]) HM3.out
      · rw [decide_eq_false k1] at hb1
        by_cases k2 : c2 = [52, 52, 51]
        · rw [decide_eq_true k2] at hb2
          have HE := Lib.hid (HPP.out.1 (.inr (.inr k2)))
          clear k0 k1 k2 HPP
          go_wp2_with fail
          go_ret2
          exact HR.out _ N1 (by rw [HE.out, ← HN1.out]) HM3.out
        · rw [decide_eq_false k2] at hb2
          have HE := Lib.hid (HPP.out.2 (by rintro (h | h | h) <;> contradiction))
          clear k0 k1 k2 HPP
          have ha1 : ¬ (9223372036854775807 < N1.size + (⟨#[58]⟩ : ByteArray).size) := by show ¬ _ < N1.size + 1; omega
          have ha2 : ¬ (9223372036854775807 < (N1 ++ ⟨#[58]⟩).size + P1.size) := by rw [ByteArray.size_append]; show ¬ _ < N1.size + 1 + P1.size; omega
          go_wp2_with fail
          go_ret2
          exact HR.out _ _ (by rw [HE.out, ← HJ.out]) HM3.out
end Go.Proofs.YtnbcfpjalgfikaaGreatDoor

namespace Go.Proofs.YtnbcfpjalgfikaaGreatDoor
open Go.RowKit
set_option linter.unusedVariables false
set_option linter.unusedSimpArgs false

theorem only_all {t : ByteArray} {p : UInt8 → Bool} (h : ∀ c, decide (0 ≤ Lib.indexByte t.data.toList c) = p c) (s : ByteArray) : onlyTo s t s.size = s.data.toList.all p := by
  have key : ∀ k, k ≤ s.size → onlyTo s t k = (s.data.toList.take k).all p := by
    intro k
    induction k with
    | zero => intro _; rfl
    | succ k ih =>
      intro hk
      have hkl : k < s.data.toList.length := by show k < s.size; omega
      have hg : s[k]?.getD 0 = s.data.toList[k] := by
        have : k < s.size := by omega
        simp [this]
        rfl
      rw [onlyTo_succ, ih (by omega), all_take hkl, hg, h]
  rw [key s.size (Nat.le_refl _)]
  have hfull : s.data.toList.take s.size = s.data.toList := List.take_length
  rw [hfull]
set_option maxHeartbeats 1000000 in
theorem ref_token (s : ByteArray) (w : World) (hs : s.size ≤ 900000) :
    Calls Tryz.prog 47 #[.string s] w fun e w' => e = .returned (.bool (isTok s)) ∧ w = w' := by
  have ho := ref_only s tokB w (by unfold maxLen; omega)
  rw [only_all tok_at] at ho
  have HT : Hid (isTok s = (s.data.toList.all tokN && decide (s.size ≠ 0) && decide (s.size ≤ 100))) := Lib.hid rfl
  generalize s.data.toList.all tokN = q at *
  unfold tokB at ho
  have HO := Lib.hid ho
  clear ho
  go_enter Tryz.func47, Tryz.ntmps47
  go_wp2_with fail
  refine (ref2_in _ _ _ _).mono ?_
  rintro e w' ⟨rfl, rfl⟩
  by_cases h1 : 1 ≤ s.size ∧ s.size ≤ 100
  · have e1 : (decide (1 ≤ (s.size : Int)) && decide ((s.size : Int) ≤ 100)) = true := by simp; omega
    rw [e1]
    have ho := HO.out
    go_wp2_with fail
    refine ho.mono ?_
    rintro e w' ⟨rfl, rfl⟩
    go_wp2_with fail
    go_ret
    refine ⟨ret_bool ?_, rfl⟩
    rw [HT.out, decide_eq_true (show s.size ≠ 0 by omega), decide_eq_true h1.2, Bool.and_true, Bool.and_true]
  · have e1 : (decide (1 ≤ (s.size : Int)) && decide ((s.size : Int) ≤ 100)) = false := by simp; omega
    rw [e1]
    go_wp2_with fail
    go_ret
    refine ⟨ret_bool ?_, rfl⟩
    rw [HT.out]
    by_cases h2 : s.size = 0
    · simp [h2]
    · have h3 : ¬ s.size ≤ 100 := by omega
      simp [h3]
set_option maxHeartbeats 1000000 in
theorem ref_visible (s : ByteArray) (lo : Nat) (w : World) (hs : s.size ≤ maxLen) :
    Calls Tryz.prog 79 #[.string s, .int .u8 (lo : Int)] w fun e w' => e = .returned (.bool (inR lo 126 s.data.toList)) ∧ w = w' := by
  unfold maxLen at hs
  go_enter Tryz.func79, Tryz.ntmps79
  go_wp2_with fail
  go_loop [8] (fun v => ∃ k : Nat, k ≤ s.size ∧ v = .int .i64 k ∧ Hid (inR lo 126 (s.data.toList.take k) = true)) (fun v => s.size - (intOf v).toNat)
  case atStart => exact ⟨0, Nat.zero_le _, rfl, Lib.hid rfl⟩
  case round =>
    obtain ⟨k, hk, rfl, HR⟩ := hrel
    by_cases hlt : k < s.size
    · have hkl : k < s.data.toList.length := hlt
      have hg : s.data.toList[k] = s[k] := rfl
      have HT : Hid (inR lo 126 (s.data.toList.take (k + 1)) = (decide (lo ≤ s[k].toNat) && decide (s[k].toNat ≤ 126))) := Lib.hid (by have := HR.out; unfold inR at *; rw [all_take hkl, this, hg]; rfl)
      have HF : Hid ((decide (lo ≤ s[k].toNat) && decide (s[k].toNat ≤ 126)) = false → inR lo 126 s.data.toList = false) := Lib.hid (fun h => all_stop hkl (by rw [hg]; exact h))
      clear hg
      by_cases hb : lo ≤ s[k].toNat ∧ s[k].toNat ≤ 126
      · have b1 : ¬ ((s[k].toNat : Int) < (lo : Int)) := by omega
        have b2 : ¬ ((126 : Int) < (s[k].toNat : Int)) := by omega
        have HB : Hid ((decide (lo ≤ s[k].toNat) && decide (s[k].toNat ≤ 126)) = true) := Lib.hid (by simp; omega)
        clear hb
        go_wp2_with fail
        exact ⟨⟨k + 1, by omega, by go_num, Lib.hid (HT.out.trans HB.out)⟩, by simp [intOf]; omega⟩
      · have HB : Hid ((decide (lo ≤ s[k].toNat) && decide (s[k].toNat ≤ 126)) = false) := Lib.hid (by simp; omega)
        have hb' : ((s[k].toNat : Int) < (lo : Int)) ∨ ¬ ((s[k].toNat : Int) < (lo : Int)) ∧ ((126 : Int) < (s[k].toNat : Int)) := by omega
        clear hb
        rcases hb' with b1 | ⟨b1, b2⟩
        all_goals go_wp2_with fail
        all_goals go_ret
        all_goals exact ⟨ret_bool (HF.out HB.out).symm, rfl⟩
    · obtain rfl : k = s.size := by omega
      have hfull : s.data.toList.take s.size = s.data.toList := List.take_length
      rw [hfull] at HR
      clear hfull
      go_wp2_with fail
      go_ret
      exact ⟨ret_bool HR.out.symm, rfl⟩
set_option maxHeartbeats 1000000 in
theorem ref_field (s : ByteArray) (w : World) (hs : s.size ≤ 900000) :
    Calls Tryz.prog 49 #[.string s] w fun e w' => e = .returned (.bool (isFld s)) ∧ New w w' := by
  have hr := ref_visible s 32 w (by unfold maxLen; omega)
  have ht := fun W => Tryz.strings_Trim_set s ⟨#[32]⟩ W (by omega) (by decide) (asciiOne 32 (by decide))
  have htb := trim_beq s [32]
  have HF : Hid (isFld s = (decide (s.size ≤ 2000) && inR 32 126 s.data.toList && decide (Lib.trimS s.data.toList [32] = s.data.toList))) := Lib.hid rfl
  simp only [List.toList_toArray] at ht
  generalize (⟨(Lib.trimS s.data.toList [32]).toArray⟩ : ByteArray) = T at *
  generalize decide (Lib.trimS s.data.toList [32] = s.data.toList) = q at *
  generalize inR 32 126 s.data.toList = p at *
  have HT := Lib.hid ht
  clear ht
  by_cases h1 : s.size ≤ 2000
  · have h2 : decide (s.size ≤ 2000) = true := by simpa using h1
    rw [h2, Bool.true_and] at HF
    have h3 : (s.size : Int) ≤ 2000 := by omega
    clear h1 h2
    cases p
    · go_enter Tryz.func49, Tryz.ntmps49
      go_wp2_with fail
      refine hr.mono ?_
      clear hr
      rintro e w' ⟨rfl, rfl⟩
      go_wp2_with fail
      go_ret
      exact ⟨ret_bool HF.out.symm, Mod.refl _ _⟩
    · go_enter Tryz.func49, Tryz.ntmps49
      go_wp2_with fail
      refine hr.mono ?_
      clear hr
      rintro e w' ⟨rfl, rfl⟩
      have ht := HT.out w
      go_wp2_with fail
      refine ht.mono ?_
      clear ht
      rintro e w2 ⟨rfl, hm2⟩
      have HM2 := Lib.hid hm2
      clear hm2
      go_wp2_with fail
      go_ret
      exact ⟨ret_bool (by rw [HF.out, Bool.true_and]), Mod.of_below HM2.out⟩
  · have h2 : decide (s.size ≤ 2000) = false := by simpa using h1
    rw [h2, Bool.false_and, Bool.false_and] at HF
    have h3 : ¬ (s.size : Int) ≤ 2000 := by omega
    clear h1 h2
    go_enter Tryz.func49, Tryz.ntmps49
    go_wp2_with fail
    go_ret
    exact ⟨ret_bool HF.out.symm, Mod.refl _ _⟩
end Go.Proofs.YtnbcfpjalgfikaaGreatDoor

namespace Go.Proofs.YtnbcfpjalgfikaaGreatDoor
open Go.RowKit
set_option linter.unusedVariables false
set_option linter.unusedSimpArgs false

set_option maxRecDepth 100000 in
set_option maxHeartbeats 1000000 in
theorem ref_hostOf (s : ByteArray) (w : World) (hs : s.size ≤ 900000) (hx : MaxLn w) (hT : Pow10 w) : Calls Tryz.prog 44 #[.string s] w (RHost s w) := by
  have hcut := cut_at s 58 w (by omega) hx
  have hle := cutL_le 58 s.data.toList
  have hls : s.data.toList.length = s.size := rfl
  have HF : Hid (hostForm s = ((pieces ⟨(cutL 58 s.data.toList).1.toArray⟩ dotB).all (fun x => labOk x.data.toList) && decide (s.size ≤ 255) && (!(cutL 58 s.data.toList).2.2 || portOk ⟨(cutL 58 s.data.toList).2.1.toArray⟩))) := Lib.hid rfl
  have HNR := Lib.hid (fun (h : (!(cutL 58 s.data.toList).2.2 || portOk ⟨(cutL 58 s.data.toList).2.1.toArray⟩) = true) => hostN_ref h)
  have HBAD : Hid (hostForm s = false → ∀ w', New w w' → RHost s w (.returned (.tuple #[.string ⟨#[]⟩, .int .i64 3])) w') := Lib.hid (fun hf w' hm => ⟨by rw [hf]; rfl, hm⟩)
  have HGOOD : Hid (hostForm s = true → ∀ w' (z : ByteArray), z = ⟨(hostN s.data.toList).toArray⟩ → New w w' → RHost s w (.returned (.tuple #[.string z, .int .i64 0])) w') := Lib.hid (fun hf w' z hz hm => ⟨by rw [hf, hz]; rfl, hm⟩)
  generalize hostN s.data.toList = HNL at *
  generalize hostForm s = HFV at *
  generalize cutL 58 s.data.toList = C at *
  obtain ⟨c1, c2, has⟩ := C
  simp only at hcut hle HF HNR
  have z1 : (⟨c1.toArray⟩ : ByteArray).size ≤ 900000 := by show c1.toArray.size ≤ _; simp; omega
  have z2 : (⟨c2.toArray⟩ : ByteArray).size ≤ 900000 := by show c2.toArray.size ≤ _; simp; omega
  obtain ⟨names, hnm⟩ : ∃ z : ByteArray, ⟨c1.toArray⟩ = z := ⟨_, rfl⟩
  obtain ⟨port, hpt⟩ : ∃ z : ByteArray, ⟨c2.toArray⟩ = z := ⟨_, rfl⟩
  rw [hnm] at z1 hcut HF
  rw [hpt] at z2 hcut HF HNR
  have HNM := Lib.hid hnm
  have HPT := Lib.hid hpt
  clear hle hls hnm hpt
  have HX := Lib.hid hx
  have HTT := Lib.hid hT
  clear hx hT
  go_enter Tryz.func44, Tryz.ntmps44
  go_wp2_with fail
  refine hcut.mono ?_
  clear hcut
  rintro e w1 ⟨rfl, m1⟩
  have HM1 := Lib.hid m1
  have hnum := ref_number 5 (by omega) port w1 (by omega) (HTT.out.new m1)
  clear m1
  go_wp2_with fail
  refine hnum.mono ?_
  clear hnum
  rintro e w2 ⟨v, rfl, hv, m2⟩
  have HM2 := Lib.hid (HM1.out.trans m2)
  have HV := Lib.hid hv
  clear hv m2 HM1
  obtain ⟨ok, hok⟩ : ∃ o, numOk 5 port = o := ⟨_, rfl⟩
  rw [hok] at HV
  simp only [hok]
  have HPO : Hid (portOk port = (ok && (decide (1 ≤ numV port) && decide (numV port ≤ 65535)))) := Lib.hid (by rw [portOk_five, hok])
  clear hok
  go_upto_region 3 with (fail)
  obtain ⟨fm, hfm⟩ : ∃ b, (decide (s.size ≤ 255) && (!has || portOk port)) = b := ⟨_, rfl⟩
  have HFM := Lib.hid hfm
  clear hfm
  go_cut [37] (fun s37 wx => s37 = .bool (!fm) ∧ wx = w2)
  case first =>
    by_cases h1 : s.size ≤ 255
    · have h2 : ¬ (255 : Int) < s.size := by omega
      have H3 : Hid (decide (s.size ≤ 255) = true) := Lib.hid (by simpa using h1)
      clear h1
      cases has
      · go_wp2_with fail
        go_meet
        case rel => exact ⟨by rw [← HFM.out, H3.out]; rfl, rfl⟩
      · cases ok
        · have H4 : Hid (portOk port = false) := Lib.hid (by rw [HPO.out]; rfl)
          go_wp2_with fail
          go_meet
          case rel => exact ⟨by rw [← HFM.out, H3.out, H4.out]; rfl, rfl⟩
        · have H4 : Hid (portOk port = (decide (1 ≤ v) && decide (v ≤ 65535))) := Lib.hid (by rw [HPO.out, Bool.true_and, HV.out (by first | trivial | rfl)])
          have q := ref2_in v 1 65535 w2
          generalize (decide (1 ≤ v) && decide (v ≤ 65535)) = t at *
          go_wp2_with fail
          refine q.mono ?_
          clear q
          rintro e w' ⟨rfl, rfl⟩
          go_wp2_with fail
          go_meet
          case rel => exact ⟨by rw [← HFM.out, H3.out, H4.out]; cases t <;> rfl, rfl⟩
    · have h2 : (255 : Int) < s.size := by omega
      have H3 : Hid (decide (s.size ≤ 255) = false) := Lib.hid (by simpa using h1)
      clear h1
      go_wp2_with fail
      go_meet
      case rel => exact ⟨by rw [← HFM.out, H3.out]; rfl, rfl⟩
  case rest =>
    rename World => wx
    obtain ⟨rfl, rfl⟩ := hcut
    have HVV : Hid (has = true → portOk port = true → v = numV port) := Lib.hid (fun _ h => by
      rw [HPO.out] at h
      simp only [Bool.and_eq_true] at h
      exact HV.out h.1)
    have HQ := Lib.hid (fun (h : portOk port = true) => num_port h)
    obtain ⟨pk, hpk⟩ : ∃ b, portOk port = b := ⟨_, rfl⟩
    rw [hpk] at HF HNR HVV HQ HFM
    clear hpk HPO HV
    have HF2 : Hid (HFV = ((pieces names dotB).all (fun x => labOk x.data.toList) && fm)) := Lib.hid (by rw [HF.out, Bool.and_assoc, HFM.out])
    clear HF
    cases fm
    · go_wp2_with fail
      go_ret2
      exact HBAD.out (by rw [HF2.out, Bool.and_false]) _ HM2.out
    · have HPK : Hid ((!has || pk) = true) := Lib.hid (by have := HFM.out; simp only [Bool.and_eq_true] at this; exact this.2)
      have HNM2 := Lib.hid (HNR.out HPK.out)
      clear HNR HFM
      have hsp := split_any names 46 wx (by omega) (HX.out.new HM2.out)
      have hpl : ∀ x ∈ pieces names dotB, x.size ≤ 900000 := fun x hx => Nat.le_trans (pieces_le hx) z1
      have HLN : Hid ((∀ x ∈ pieces names dotB, labOk x.data.toList = true) → ∀ (j : Nat) (b : UInt8), names.data.toList[j]? = some b → b.toNat < 128) := Lib.hid (fun h j b hb => by
        rcases splitB_mem 46 (Lib.countB names dotB) names b (List.mem_of_getElem? hb) with e | ⟨x, hx, hbx⟩
        · subst e; decide
        · have hl := h x hx
          unfold labOk at hl
          simp only [Bool.and_eq_true, List.all_eq_true] at hl
          exact lab_ascii (hl.1.1.1.1 b hbx))
      have hcnt : (pieces names dotB).length ≤ 1000001 := by
        rw [pieces_length (show 1 ≤ (dotB : ByteArray).size from Nat.le_refl _)]
        have := Lib.countB_le dotB (Nat.le_refl _) names.size names (Nat.le_refl _)
        omega
      generalize pieces names dotB = P at *
      have HP := Lib.hid hpl
      clear hpl
      go_wp2_with fail
      refine hsp.mono ?_
      clear hsp
      rintro e w3 ⟨rfl, rfl⟩
      have bP := Lib.hid (Blk.new wx 9 (strCs P))
      have HM3 := Lib.hid (HM2.out.alloc (.cells (strCs P) 9))
      generalize wx.alloc (.cells (strCs P) 9) = w3 at *
      generalize wx.heap.size = g at *
      go_wp2_with fail
      go_loopw [41] (fun i wr => ∃ k : Nat, k ≤ P.length ∧ i = .int .i64 k ∧ Hid ((P.take k).all (fun x => labOk x.data.toList) = true) ∧ Hid (New w3 wr)) (fun i _ => P.length - (intOf i).toNat)
      case atStart => exact ⟨0, Nat.zero_le _, rfl, Lib.hid rfl, Lib.hid (Mod.refl _ _)⟩
      case round =>
        rename World => wr
        obtain ⟨k, hk, rfl, HR, HMR⟩ := hrel
        by_cases hlt : k < P.length
        · have hbq := bP.out.mod HMR.out (fun e => e)
          have hbl := hbq.lt
          have hcell := strs_at hbq k hlt
          clear hbq
          rw [show P.getD k ByteArray.empty = P[k] by rw [List.getD_eq_getElem?_getD, List.getElem?_eq_getElem hlt]; rfl] at hcell
          have HT : Hid ((P.take (k + 1)).all (fun x => labOk x.data.toList) = labOk P[k].data.toList) := Lib.hid (by rw [List.take_succ_eq_append_getElem hlt, List.all_append, HR.out]; simp)
          have HN : Hid (labOk P[k].data.toList = false → P.all (fun x => labOk x.data.toList) = false) := Lib.hid (fun h => by
            rw [List.all_eq_false]
            exact ⟨P[k], List.getElem_mem hlt, by rw [h]; simp⟩)
          have hxs := HP.out _ (List.getElem_mem hlt)
          have hb2 : (0 : Int) ≤ k := by omega
          have hb3 : (k : Int) < P.length := by omega
          generalize P[k] = x at *
          have q1 := ref2_in (x.size : Int) 1 63 wr
          have q2 := ref_only x labB wr (by unfold maxLen; omega)
          rw [only_all lab_at] at q2
          have q3 := fun W => Tryz.strings_Trim_set x ⟨#[45]⟩ W (by omega) (by decide) (asciiOne 45 (by decide))
          have htb := trim_beq x [45]
          have HLA : Hid (labOk x.data.toList = ((decide (1 ≤ (x.size : Int)) && decide ((x.size : Int) ≤ 63)) && x.data.toList.all labC && decide (Lib.trimS x.data.toList [45] = x.data.toList))) := Lib.hid (by
            rw [labOk_ref]
            have hl : x.data.toList.length = x.size := rfl
            rw [hl]
            congr 3
            · rw [decide_eq_decide]; omega
            · rw [decide_eq_decide]; omega)
          simp only [List.toList_toArray] at q3
          generalize (⟨(Lib.trimS x.data.toList [45]).toArray⟩ : ByteArray) = T at *
          generalize decide (Lib.trimS x.data.toList [45] = x.data.toList) = t3 at *
          generalize x.data.toList.all labC = t2 at *
          generalize (decide (1 ≤ (x.size : Int)) && decide ((x.size : Int) ≤ 63)) = t1 at *
          unfold labB at q2
          have Q2 := Lib.hid q2
          have Q3 := Lib.hid q3
          clear q2 q3 hxs
          cases t1
          · go_wp2_with fail
            refine q1.mono ?_
            clear q1
            rintro e w' ⟨rfl, rfl⟩
            go_wp2_with fail
            go_ret2
            exact HBAD.out (by rw [HF2.out, HN.out (by rw [HLA.out]; rfl)]; rfl) _ (HM3.out.trans HMR.out)
          · go_wp2_with fail
            refine q1.mono ?_
            clear q1
            rintro e w' ⟨rfl, rfl⟩
            have q2 := Q2.out
            cases t2
            · go_wp2_with fail
              refine q2.mono ?_
              clear q2
              rintro e w' ⟨rfl, rfl⟩
              go_wp2_with fail
              go_ret2
              exact HBAD.out (by rw [HF2.out, HN.out (by rw [HLA.out]; rfl)]; rfl) _ (HM3.out.trans HMR.out)
            · go_wp2_with fail
              refine q2.mono ?_
              clear q2
              rintro e w' ⟨rfl, rfl⟩
              have q3 := Q3.out wr
              go_wp2_with fail
              refine q3.mono ?_
              clear q3
              rintro e w5 ⟨rfl, m5⟩
              have HM5 := Lib.hid (HMR.out.trans (Mod.of_below m5))
              clear m5
              cases t3
              · go_wp2_with fail
                go_ret2
                exact HBAD.out (by rw [HF2.out, HN.out (by rw [HLA.out]; rfl)]; rfl) _ (HM3.out.trans HM5.out)
              · go_wp2_with fail
                exact ⟨⟨k + 1, by omega, by go_num, Lib.hid (HT.out.trans (by rw [HLA.out]; rfl)), HM5⟩, by simp [intOf]; omega⟩
        · obtain rfl : k = P.length := by omega
          have hfull : P.take P.length = P := List.take_length
          rw [hfull] at HR
          have HG : Hid (HFV = true) := Lib.hid (by rw [HF2.out, HR.out]; rfl)
          have hall : ∀ x ∈ P, labOk x.data.toList = true := List.all_eq_true.1 HR.out
          have hlow := Tryz.strings_ToLower_ascii names wr (by omega) (HLN.out hall)
          have HMW := Lib.hid (HM3.out.trans HMR.out)
          have hll : (Lib.toLowerA names.data.toList).length = names.size := lower_len _
          have HNN : Hid (Lib.toLowerA c1 = Lib.toLowerA names.data.toList) := Lib.hid (by rw [← HNM.out])
          obtain ⟨LN, hLN⟩ : ∃ z : ByteArray, ⟨(Lib.toLowerA names.data.toList).toArray⟩ = z := ⟨_, rfl⟩
          have HLNE := Lib.hid hLN
          have hlns : LN.size = names.size := by rw [← hLN]; show (Lib.toLowerA names.data.toList).toArray.size = _; simp; exact hll
          rw [hLN] at hlow
          clear hLN hll hfull hall HLN HP HR HMR HM3 HF2
          go_wp2_with fail
          refine hlow.mono ?_
          clear hlow
          rintro e w6 ⟨rfl, m6⟩
          have HM6 := Lib.hid (HMW.out.trans (Mod.of_below m6))
          clear m6 HMW
          have HC1 : Hid (LN = ⟨(Lib.toLowerA c1).toArray⟩) := Lib.hid (by rw [← HLNE.out, HNN.out])
          cases has
          · have HE : Hid (HNL = Lib.toLowerA c1) := Lib.hid (by rw [← HNM2.out]; simp)
            go_wp2_with fail
            go_ret2
            exact HGOOD.out HG.out _ LN (by rw [HC1.out, HE.out]) HM6.out
          · have hpk : pk = true := by have := HPK.out; simpa using this
            subst hpk
            have hv := HVV.out (by first | trivial | rfl) (by first | trivial | rfl)
            have hq := HQ.out (by first | trivial | rfl)
            rw [← hv] at hq
            have HPP : Hid (port.data.toList = c2) := Lib.hid (by rw [← HPT.out])
            rw [HPP.out] at hq
            have HHQ := Lib.hid hq
            have HH := Lib.hid HNM2.out
            clear hv hq HNM2
            by_cases k0 : v = 80
            · have HE : Hid (HNL = Lib.toLowerA c1) := Lib.hid (by
                have h := HHQ.out
                rw [decide_eq_true k0, Bool.true_or] at h
                rw [← HH.out, ← h]
                simp)
              have k1 : (v != 80) = false := by simpa using k0
              clear k0
              go_wp2_with fail
              go_ret2
              exact HGOOD.out HG.out _ LN (by rw [HC1.out, HE.out]) HM6.out
            · have k1 : (v != 80) = true := by simpa using k0
              by_cases k2 : v = 443
              · have HE : Hid (HNL = Lib.toLowerA c1) := Lib.hid (by
                  have h := HHQ.out
                  rw [decide_eq_true k2, Bool.or_true] at h
                  rw [← HH.out, ← h]
                  simp)
                have k3 : (v != 443) = false := by simpa using k2
                clear k0 k2
                go_wp2_with fail
                go_ret2
                exact HGOOD.out HG.out _ LN (by rw [HC1.out, HE.out]) HM6.out
              · have HE : Hid (HNL = Lib.toLowerA c1 ++ 58 :: c2) := Lib.hid (by
                  have h := HHQ.out
                  rw [decide_eq_false k0, decide_eq_false k2] at h
                  rw [← HH.out, ← h]
                  simp)
                have k3 : (v != 443) = true := by simpa using k2
                clear k0 k2
                have ha1 : ¬ (9223372036854775807 < (⟨#[58]⟩ : ByteArray).size + port.size) := by show ¬ _ < 1 + port.size; omega
                have ha2 : ¬ (9223372036854775807 < LN.size + ((⟨#[58]⟩ : ByteArray) ++ port).size) := by rw [ByteArray.size_append]; show ¬ _ < LN.size + (1 + port.size); omega
                go_wp2_with fail
                go_ret2
                exact HGOOD.out HG.out _ _ (by
                  rw [HC1.out, HE.out, ← HPT.out]
                  apply ByteArray.ext
                  simp [ByteArray.data_append]) HM6.out
end Go.Proofs.YtnbcfpjalgfikaaGreatDoor
