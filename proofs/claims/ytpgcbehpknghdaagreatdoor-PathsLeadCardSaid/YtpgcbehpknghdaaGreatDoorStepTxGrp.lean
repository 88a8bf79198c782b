/- Several texts in one. (1) The text of a step, of a path, on both sides. Conditions: names of modest size; the library's tables lie as they should. (2) The text of a path (value.PathText, gateref1.PathLine). Conditions: names of modest size; the library's tables lie as they should. (3) A text that is nearly another (Stream.Changed), whatever letters are put in. Conditions: the stream's own. (4) Strings that are nearly paths: Stream.PathString. Conditions: the stream's own; strconv's table. -/
import Derived.Test.YtpgcbehpknghdaaGreatDoorPthLaw
import Derived.Test.YtpgcbehpknghdaaGreatDoorStepC
import Derived.Test.YtpgcbehpknghdaaGreatDoorValQ
import Derived.Test.YtpgcbehpknghdaaGreatDoorValR
import Derived.Test.YtpgcbehpknghdaaGreatDoorWordLawGrp
import Derived.Test.YtpgcbehpknghdaaGreatDoorChgMemGrp
import Derived.Test.YtpgcbehpknghdaaGreatDoorStreamGrp
import Derived.BigQuiet
import Derived.Deep.QuietTactic

namespace Go.Proofs.YtpgcbehpknghdaaGreatDoor
open Go.RowKit
set_option linter.unusedVariables false
set_option linter.unusedSimpArgs false

theorem cat3 (a b c : ByteArray) : a ++ b ++ c = ⟨(a.data.toList ++ b.data.toList ++ c.data.toList).toArray⟩ := by
  apply ba_ext
  simp
theorem cat2 (a b : ByteArray) : a ++ b = ⟨(a.data.toList ++ b.data.toList).toArray⟩ := by
  apply ba_ext
  simp
theorem stepTx_length (s : St) (hn : s.name.size ≤ 100000) (ha : I64 s.at_) : (stepTx s).length ≤ 600100 := by
  have h1 : s.name.data.toList.length = s.name.size := rfl
  unfold stepTx
  split
  · have := itoaB_size ha
    have h2 : (itoaB s.at_).size = (Lib.itoa s.at_).length := by unfold itoaB; show (List.toArray _).size = _; simp
    simp
    omega
  · split
    · rw [List.length_cons]; omega
    · have := quoteL_length s.name.data.toList
      simp
      omega
set_option maxRecDepth 100000 in
set_option maxHeartbeats 700000 in
theorem val_stepText (st : St) (w : World) (hn : st.name.size ≤ 100000) (ha : I64 st.at_) (hP : Pow10 w) :
    Calls Tryz.prog 42 #[st.val] w fun e w' => e = .returned (.string ⟨(stepTx st).toArray⟩) ∧ New w w' := by
  obtain ⟨nm, sn, k⟩ := st
  simp only at hn ha
  have hx := Blk.new w 46 #[.bool nm, .string sn, .int .i64 k]
  have m1 : New w (w.alloc (.cells #[.bool nm, .string sn, .int .i64 k] 46)) := (Mod.refl _ _).alloc _
  unfold St.val
  simp only
  have h91 : (⟨#[91]⟩ : ByteArray).size = 1 := rfl
  have h93 : (⟨#[93]⟩ : ByteArray).size = 1 := rfl
  have h46 : (⟨#[46]⟩ : ByteArray).size = 1 := rfl
  go_enter Tryz.func42, Tryz.ntmps42
  go_upto_region 1 with (fail)
  generalize w.alloc (.cells #[.bool nm, .string sn, .int .i64 k] 46) = w1 at *
  generalize w.heap.size = xb at *
  have HM := Lib.hid m1
  have HX := Lib.hid hx
  have e0 := hx.cell 0
  have e1 := hx.cell 1
  have e2 := hx.cell 2
  have el := hx.lt
  simp only [List.getElem?_toArray, List.getElem?_cons_zero, List.getElem?_cons_succ] at e0 e1 e2
  cases nm
  · have hit := itoa_any k ha w1
    have hit := hit (hP.new m1)
    have hz := itoaB_size ha
    have HR : Hid ((⟨#[91]⟩ : ByteArray) ++ itoaB k ++ ⟨#[93]⟩ = ⟨(stepTx ⟨false, sn, k⟩).toArray⟩) := Lib.hid (by rw [cat3]; rfl)
    generalize itoaB k = T at *
    have hs1 : ¬ 9223372036854775807 < (⟨#[91]⟩ : ByteArray).size + T.size := by omega
    have hs2 : ¬ 9223372036854775807 < (⟨#[91]⟩ ++ T : ByteArray).size + (⟨#[93]⟩ : ByteArray).size := by rw [ByteArray.size_append]; omega
    clear hx m1 h91 h93 h46
    go_wp2_with (first | (refine hit.mono ?_; clear hit; rintro e w2 ⟨rfl, hm2⟩; have hm2 := Lib.hid hm2))
    go_ret
    exact ⟨by rw [HR.out]; rfl, HM.out.trans hm2.out⟩
  · have hpl := val_isPlain sn w1 (by unfold maxLen; omega)
    have hE : stepTx ⟨true, sn, k⟩ = if plainRow sn.data.toList = true then 46 :: sn.data.toList else 91 :: (quoteL sn.data.toList ++ [93]) := by unfold stepTx; rw [if_neg (by simp)]
    have hqu := fun W => quote_v sn W hn
    have hql := quoteL_length sn.data.toList
    have hsl : sn.data.toList.length = sn.size := rfl
    have HQS : Hid ((⟨#[91]⟩ : ByteArray) ++ ⟨(quoteL sn.data.toList).toArray⟩ ++ ⟨#[93]⟩ = ⟨(91 :: (quoteL sn.data.toList ++ [93])).toArray⟩) := Lib.hid (by rw [cat3]; rfl)
    have hqz : (⟨(quoteL sn.data.toList).toArray⟩ : ByteArray).size = (quoteL sn.data.toList).length := by show (List.toArray _).size = _; simp
    generalize plainRow sn.data.toList = p at *
    generalize (⟨(quoteL sn.data.toList).toArray⟩ : ByteArray) = T at *
    have HE := Lib.hid hE
    have HQU := Lib.hid hqu
    clear hE hqu m1 hx
    have hs0 : ¬ 9223372036854775807 < (⟨#[46]⟩ : ByteArray).size + sn.size := by omega
    have hs1 : ¬ 9223372036854775807 < (⟨#[91]⟩ : ByteArray).size + T.size := by omega
    have hs2 : ¬ 9223372036854775807 < (⟨#[91]⟩ ++ T : ByteArray).size + (⟨#[93]⟩ : ByteArray).size := by rw [ByteArray.size_append]; omega
    clear h91 h93 h46 hql hsl hqz
    go_wp2_with fail
    refine hpl.mono ?_
    clear hpl e0 e1 e2 el
    cases p
    · rintro e w2 ⟨rfl, hm2⟩
      have HM2 : Hid (New w1 w2) := Lib.hid (by first | exact hm2 | (subst hm2; exact Mod.refl _ _))
      have HX2 := Lib.hid (HX.out.mod HM2.out (fun e => e))
      clear hm2
      have e0 := HX2.out.cell 0
      have e1 := HX2.out.cell 1
      have e2 := HX2.out.cell 2
      have el := HX2.out.lt
      simp only [List.getElem?_toArray, List.getElem?_cons_zero, List.getElem?_cons_succ] at e0 e1 e2
      have hqu := HQU.out w2
      go_wp2_with (first | (refine hqu.mono ?_; clear hqu; rintro e w3 ⟨rfl, hm3⟩; have hm3 := Lib.hid hm3))
      go_ret
      exact ⟨by rw [HE.out, if_neg (by decide), ← HQS.out]; rfl, HM.out.trans (HM2.out.trans hm3.out)⟩
    · rintro e w2 ⟨rfl, hm2⟩
      have HM2 : Hid (New w1 w2) := Lib.hid (by first | exact hm2 | (subst hm2; exact Mod.refl _ _))
      have HX2 := Lib.hid (HX.out.mod HM2.out (fun e => e))
      clear hm2
      have e0 := HX2.out.cell 0
      have e1 := HX2.out.cell 1
      have e2 := HX2.out.cell 2
      have el := HX2.out.lt
      simp only [List.getElem?_toArray, List.getElem?_cons_zero, List.getElem?_cons_succ] at e0 e1 e2
      go_wp2_with fail
      go_ret
      have HF : Hid ((⟨#[46]⟩ : ByteArray) ++ sn = ⟨(stepTx ⟨true, sn, k⟩).toArray⟩) := Lib.hid (by rw [HE.out, if_pos trivial, cat2]; rfl)
      exact ⟨by rw [← HF.out]; rfl, HM.out.trans HM2.out⟩
set_option maxRecDepth 100000 in
set_option maxHeartbeats 700000 in
theorem ref_stepText (st : St) (w : World) (hn : st.name.size ≤ 100000) (ha : I64 st.at_) (hP : Pow10 w) :
    Calls Tryz.prog 46 #[st.val] w fun e w' => e = .returned (.string ⟨(stepTx st).toArray⟩) ∧ New w w' := by
  obtain ⟨nm, sn, k⟩ := st
  simp only at hn ha
  have hx := Blk.new w 46 #[.bool nm, .string sn, .int .i64 k]
  have m1 : New w (w.alloc (.cells #[.bool nm, .string sn, .int .i64 k] 46)) := (Mod.refl _ _).alloc _
  unfold St.val
  simp only
  have h91 : (⟨#[91]⟩ : ByteArray).size = 1 := rfl
  have h93 : (⟨#[93]⟩ : ByteArray).size = 1 := rfl
  have h46 : (⟨#[46]⟩ : ByteArray).size = 1 := rfl
  go_enter Tryz.func46, Tryz.ntmps46
  go_upto_region 1 with (fail)
  generalize w.alloc (.cells #[.bool nm, .string sn, .int .i64 k] 46) = w1 at *
  generalize w.heap.size = xb at *
  have HM := Lib.hid m1
  have HX := Lib.hid hx
  have e0 := hx.cell 0
  have e1 := hx.cell 1
  have e2 := hx.cell 2
  have el := hx.lt
  simp only [List.getElem?_toArray, List.getElem?_cons_zero, List.getElem?_cons_succ] at e0 e1 e2
  cases nm
  · have hit := itoa_any k ha w1
    have hit := hit (hP.new m1)
    have hz := itoaB_size ha
    have HR : Hid ((⟨#[91]⟩ : ByteArray) ++ itoaB k ++ ⟨#[93]⟩ = ⟨(stepTx ⟨false, sn, k⟩).toArray⟩) := Lib.hid (by rw [cat3]; rfl)
    generalize itoaB k = T at *
    have hs1 : ¬ 9223372036854775807 < (⟨#[91]⟩ : ByteArray).size + T.size := by omega
    have hs2 : ¬ 9223372036854775807 < (⟨#[91]⟩ ++ T : ByteArray).size + (⟨#[93]⟩ : ByteArray).size := by rw [ByteArray.size_append]; omega
    clear hx m1 h91 h93 h46
    go_wp2_with (first | (refine hit.mono ?_; clear hit; rintro e w2 ⟨rfl, hm2⟩; have hm2 := Lib.hid hm2))
    go_ret
    exact ⟨by rw [HR.out]; rfl, HM.out.trans hm2.out⟩
  · have hpl := ref_plainRow sn w1 (by omega)
    have hE : stepTx ⟨true, sn, k⟩ = if plainRow sn.data.toList = true then 46 :: sn.data.toList else 91 :: (quoteL sn.data.toList ++ [93]) := by unfold stepTx; rw [if_neg (by simp)]
    have hqu := fun W => quoted_v sn W hn
    have hql := quoteL_length sn.data.toList
    have hsl : sn.data.toList.length = sn.size := rfl
    have HQS : Hid ((⟨#[91]⟩ : ByteArray) ++ ⟨(quoteL sn.data.toList).toArray⟩ ++ ⟨#[93]⟩ = ⟨(91 :: (quoteL sn.data.toList ++ [93])).toArray⟩) := Lib.hid (by rw [cat3]; rfl)
    have hqz : (⟨(quoteL sn.data.toList).toArray⟩ : ByteArray).size = (quoteL sn.data.toList).length := by show (List.toArray _).size = _; simp
    generalize plainRow sn.data.toList = p at *
    generalize (⟨(quoteL sn.data.toList).toArray⟩ : ByteArray) = T at *
    have HE := Lib.hid hE
    have HQU := Lib.hid hqu
    clear hE hqu m1 hx
    have hs0 : ¬ 9223372036854775807 < (⟨#[46]⟩ : ByteArray).size + sn.size := by omega
    have hs1 : ¬ 9223372036854775807 < (⟨#[91]⟩ : ByteArray).size + T.size := by omega
    have hs2 : ¬ 9223372036854775807 < (⟨#[91]⟩ ++ T : ByteArray).size + (⟨#[93]⟩ : ByteArray).size := by rw [ByteArray.size_append]; omega
    clear h91 h93 h46 hql hsl hqz
    go_wp2_with fail
    refine hpl.mono ?_
    clear hpl e0 e1 e2 el
    cases p
    · rintro e w2 ⟨rfl, hm2⟩
      have HM2 : Hid (New w1 w2) := Lib.hid (by first | exact hm2 | (subst hm2; exact Mod.refl _ _))
      have HX2 := Lib.hid (HX.out.mod HM2.out (fun e => e))
      clear hm2
      have e0 := HX2.out.cell 0
      have e1 := HX2.out.cell 1
      have e2 := HX2.out.cell 2
      have el := HX2.out.lt
      simp only [List.getElem?_toArray, List.getElem?_cons_zero, List.getElem?_cons_succ] at e0 e1 e2
      have hqu := HQU.out w2
      go_wp2_with (first | (refine hqu.mono ?_; clear hqu; rintro e w3 ⟨rfl, hm3⟩; have hm3 := Lib.hid hm3))
      go_ret
      exact ⟨by rw [HE.out, if_neg (by decide), ← HQS.out]; rfl, HM.out.trans (HM2.out.trans hm3.out)⟩
    · rintro e w2 ⟨rfl, hm2⟩
      have HM2 : Hid (New w1 w2) := Lib.hid (by first | exact hm2 | (subst hm2; exact Mod.refl _ _))
      have HX2 := Lib.hid (HX.out.mod HM2.out (fun e => e))
      clear hm2
      have e0 := HX2.out.cell 0
      have e1 := HX2.out.cell 1
      have e2 := HX2.out.cell 2
      have el := HX2.out.lt
      simp only [List.getElem?_toArray, List.getElem?_cons_zero, List.getElem?_cons_succ] at e0 e1 e2
      go_wp2_with fail
      go_ret
      have HF : Hid ((⟨#[46]⟩ : ByteArray) ++ sn = ⟨(stepTx ⟨true, sn, k⟩).toArray⟩) := Lib.hid (by rw [HE.out, if_pos trivial, cat2]; rfl)
      exact ⟨by rw [← HF.out]; rfl, HM.out.trans HM2.out⟩

end Go.Proofs.YtpgcbehpknghdaaGreatDoor

namespace Go.Proofs.YtpgcbehpknghdaaGreatDoor
open Go.RowKit
set_option linter.unusedVariables false
set_option linter.unusedSimpArgs false

/-- steps that can be written -/
def StFit (p : List St) : Prop := ∀ s ∈ p, s.name.size ≤ 100 ∧ I64 s.at_
theorem pathF_fit {p : List St} (h : pathF p = 0) : p.length ≤ 50 ∧ StFit p := by
  unfold pathF at h
  split at h
  · cases h
  · rename_i h50
    refine ⟨by omega, fun s hs => ?_⟩
    have h1 := fz_zero h (stepF s) (List.mem_map.2 ⟨s, hs, rfl⟩)
    unfold stepF at h1
    split at h1
    · cases h1
    · split at h1
      · rename_i h2; exact absurd h1 h2
      · split at h1
        · cases h1
        · rename_i h2 h3
          have h2 := Decidable.not_not.1 h2
          unfold nameF at h2
          split at h2
          · cases h2
          · refine ⟨by omega, by unfold I64; omega⟩
theorem stepTx_len (s : St) (hn : s.name.size ≤ 100) (ha : I64 s.at_) : (stepTx s).length ≤ 700 := by
  have h1 : s.name.data.toList.length = s.name.size := rfl
  unfold stepTx
  split
  · have := itoaB_size ha
    have h2 : (itoaB s.at_).size = (Lib.itoa s.at_).length := by unfold itoaB; show (List.toArray _).size = _; simp
    simp
    omega
  · split
    · rw [List.length_cons]; omega
    · have := quoteL_length s.name.data.toList
      simp
      omega
theorem pathTx_take {p : List St} {k : Nat} (h : k < p.length) : pathTx (p.take (k + 1)) = pathTx (p.take k) ++ stepTx p[k] := by
  unfold pathTx
  rw [List.take_succ_eq_append_getElem h, List.flatMap_append, List.flatMap_singleton]
set_option maxRecDepth 100000 in
set_option maxHeartbeats 700000 in
theorem ref_pathLine (A : Option Addr) (n c : Nat) (l : List St) (w : World) (hs : Sl w 46 3 St.enc A n l) (hn : n ≤ 60) (hf : StFit l) (hP : Pow10 w) :
    Calls Tryz.prog 13 #[.slice A n c] w fun e w' => e = .returned (.string ⟨(pathTx l).toArray⟩) ∧ New w w' := by
  have HS := Lib.hid hs
  have HL := Lib.hid hs.1
  have HFT := Lib.hid hf
  have HP := Lib.hid hP
  clear hs hf hP
  go_enter Tryz.func13, Tryz.ntmps13
  go_wp2_with fail
  go_loopw [3, 8] (fun o i wr => ∃ (k : Nat) (T : ByteArray), k ≤ n ∧ i = .int .i64 k ∧ o = .string T ∧ Hid (T.data.toList = pathTx (l.take k)) ∧ T.size ≤ 700 * k ∧ Hid (New w wr)) (fun _ i _ => n - (intOf i).toNat)
  case atStart => exact ⟨0, ⟨#[]⟩, Nat.zero_le _, rfl, rfl, Lib.hid rfl, Nat.le_refl _, Lib.hid (Mod.refl _ _)⟩
  case round =>
    rename World => wr
    obtain ⟨k, T, hk, rfl, rfl, HT, htz, HM⟩ := hrel
    by_cases hlt : k < n
    · have hkl : k < l.length := by have := HL.out; omega
      obtain ⟨g, o, hA, htb, hc⟩ := (HS.out.new HM.out).2 (by omega)
      subst hA
      have hgl := htb.lt
      have c0 := hc k hkl 0 (by decide)
      have c1 := hc k hkl 1 (by decide)
      have c2 := hc k hkl 2 (by decide)
      simp only [St.enc, Nat.add_zero] at c0 c1 c2
      have hft := HFT.out _ (List.getElem_mem hkl)
      have HTK := Lib.hid (pathTx_take hkl)
      have hz := stepTx_len _ hft.1 hft.2
      have hb1 : (0 : Int) ≤ k := by omega
      have hb2 : (k : Int) < n := by omega
      clear hc htb
      generalize l[k] = st at *
      obtain ⟨nm, sn, at_⟩ := st
      simp only at c0 c1 c2 hft
      have hx := Blk.new wr 46 #[.bool nm, .string sn, .int .i64 at_]
      have hmx : New wr (wr.alloc (.cells #[.bool nm, .string sn, .int .i64 at_] 46)) := (Mod.refl _ _).alloc _
      go_upto_region 5 with fail
      have HM1 := Lib.hid (HM.out.trans hmx)
      have e0 := hx.cell 0
      have e1 := hx.cell 1
      have e2 := hx.cell 2
      have el := hx.lt
      simp only [List.getElem?_toArray, List.getElem?_cons_zero, List.getElem?_cons_succ] at e0 e1 e2
      clear hx hmx HM c0 c1 c2 hgl
      generalize wr.alloc (.cells #[.bool nm, .string sn, .int .i64 at_] 46) = w1 at *
      generalize wr.heap.size = xb at *
      have hst := ref_stepText ⟨nm, sn, at_⟩ w1 (by simp only; omega) hft.2 (HP.out.new HM1.out)
      have hsz : (⟨(stepTx ⟨nm, sn, at_⟩).toArray⟩ : ByteArray).size = (stepTx ⟨nm, sn, at_⟩).length := by show (List.toArray _).size = _; simp
      have HSD : Hid ((⟨(stepTx ⟨nm, sn, at_⟩).toArray⟩ : ByteArray).data.toList = stepTx ⟨nm, sn, at_⟩) := Lib.hid (by simp)
      generalize (⟨(stepTx ⟨nm, sn, at_⟩).toArray⟩ : ByteArray) = X at *
      have hcat : ¬ 9223372036854775807 < T.size + X.size := by omega
      go_wp2_with (first | (refine hst.mono ?_; clear hst; rintro e w2 ⟨rfl, hm2⟩; have HM2 : Hid (New w w2) := Lib.hid (HM1.out.trans hm2); clear hm2))
      go_roundw
      case rel => exact ⟨k + 1, T ++ X, by omega, by go_num, rfl, Lib.hid (by rw [HTK.out, ByteArray.data_append, Array.toList_append, HT.out, HSD.out]), by rw [ByteArray.size_append]; omega, HM2⟩
      case measure => simp [intOf]; omega
    · obtain rfl : n = k := by omega
      have HE : Hid (T.data.toList = pathTx l) := Lib.hid (by rw [HT.out, List.take_of_length_le (by have := HL.out; omega)])
      go_wp2_with fail
      go_ret
      exact ⟨by rw [← HE.out, mkList]; rfl, HM.out⟩
set_option maxRecDepth 100000 in
set_option maxHeartbeats 700000 in
theorem val_pathText (A : Option Addr) (n c : Nat) (l : List St) (w : World) (hs : Sl w 46 3 St.enc A n l) (hn : n ≤ 200000) (hok : StOk l) (hU : Utf8T w) (hP : Pow10 w) :
    Calls Tryz.prog 11 #[.slice A n c] w fun e w' => ∃ T, e = .returned (.tuple #[.string T, .int .i64 (pathF l)]) ∧ (pathF l = 0 → T = ⟨(pathTx l).toArray⟩) ∧ New w w' := by
  have hcp := checkPath_v A n c l w hs hn hok hU
  by_cases h0 : pathF l = 0
  rotate_left
  · generalize pathF l = F at *
    have h0' : ((F : Int) != 0) = true := by simpa using h0
    go_enter Tryz.func11, Tryz.ntmps11
    go_wp2_with (first | (refine hcp.mono ?_; clear hcp; rintro e w2 ⟨rfl, hm2⟩; have hm2 := Lib.hid hm2))
    go_ret2
    exact ⟨_, rfl, fun h => absurd h h0, hm2.out⟩
  · obtain ⟨h50, hf⟩ := pathF_fit h0
    rw [h0] at hcp ⊢
    have HS := Lib.hid hs
    have HL := Lib.hid hs.1
    have HFT := Lib.hid hf
    have HP := Lib.hid hP
    have hn50 : n ≤ 50 := by have := hs.1; omega
    clear hs hf hP hU hok h0 h50
    go_enter Tryz.func11, Tryz.ntmps11
    go_wp2_with (fail)
    refine hcp.mono ?_
    clear hcp
    rintro e w1 ⟨rfl, hm1⟩
    have HM1 := Lib.hid hm1
    have hb := Blk.new w1 78 #[.pointer none, .slice none 0 0]
    have hm2 : New w1 (w1.alloc (.cells #[.pointer none, .slice none 0 0] 78)) := (Mod.refl _ _).alloc _
    go_upto_region 5 with fail
    have HB0 : Hid (Bw 78 w1.heap.size w1.heap.size [] _) := Lib.hid (Bw.fresh hb (Nat.le_refl _))
    have HM0 : Hid (Mod (fun k => w1.heap.size ≤ k) w1 _) := Lib.hid (hm2.mono (fun _ _ e => e.elim))
    clear hb hm2 hm1
    generalize w1.alloc (.cells #[.pointer none, .slice none 0 0] 78) = w2 at *
    go_wp2_with fail
    go_loopw [15] (fun i wr => ∃ (k : Nat), k ≤ n ∧ i = .int .i64 k ∧ Hid (Bw 78 w1.heap.size w1.heap.size (pathTx (l.take k)) wr) ∧ Hid ((pathTx (l.take k)).length ≤ 700 * k) ∧ Hid (Mod (fun k => w1.heap.size ≤ k) w1 wr)) (fun i _ => n - (intOf i).toNat)
    case atStart => exact ⟨0, Nat.zero_le _, rfl, HB0, Lib.hid (Nat.le_refl _), HM0⟩
    case round =>
      clear HB0 HM0
      rename World => wr
      obtain ⟨k, hk, rfl, HB, HTZ, HMR⟩ := hrel
      have HNW : Hid (New w wr) := Lib.hid (HM1.out.step HMR.out (fun i hi e => by have := HM1.out.size; omega))
      by_cases hlt : k < n
      · have hkl : k < l.length := by have := HL.out; omega
        have HM := HNW
        obtain ⟨g, o, hA, htb, hc⟩ := (HS.out.new HM.out).2 (by omega)
        subst hA
        have hgl := htb.lt
        have c0 := hc k hkl 0 (by decide)
        have c1 := hc k hkl 1 (by decide)
        have c2 := hc k hkl 2 (by decide)
        simp only [St.enc, Nat.add_zero] at c0 c1 c2
        have hft := HFT.out _ (List.getElem_mem hkl)
        have HTK := Lib.hid (pathTx_take hkl)
        have hz := stepTx_len _ hft.1 hft.2
        have hb1 : (0 : Int) ≤ k := by omega
        have hb2 : (k : Int) < n := by omega
        clear hc htb
        generalize l[k] = st at *
        obtain ⟨nm, sn, at_⟩ := st
        simp only at c0 c1 c2 hft
        have hx := Blk.new wr 46 #[.bool nm, .string sn, .int .i64 at_]
        have hmx : New wr (wr.alloc (.cells #[.bool nm, .string sn, .int .i64 at_] 46)) := (Mod.refl _ _).alloc _
        go_upto_region 8 with fail
        have HMA := Lib.hid (HMR.out.trans (hmx.mono (fun _ _ e => e.elim)))
        have HNA := Lib.hid (HNW.out.trans hmx)
        have HBA := Lib.hid (HB.out.new hmx)
        have e0 := hx.cell 0
        have e1 := hx.cell 1
        have e2 := hx.cell 2
        have el := hx.lt
        simp only [List.getElem?_toArray, List.getElem?_cons_zero, List.getElem?_cons_succ] at e0 e1 e2
        clear hx hmx HM HNW HMR HB c0 c1 c2 hgl
        generalize wr.alloc (.cells #[.bool nm, .string sn, .int .i64 at_] 46) = wa at *
        generalize wr.heap.size = xb at *
        have hst := val_stepText ⟨nm, sn, at_⟩ wa (by simp only; omega) hft.2 (HP.out.new HNA.out)
        have hsz : (⟨(stepTx ⟨nm, sn, at_⟩).toArray⟩ : ByteArray).size = (stepTx ⟨nm, sn, at_⟩).length := by show (List.toArray _).size = _; simp
        have HSD : Hid ((⟨(stepTx ⟨nm, sn, at_⟩).toArray⟩ : ByteArray).data.toList = stepTx ⟨nm, sn, at_⟩) := Lib.hid (by simp)
        generalize (⟨(stepTx ⟨nm, sn, at_⟩).toArray⟩ : ByteArray) = X at *
        go_wp2_with fail
        refine hst.mono ?_
        clear hst e0 e1 e2 el
        rintro e w4 ⟨rfl, hm4⟩
        have HM4 := Lib.hid (HMA.out.trans (hm4.mono (fun _ _ e => e.elim)))
        have HB4 := Lib.hid (HBA.out.new hm4)
        have hwr := bw_string buT_self w1.heap.size w1.heap.size _ X w4 HB4.out (by have := HTZ.out; omega)
        clear hm4
        go_wp2_with fail
        refine hwr.mono ?_
        clear hwr
        rintro e w5 ⟨rfl, hb5, hm5, -⟩
        have HM5 := Lib.hid (HM4.out.trans hm5)
        have HB5 : Hid (Bw 78 w1.heap.size w1.heap.size (pathTx (l.take (k + 1))) w5) := Lib.hid (by rw [HTK.out, ← HSD.out]; exact hb5)
        have HZ5 : Hid ((pathTx (l.take (k + 1))).length ≤ 700 * (k + 1)) := Lib.hid (by rw [HTK.out, List.length_append]; have := HTZ.out; omega)
        clear hb5 hm5
        go_wp2_with fail
        go_roundw
        case rel => exact ⟨k + 1, by omega, by go_num, HB5, HZ5, HM5⟩
        case measure => simp [intOf]; omega
      · obtain rfl : n = k := by omega
        have HE : Hid (Bw 78 w1.heap.size w1.heap.size (pathTx l) wr) := Lib.hid (by have h := HB.out; rwa [List.take_of_length_le (by have := HL.out; omega)] at h)
        have hgv := Tryz.Builder_String_any w1.heap.size w1.heap.size (pathTx l) wr HE.out (by have := HMR.out.size; omega)
        go_wp2_with (first | (refine hgv.mono ?_; clear hgv; rintro e w6 ⟨rfl, hm6⟩; have HM6 := Lib.hid hm6; clear hm6))
        go_ret2
        exact ⟨_, rfl, fun _ => rfl, HM1.out.step (HMR.out.trans (Mod.of_belowB HM6.out)) (fun i hi e => by have := HM1.out.size; omega)⟩

end Go.Proofs.YtpgcbehpknghdaaGreatDoor

namespace Go.Proofs.YtpgcbehpknghdaaGreatDoor
open Go.RowKit
set_option linter.unusedVariables false
set_option linter.unusedSimpArgs false

theorem encode_size (n : Int) : (Utf8.encode n).size ≤ 4 := by
  unfold Utf8.encode
  simp only
  repeat' split
  all_goals (first | decide | (show _ ≤ 4; simp [ByteArray.size]))
theorem encode_wrap (c : UInt8) : IntKind.i32.wrap (c.toNat : Int) = c.toNat := by
  have := c.toNat_lt
  simp [IntKind.wrap, IntKind.signed, IntKind.bits]
  omega
set_option maxRecDepth 100000 in
set_option maxHeartbeats 2000000 in
theorem changed_with (b k : Nat) (t : ByteArray) (w : World) (hs : SInv b w k) (hk : k < 4611686018427000000) (ht : t.size ≤ 100000) (wt : ByteArray) (hw0 : 0 < wt.size) (hw : wt.size ≤ 100) :
    Calls Tryz.prog 34 #[.pointer (some ⟨b, 0, none⟩), .string t, .string wt] w (RStr fun m w' => m.size ≤ t.size + wt.size + 8 ∧ SStep b w w' (k + 3)) := by
  have hb := hs.lt
  have hwe : (wt.toList == []) = false := by
    rw [ByteArray.toList_eq]
    simp only [beq_eq_false_iff_ne, ne_eq]
    intro h
    have : wt.data.toList.length = 0 := by rw [h]; rfl
    have e : wt.data.toList.length = wt.size := rfl
    omega
  by_cases he : t = ⟨#[]⟩
  · have he' : (t.toList == []) = true := by rw [he, ByteArray.toList_eq]; rfl
    clear he
    go_enter Tryz.func34, Tryz.ntmps34
    go_wp2_with fail
    go_ret
    exact ⟨wt, rfl, by omega, (SStep.refl hs).more (by omega)⟩
  · have he' : (t.toList == []) = false := by
      rw [ByteArray.toList_eq]
      simp only [beq_eq_false_iff_ne, ne_eq]
      intro h
      exact he (ByteArray.ext (Array.toList_inj.mp h))
    have hpos : 1 ≤ t.size := by
      rcases Nat.eq_zero_or_pos t.size with h | h
      · exact absurd (ByteArray.ext (Array.eq_empty_of_size_eq_zero h)) he
      · exact h
    clear he
    go_enter Tryz.func34, Tryz.ntmps34
    go_wp2_with fail
    refine (next_any b k t.size w hs (by omega) (by omega) (by omega)).mono ?_
    rintro e w1 ⟨i, rfl, hi0, hi1, h1⟩
    go_wp2_with fail
    refine (next_any b _ wt.size w1 h1.inv (by omega) (by omega) (by omega)).mono ?_
    rintro e w2 ⟨j, rfl, hj0, hj1, h2⟩
    obtain ⟨i, rfl⟩ := Int.eq_ofNat_of_zero_le hi0
    obtain ⟨j, rfl⟩ := Int.eq_ofNat_of_zero_le hj0
    have hj2 : j < wt.size := by omega
    go_wp2_with fail
    refine (next_any b _ 3 w2 h2.inv (by omega) (by omega) (by omega)).mono ?_
    rintro e w3 ⟨m, rfl, hm0, hm1, h3⟩
    have h13 := (h1.trans h2).trans h3
    have hew := encode_wrap wt[j]
    have hes := encode_size (wt[j].toNat : Int)
    generalize wt[j]'hj2 = c at hew hes ⊢
    have hi2 : i < t.size := by omega
    have e1 : (t.extract 0 i).size = i := by simp only [ByteArray.size_extract]; omega
    have e2 : (t.extract (i + 1) t.size).size = t.size - (i + 1) := by simp only [ByteArray.size_extract]; omega
    have e3 : (t.extract i t.size).size = t.size - i := by simp only [ByteArray.size_extract]; omega
    have E1 := Lib.hid e1
    have E2 := Lib.hid e2
    have E3 := Lib.hid e3
    clear e1 e2 e3 h1 h2 h3
    obtain rfl | rfl | rfl : m = 0 ∨ m = 1 ∨ m = 2 := by omega
    · go_wp2_with fail
      go_quiet (fail)
      go_wp2_with fail
      go_ret
      refine ⟨_, rfl, ?_, (h13.drewN _).more (by omega)⟩
      simp only [ByteArray.size_append, E1.out, E2.out]
      omega
    · go_wp2_with fail
      go_quiet (fail)
      go_wp2_with fail
      go_ret
      refine ⟨_, rfl, ?_, (h13.drewN _).more (by omega)⟩
      simp only [ByteArray.size_append, E1.out, E3.out]
      omega
    · go_wp2_with fail
      go_quiet (fail)
      go_wp2_with fail
      go_ret
      refine ⟨_, rfl, ?_, (h13.drewN _).more (by omega)⟩
      simp only [ByteArray.size_append, E1.out, E2.out]
      omega

end Go.Proofs.YtpgcbehpknghdaaGreatDoor

namespace Go.Proofs.YtpgcbehpknghdaaGreatDoor
open Go.RowKit
set_option linter.unusedVariables false
set_option linter.unusedSimpArgs false

theorem stepTx_le {s : St} (h : I64 s.at_) : (stepTx s).length ≤ 6 * s.name.size + 30 := by
  have h1 := Lib.itoa_length_le s.at_ h.1 h.2
  have h2 := quoteL_length s.name.data.toList
  have h3 : s.name.data.toList.length = s.name.size := rfl
  unfold stepTx
  split
  · simp only [List.length_cons, List.length_append, List.length_nil]; omega
  · split
    · simp only [List.length_cons]; omega
    · simp only [List.length_cons, List.length_append, List.length_nil]; omega
set_option maxRecDepth 100000 in
set_option maxHeartbeats 4000000 in
theorem pathString_any (b k : Nat) (w w0 : World) (hs : SInv b w k) (hk : k < 4611686018425000000) (h0 : Pow10 w0) (hb0 : w0.heap.size ≤ b) (hT : Pow10 w) :
    Calls Tryz.prog 5 #[.pointer (some ⟨b, 0, none⟩)] w (RStr fun m w' => m.size ≤ 1000 ∧ SStep b w w' (k + 20)) := by
  have hb := hs.lt
  go_enter Tryz.func5, Tryz.ntmps5
  go_wp2_with fail
  refine (flip_any b k 4 w hs (by omega) (by omega) (by omega)).mono ?_
  rintro e w1 ⟨bo, rfl, h1⟩
  cases bo with
  | true =>
    go_wp2_with fail
    refine (some_any [⟨#[]⟩, ⟨#[46]⟩, ⟨#[97]⟩, ⟨#[46, 97, 46]⟩, ⟨#[91]⟩, ⟨#[91, 93]⟩, ⟨#[91, 48, 49, 93]⟩, ⟨#[91, 45, 49, 93]⟩, ⟨#[91, 34, 97, 34, 93]⟩, ⟨#[91, 34, 97, 32, 98, 34, 93]⟩, ⟨#[46, 49, 97]⟩, ⟨#[91, 49]⟩, ⟨#[91, 34, 97, 32, 98, 34]⟩, ⟨#[91, 53, 48, 48, 48, 93]⟩, ⟨#[91, 53, 48, 48, 49, 93]⟩, ⟨#[91, 57, 57, 57, 57, 57, 57, 57, 57, 57, 57, 93]⟩, ⟨#[91, 34, 92, 117, 48, 48, 48, 49, 34, 93]⟩, ⟨#[91, 34, 92, 117, 48, 48, 52, 49, 32, 34, 93]⟩] b _ w1.heap.size 18 _ (h1.alloc _).inv (by omega) (Blk.new _ _ _) rfl (by omega) (by omega)).mono ?_
    rintro e w2 ⟨m, rfl, hm, h2⟩
    have hms : m.size ≤ 1000 := by
      simp only [List.mem_cons, List.not_mem_nil, or_false] at hm
      rcases hm with rfl | rfl | rfl | rfl | rfl | rfl | rfl | rfl | rfl | rfl | rfl | rfl | rfl | rfl | rfl | rfl | rfl | rfl <;> decide
    clear hm
    have T2 := Lib.hid (((h1.alloc _).trans h2).more (show k + 1 + 1 ≤ k + 20 by omega))
    clear h1 h2
    go_wp2_with fail
    go_ret
    exact ⟨m, rfl, hms, T2.out⟩
  | false =>
    go_wp2_with fail
    refine (some_any [⟨#[97]⟩, ⟨#[99, 32, 100]⟩, ⟨#[]⟩] b _ w1.heap.size 3 _ (h1.alloc _).inv (by omega) (Blk.new _ _ _) rfl (by omega) (by omega)).mono ?_
    rintro e w2 ⟨a, rfl, hm, h2⟩
    have has : a.size ≤ 3 := by
      simp only [List.mem_cons, List.not_mem_nil, or_false] at hm
      rcases hm with rfl | rfl | rfl <;> decide
    have T2 := (h1.alloc _).trans h2
    clear hm h1 h2
    go_wp2_with fail
    refine (next_any b _ 20 w2 T2.inv (by omega) (by omega) (by omega)).mono ?_
    rintro e w3 ⟨n, rfl, y0, y1, h3⟩
    have T3 := T2.trans h3
    clear T2 h3
    have hbk := Blk.new w3 46 #[.bool true, .string a, .int .i64 0, .bool false, .string ⟨#[]⟩, .int .i64 n]
    have hown : Own (w3.alloc (.cells #[.bool true, .string a, .int .i64 0, .bool false, .string ⟨#[]⟩, .int .i64 n] 46)) w3.heap.size 46 3 St.enc (some ⟨w3.heap.size, 0, none⟩) 2 2 [(⟨true, a, 0⟩ : St), (⟨false, ⟨#[]⟩, n⟩ : St)] := Own.of_blk (xs := [(⟨true, a, 0⟩ : St), (⟨false, ⟨#[]⟩, n⟩ : St)]) hbk (Nat.le_refl _) rfl (by omega)
    have TX := T3.alloc (.cells #[.bool true, .string a, .int .i64 0, .bool false, .string ⟨#[]⟩, .int .i64 n] 46)
    have hpl := ref_pathLine _ 2 2 _ _ hown.sl (by omega) (by
      intro s hs
      simp only [List.mem_cons, List.not_mem_nil, or_false] at hs
      rcases hs with rfl | rfl
      · exact ⟨by show a.size ≤ 100; omega, by unfold I64; show _ ≤ (0 : Int) ∧ (0 : Int) ≤ _; omega⟩
      · exact ⟨by show (⟨#[]⟩ : ByteArray).size ≤ 100; decide, by unfold I64; show _ ≤ n ∧ n ≤ _; omega⟩) (h0.mod hT TX.only (fun g hg e => by omega))
    have hlen : (⟨(pathTx [(⟨true, a, 0⟩ : St), (⟨false, ⟨#[]⟩, n⟩ : St)]).toArray⟩ : ByteArray).size ≤ 200 := by
      have e1 : (⟨(pathTx [(⟨true, a, 0⟩ : St), (⟨false, ⟨#[]⟩, n⟩ : St)]).toArray⟩ : ByteArray).size = (pathTx [(⟨true, a, 0⟩ : St), (⟨false, ⟨#[]⟩, n⟩ : St)]).length := by simp [ByteArray.size]
      have e2 : pathTx [(⟨true, a, 0⟩ : St), (⟨false, ⟨#[]⟩, n⟩ : St)] = stepTx ⟨true, a, 0⟩ ++ stepTx ⟨false, ⟨#[]⟩, n⟩ := by simp [pathTx]
      have e3 := stepTx_le (s := ⟨true, a, 0⟩) (by unfold I64; show _ ≤ (0 : Int) ∧ (0 : Int) ≤ _; omega)
      have e4 := stepTx_le (s := ⟨false, ⟨#[]⟩, n⟩) (by unfold I64; show _ ≤ n ∧ n ≤ _; omega)
      have e5 : (⟨#[]⟩ : ByteArray).size = 0 := rfl
      simp only at e3 e4
      rw [e1, e2, List.length_append]
      omega
    generalize (⟨(pathTx [(⟨true, a, 0⟩ : St), (⟨false, ⟨#[]⟩, n⟩ : St)]).toArray⟩ : ByteArray) = t at *
    clear hbk hown T3
    go_wp2_with fail
    refine hpl.mono ?_
    clear hpl
    rintro e w4 ⟨rfl, m4⟩
    have HX := TX.new m4
    clear TX m4
    go_wp2_with fail
    refine (pick_any [0, 0, 1] b _ w4.heap.size 3 _ (HX.alloc _).inv (by omega) (Blk.new _ _ _) rfl (by omega) (by omega)).mono ?_
    rintro e w5 ⟨n, rfl, mn, h4⟩
    have hn : 0 ≤ n ∧ n ≤ 1 := by simp at mn; omega
    obtain ⟨n, rfl⟩ := Int.eq_ofNat_of_zero_le hn.1
    have T4 := (HX.alloc _).trans h4
    clear HX h4 mn
    go_wp2_with fail
    go_loopw [3, 21] (fun s i wr => ∃ (j : Nat) (t : ByteArray), j ≤ n ∧ i = .int .i64 j ∧ s = .string t ∧ t.size ≤ 200 + 20 * j ∧ Hid (SStep b w wr (k + 10 + 3 * j))) (fun _ i _ => n - (intOf i).toNat)
    case atStart => exact ⟨0, t, Nat.zero_le _, rfl, rfl, by omega, Lib.hid (T4.more (by omega))⟩
    case round =>
      rename World => wr
      obtain ⟨j, t', hj, rfl, rfl, hsz, HST⟩ := hrel
      by_cases hlt : j < n
      · have hch := changed_with b _ t' wr HST.out.inv (by omega) (by omega) ⟨#[46, 91, 93, 34, 97, 49, 32]⟩ (by decide) (by decide)
        go_wp2_with fail
        refine hch.mono ?_
        clear hch
        rintro e w5 ⟨m, rfl, hm, h5⟩
        have h7 : (⟨#[46, 91, 93, 34, 97, 49, 32]⟩ : ByteArray).size = 7 := rfl
        rw [h7] at hm
        have HS5 := Lib.hid ((HST.out.trans h5).more (show k + 10 + 3 * j + 3 ≤ k + 10 + 3 * (j + 1) by omega))
        clear h5
        go_wp2_with fail
        exact ⟨⟨j + 1, m, by omega, by go_num, rfl, by omega, HS5⟩, by simp [intOf]; omega⟩
      · obtain rfl : j = n := by omega
        go_wp2_with fail
        go_ret
        exact ⟨t', rfl, by omega, HST.out.more (by omega)⟩

end Go.Proofs.YtpgcbehpknghdaaGreatDoor
