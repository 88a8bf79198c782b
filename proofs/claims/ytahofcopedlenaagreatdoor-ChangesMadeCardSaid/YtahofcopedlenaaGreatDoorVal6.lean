/- What is wrong with a value: the reference's names. Conditions: names of modest size. -/
import Derived.Test.YtahofcopedlenaaGreatDoorVal4
namespace Go.Proofs.YtahofcopedlenaaGreatDoor
open Go.RowKit
set_option linter.unusedVariables false
set_option linter.unusedSimpArgs false

def strE (s : ByteArray) (_ : Nat) : Value := .string s
theorem einfo_string : EInfo Tryz.prog 9 1 16 := EInfo.of (z := .string ⟨#[]⟩) (by kernel_rfl) rfl (by decide)
theorem getD_of_get {l : List ByteArray} {k : Nat} (h : k < l.length) : l.getD k ByteArray.empty = l[k] := by simp [h]
set_option maxRecDepth 100000 in
set_option maxHeartbeats 4000000 in
theorem namesFault_v (A : Option Addr) (n c : Nat) (l : List ByteArray) (w : World) (hs : Sl w 9 1 strE A n l) (hn : n ≤ 200000) (hsz : ∀ s ∈ l, s.size ≤ 1000000) (hU : Utf8T w) :
    Calls Tryz.prog 71 #[.slice A n c] w fun e w' => e = .returned (.int .i64 (namesF l)) ∧ New w w' := by
  obtain ⟨F, hF⟩ : ∃ F, F = namesF l := ⟨_, rfl⟩
  rw [← hF]
  have HF := Lib.hid hF
  have HL := Lib.hid hs.1
  have HS := Lib.hid hs
  have HSZ := Lib.hid hsz
  have HU := Lib.hid hU
  clear hF hs hsz hU
  go_enter Tryz.func71, Tryz.ntmps71
  go_wp2_with fail
  go_loopw [8] (fun i wr => ∃ k : Nat, k ≤ n ∧ i = .int .i64 k ∧ Hid (fz ((List.range k).map (nameAt l)) = 0) ∧ Hid (New w wr)) (fun i _ => n - (intOf i).toNat)
  case atStart => exact ⟨0, Nat.zero_le _, rfl, Lib.hid rfl, Lib.hid (Mod.refl _ _)⟩
  case round =>
    rename World => wr
    obtain ⟨k, hk, rfl, H0, HM⟩ := hrel
    by_cases hlt : k < n
    · have hkl : k < l.length := by have := HL.out; omega
      obtain ⟨g, o, hA, htb, hc⟩ := (HS.out.new HM.out).2 (by omega)
      subst hA
      have hgl := htb.lt
      have ck : wr.cell? ⟨g, o + k, none⟩ = some (.string l[k]) := by simpa [strE] using hc k hkl 0 (by omega)
      have HPREV : Hid (0 < k → ∀ w', New wr w' → w'.cell? ⟨g, o + (k - 1), none⟩ = some (.string (l.getD (k - 1) ByteArray.empty))) := Lib.hid (fun h0 w' hm => by
        have h1 : k - 1 < l.length := by omega
        rw [getD_of_get h1]
        exact (hm.cell (p := ⟨g, o + (k - 1), none⟩) hgl (fun e => e)).trans (by simpa [strE] using hc (k - 1) h1 0 (by omega)))
      have hnb := HSZ.out l[k] (List.getElem_mem _)
      have HE := Lib.hid (nameAt_eq (l := l) (k := k) (s := l[k]) (by simp [hkl]) _ (fun _ => rfl))
      have HSTOP : Hid (∀ f, nameAt l k = f → f ≠ 0 → F = f) := Lib.hid (fun f h1 h2 => by
        rw [HF.out, names_stop hkl H0.out (by rw [h1]; exact h2), h1])
      have HNEXT : Hid (nameAt l k = 0 → fz ((List.range (k + 1)).map (nameAt l)) = 0) := Lib.hid (fun h => by rw [names_next H0.out, h])
      generalize l.getD (k - 1) ByteArray.empty = p at *
      generalize hnm : l[k] = nm at *
      have hb1 : (0 : Int) ≤ k := by omega
      have hb2 : (k : Int) < n := by omega
      have hn2 := ref_nameFault_v nm wr hnb (HU.out.new HM.out)
      clear hc hnm htb hnb
      go_wp2_with fail
      refine hn2.mono ?_
      clear hn2
      rintro e w5 ⟨rfl, m5⟩
      have HM5 := Lib.hid (HM.out.trans m5)
      have hg5 : g < w5.heap.size := Nat.lt_of_lt_of_le hgl m5.size
      have hcp : 0 < k → w5.cell? ⟨g, o + (k - 1), none⟩ = some (.string p) := fun h => HPREV.out h w5 m5
      clear ck hgl m5 HPREV
      by_cases hn0 : nameF nm = 0
      · rw [hn0]
        have HE2 : Hid (nameAt l k = if 0 < k ∧ strLeV nm p = true then 7 else 0) := Lib.hid (by rw [HE.out, if_neg (by simp [hn0])])
        clear hn0 HE
        by_cases h0 : 0 < k
        · have hp2 := hcp h0
          have hb3 : (0 : Int) < k := by omega
          have hb4 : (0 : Int) ≤ (k : Int) - 1 := by omega
          have hb5 : (k : Int) - 1 < n := by omega
          have H0K := Lib.hid h0
          clear hcp
          go_upto_if 28 with (fail)
          have HE3 : Hid (nameAt l k = if 0 < k ∧ (Op.bytesLess nm.toList p.toList || nm.toList == p.toList) = true then 7 else 0) := HE2
          generalize (Op.bytesLess nm.toList p.toList || nm.toList == p.toList) = B at *
          cases B with
          | true =>
            have HFF := Lib.hid (HSTOP.out 7 (by rw [HE3.out, if_pos ⟨H0K.out, rfl⟩]) (by decide))
            go_wp2_with fail
            go_ret
            exact ⟨ret_int HFF.out.symm, HM5.out⟩
          | false =>
            have HG := Lib.hid (HNEXT.out (by rw [HE3.out, if_neg (by simp)]))
            go_wp2_with fail
            go_roundw
            case rel => exact ⟨k + 1, by omega, by go_num, HG, HM5⟩
            case measure => simp [intOf]; omega
        · obtain rfl : k = 0 := by omega
          have hd : decide ((0 : Int) < ((0 : Nat) : Int)) = false := by simp
          have HG := Lib.hid (HNEXT.out (by rw [HE2.out]; simp))
          go_wp2_with fail
          go_roundw
          case rel => exact ⟨0 + 1, by omega, by go_num, HG, HM5⟩
          case measure => simp [intOf]; omega
      · have hn1 : (nameF nm != 0) = true := by simpa using hn0
        have HFF := Lib.hid (HSTOP.out (nameF nm) (by rw [HE.out, if_pos hn0]) hn0)
        clear hn0 HE
        generalize nameF nm = nf at *
        go_wp2_with fail
        go_ret
        exact ⟨ret_int HFF.out.symm, HM5.out⟩
    · obtain rfl : k = n := by omega
      have HFF : Hid (F = 0) := Lib.hid (by rw [HF.out]; unfold namesF; rw [HL.out]; exact H0.out)
      clear H0
      go_wp2_with fail
      go_ret
      exact ⟨ret_int HFF.out.symm, HM.out⟩

end Go.Proofs.YtahofcopedlenaaGreatDoor
