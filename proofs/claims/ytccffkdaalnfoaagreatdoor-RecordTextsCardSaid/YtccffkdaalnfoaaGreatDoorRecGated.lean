/- gated() of gates.go: gate.Read of one constant line. Conditions: the library's variables lie as they should. -/
import Derived.Test.YtccffkdaalnfoaaGreatDoorRec9
namespace Go.Proofs.YtccffkdaalnfoaaGreatDoor
open Go.RowKit
set_option linter.unusedVariables false
set_option linter.unusedSimpArgs false

abbrev gline : ByteArray := ⟨#[53, 32, 114, 32, 45, 32, 45, 32, 45, 32, 50, 48, 48, 32, 48]⟩
abbrev gtext : ByteArray := ⟨#[53, 32, 114, 32, 45, 32, 45, 32, 45, 32, 50, 48, 48, 32, 48, 10]⟩
theorem recsFault_one (r : RecD) : recsFault [r] = recSelf r := by
  unfold recsFault
  rw [if_neg (by simp)]
  have h := recAt_eq (rs := [r]) (k := 0) (r := r) rfl 0 (fun h => absurd h (by decide))
  have h2 : recAt [r] 0 = recSelf r := by
    rw [h]
    split
    · rfl
    · rename_i hq
      rw [if_neg (by simp)]
      exact (Decidable.not_not.1 hq).symm
  show firstFault (recAt [r]) 1 = recSelf r
  unfold firstFault
  rw [h2]
  rfl
theorem takeR_g : takeR gline = some ⟨5, ⟨#[114]⟩, ⟨#[]⟩, ⟨#[]⟩, ⟨#[]⟩, 200, 0⟩ := by
  have h1 : pieces gline sp = [⟨#[53]⟩, ⟨#[114]⟩, ⟨#[45]⟩, ⟨#[45]⟩, ⟨#[45]⟩, ⟨#[50, 48, 48]⟩, ⟨#[48]⟩] := by decide +kernel
  unfold takeR
  rw [h1, takeRW_seven, if_pos (by decide +kernel)]
  have e1 : numV ⟨#[53]⟩ = 5 := by decide +kernel
  have e2 : numV ⟨#[50, 48, 48]⟩ = 200 := by decide +kernel
  have e3 : numV ⟨#[48]⟩ = 0 := by decide +kernel
  have e4 : undash ⟨#[45]⟩ = ⟨#[]⟩ := by decide +kernel
  have e5 : undash ⟨#[114]⟩ = ⟨#[114]⟩ := by decide +kernel
  rw [e1, e2, e3, e4, e5]
theorem readRF_g : readRF gtext = ([⟨5, ⟨#[114]⟩, ⟨#[]⟩, ⟨#[]⟩, ⟨#[]⟩, 200, 0⟩], 0, 0) := by
  have h1 : pieces gtext nl = [gline, ⟨#[]⟩] := by decide +kernel
  have h2 : readG takeR (pieces gtext nl) [] 0 = ([⟨5, ⟨#[114]⟩, ⟨#[]⟩, ⟨#[]⟩, ⟨#[]⟩, 200, 0⟩], 0, true) := by
    rw [h1, readG_good (by simp) takeR_g, readG_last, if_pos rfl]
    rfl
  have h3 : recSelf ⟨5, ⟨#[114]⟩, ⟨#[]⟩, ⟨#[]⟩, ⟨#[]⟩, 200, 0⟩ = 0 := by decide +kernel
  exact readRF_good h2 (by rw [recsFault_one, h3])
set_option maxRecDepth 100000 in
set_option maxHeartbeats 2000000 in
theorem gated_true (w : World) (hX : MaxLn w) : Calls Tryz.prog 13 #[] w fun e w' => e = .returned (.bool true) ∧ New w w' := by
  have hrd := gate_read gtext w (by decide) hX
  unfold RRecRead at hrd
  rw [readRF_g] at hrd
  go_enter Tryz.func13, Tryz.ntmps13
  go_wp2_with fail
  refine hrd.mono ?_
  clear hrd
  rintro e w1 ⟨A, n, c, rfl, hrr, m1⟩
  obtain rfl : n = 1 := hrr.1.symm
  obtain ⟨g, o, hA, htb, hc⟩ := hrr.2 (by omega)
  subst hA
  have c1 := hc 0 (by simp) 1 (by omega)
  have hgl := htb.lt
  simp [RecD.enc] at c1
  clear hc hrr
  go_wp2_with fail
  go_ret
  exact ⟨rfl, m1⟩

end Go.Proofs.YtccffkdaalnfoaaGreatDoor
