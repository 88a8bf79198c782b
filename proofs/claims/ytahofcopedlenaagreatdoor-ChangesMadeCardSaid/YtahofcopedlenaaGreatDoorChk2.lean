/- Changes in memory: what is wrong with a row of them, in both. Conditions: values and paths that the walks can carry; the library's tables lie as they should. -/
import Derived.Test.YtahofcopedlenaaGreatDoorChk
namespace Go.Proofs.YtahofcopedlenaaGreatDoor
open Go.RowKit
set_option linter.unusedVariables false
set_option linter.unusedSimpArgs false

/-- changes that stand in a row -/
def ChRow (w : World) (D : Nat) (A : Option Addr) (n : Nat) (xs : List ChD) : Prop := ∃ cs : List CA, Sl w 57 8 CA.enc A n cs ∧ cs.length = xs.length ∧ ∀ i (h : i < cs.length) (h' : i < xs.length), ChT w D cs[i] xs[i]
theorem ChRow.new {w w' : World} {D n : Nat} {A : Option Addr} {xs : List ChD} (h : ChRow w D A n xs) (hm : New w w') : ChRow w' D A n xs := by
  obtain ⟨cs, h1, h2, h3⟩ := h
  exact ⟨cs, h1.new hm, h2, fun i a b => (h3 i a b).new hm⟩

set_option maxRecDepth 100000 in
set_option maxHeartbeats 1500000 in
theorem checkChanges_v (d : Nat) (A : Option Addr) (n c : Nat) (xs : List ChD) (w : World) (hr : ChRow w (d + 1) A n xs) (hn : n ≤ 200000) (hf : ∀ x ∈ xs, CFit (d + 1) x) (hU : Utf8T w) :
    Calls Tryz.prog 9 #[.slice A n c] w fun e w' => e = .returned (.int .i64 (chgsF (d + 1) xs)) ∧ New w w' := by
  obtain ⟨cs, hs, hcx, ht⟩ := hr
  have hl := hs.1
  by_cases h50 : 5000 < n
  · have hF : chgsF (d + 1) xs = 2 := by unfold chgsF; rw [if_pos (by omega)]
    rw [hF]
    have h50' : (5000 : Int) < n := by omega
    go_enter Tryz.func9, Tryz.ntmps9
    go_wp2_with fail
    go_ret
    exact ⟨rfl, Mod.refl _ _⟩
  have hF : chgsF (d + 1) xs = fz (xs.map (chgF (d + 1))) := by unfold chgsF; rw [if_neg (by omega)]
  have h50' : ¬ (5000 : Int) < n := by omega
  generalize chgsF (d + 1) xs = F at *
  have HF := Lib.hid hF
  have HL := Lib.hid hl
  have HCX := Lib.hid hcx
  have HS := Lib.hid hs
  have HT := Lib.hid ht
  have HFI := Lib.hid hf
  have HU := Lib.hid hU
  clear hF hs hU hl ht hf hcx
  go_enter Tryz.func9, Tryz.ntmps9
  go_wp2_with fail
  go_loopw [11] (fun i wr => ∃ k : Nat, k ≤ n ∧ i = .int .i64 k ∧ Hid (fz ((xs.take k).map (chgF (d + 1))) = 0) ∧ Hid (New w wr)) (fun i _ => n - (intOf i).toNat)
  case atStart => exact ⟨0, Nat.zero_le _, rfl, Lib.hid rfl, Lib.hid (Mod.refl _ _)⟩
  case round =>
    rename World => wr
    obtain ⟨k, hk, rfl, H0, HM⟩ := hrel
    by_cases hlt : k < n
    · have hkl : k < cs.length := by have := HL.out; omega
      have hkx : k < xs.length := by have := HL.out; have := HCX.out; omega
      obtain ⟨g, o, hA, htb, hc0⟩ := (HS.out.new HM.out).2 (by omega)
      subst hA
      have hgl := htb.lt
      have hc := fun j h => hc0 k hkl j h
      clear hc0
      have hcall := fun W (hm : New wr W) => changeFault_v d cs[k] xs[k] W (((HT.out k hkl hkx).new HM.out).new hm) (HFI.out _ (List.getElem_mem hkx)) ((HU.out.new HM.out).new hm)
      have HST : Hid (chgF (d + 1) xs[k] ≠ 0 → F = chgF (d + 1) xs[k]) := Lib.hid (fun h => by rw [HF.out, fz_map_stop _ hkx H0.out h])
      have HNX : Hid (chgF (d + 1) xs[k] = 0 → fz ((xs.take (k + 1)).map (chgF (d + 1))) = 0) := Lib.hid (fun h => by rw [fz_map_take _ hkx, H0.out, h]; rfl)
      have HCALL := Lib.hid hcall
      clear hcall htb
      generalize cs[k] = y at *
      generalize chgF (d + 1) xs[k] = f at *
      obtain ⟨ck, pa, pn, pc, vk, vf, vn, vw, vla, vln, vlc, vma, vmn, vmc⟩ := y
      have b0 := hc 0 (by omega)
      have b1 := hc 1 (by omega)
      have b2 := hc 2 (by omega)
      have b3 := hc 3 (by omega)
      have b4 := hc 4 (by omega)
      have b5 := hc 5 (by omega)
      have b6 := hc 6 (by omega)
      have b7 := hc 7 (by omega)
      simp only [CA.enc, VA.enc, Nat.add_zero] at b0 b1 b2 b3 b4 b5 b6 b7
      clear hc
      have hb1 : (0 : Int) ≤ k := by omega
      have hb2 : (k : Int) < n := by omega
      have hm5 : New wr (wr.alloc (.cells #[.int .i64 ck, .slice pa pn pc, .int .i64 vk, .bool vf, .int .i64 vn, .string vw, .slice vla vln vlc, .slice vma vmn vmc] 57)) := (Mod.refl _ _).alloc _
      have hx := Blk.new wr 57 #[.int .i64 ck, .slice pa pn pc, .int .i64 vk, .bool vf, .int .i64 vn, .string vw, .slice vla vln vlc, .slice vma vmn vmc]
      go_upto_region 6 with (fail)
      have HM5 := Lib.hid (HM.out.trans hm5)
      have hcall := HCALL.out _ hm5
      generalize wr.alloc (.cells #[.int .i64 ck, .slice pa pn pc, .int .i64 vk, .bool vf, .int .i64 vn, .string vw, .slice vla vln vlc, .slice vma vmn vmc] 57) = w5 at *
      clear b0 b1 b2 b3 b4 b5 b6 b7 hgl hm5
      generalize wr.heap.size = xb at *
      have b0 := hx.cell 0
      have b1 := hx.cell 1
      have b2 := hx.cell 2
      have b3 := hx.cell 3
      have b4 := hx.cell 4
      have b5 := hx.cell 5
      have b6 := hx.cell 6
      have b7 := hx.cell 7
      have bl := hx.lt
      simp only [List.getElem?_toArray, List.getElem?_cons_zero, List.getElem?_cons_succ] at b0 b1 b2 b3 b4 b5 b6 b7
      clear hx
      go_wp2_with fail
      refine hcall.mono ?_
      clear hcall
      rintro e w6 ⟨rfl, m6⟩
      have HM6 := Lib.hid (HM5.out.trans m6)
      clear m6
      by_cases h0 : f = 0
      · have HG := Lib.hid (HNX.out h0)
        subst h0
        go_wp2_with fail
        go_roundw
        case rel => exact ⟨k + 1, by omega, by go_num, HG, HM6⟩
        case measure => simp [intOf]; omega
      · have h1 : (f != 0) = true := by simpa using h0
        have HFF := Lib.hid (HST.out h0)
        clear h0
        go_wp2_with fail
        go_ret
        exact ⟨ret_int HFF.out.symm, HM6.out⟩
    · obtain rfl : k = n := by omega
      have HFF : Hid (F = 0) := Lib.hid (by rw [HF.out, ← H0.out, List.take_of_length_le (by have := HL.out; have := HCX.out; omega)])
      go_wp2_with fail
      go_ret
      exact ⟨ret_int HFF.out.symm, HM.out⟩

end Go.Proofs.YtahofcopedlenaaGreatDoor
