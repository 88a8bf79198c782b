/- Reading values: the reference's reader: what is blank is skipped, the first fault is kept, words. Conditions: a text of at most 300000 bytes. -/
import Derived.Test.YtjmnkdkdjnmejaaGreatDoorRvPutGrp
import Derived.Test.YtjmnkdkdjnmejaaGreatDoorWrdsLawGrp
import Derived.Test.YtjmnkdkdjnmejaaGreatDoorHeldGrp
import Derived.Test.YtjmnkdkdjnmejaaGreatDoorSegGrp
namespace Go.Proofs.YtjmnkdkdjnmejaaGreatDoor
open Go.RowKit
set_option linter.unusedVariables false
set_option linter.unusedSimpArgs false

section
set_option maxHeartbeats 1000000
theorem ref_nextA (s : ByteArray) (rest : List Value) (i b : Nat) (w : World) (hs : s.size ≤ 300000) (hi : i ≤ s.size) (hb : Blk w b 53 (at0 s i rest)) :
    Calls Tryz.prog 20 #[.pointer (some ⟨b, 0, none⟩)] w (RSkip b 53 s rest i w) := by
  have hlen : s.data.toList.length = s.size := rfl
  have HLEN := hId hlen
  obtain ⟨K, hK⟩ : ∃ K, spanAt blankB s.data.toList i = K := ⟨_, rfl⟩
  have HK := hId hK
  have HR : ∀ e w', (e = .returned (.int .u8 ((topAt s.data.toList K).toNat : Int)) ∧ Moved b 53 s rest K w w') → RSkip b 53 s rest i w e w' := fun e w' h => by unfold RSkip; rw [HK.out]; exact h
  have HB0 := hId hb
  clear hlen hK hb
  go_enter Tryz.func20, Tryz.ntmps20
  go_wp2_with fail
  go_loopw [13] (fun _ wr => ∃ k, k ≤ s.size ∧ Hid (spanAt blankB s.data.toList k = K) ∧ Hid (Blk wr b 53 (at0 s k rest)) ∧ Hid (Only b w wr)) (fun _ wr => s.size - iAt b wr)
  case atStart => exact ⟨i, hi, HK, HB0, hId (Mod.refl _ _)⟩
  case round =>
    clear HB0
    rename World => wr
    obtain ⟨k, hk, HS, HB, HM⟩ := hrel
    have c0 := HB.out.cell 0
    have c1 := HB.out.cell 1
    have z1 := HB.out.frozen 1
    have hbl := HB.out.lt
    simp only [Go.Proofs.YtjmnkdkdjnmejaaGreatDoor.at0, lqt, lqz, lqs] at c0 c1
    by_cases hlt : k < s.size
    · have hd : decide ((k : Int) < (s.size : Int)) = true := by simp; omega
      have hx := fun W => Tryz.strings_IndexByte ⟨#[32, 9, 10, 13]⟩ (s[k].toNat : Int) W
      simp only [byteBack] at hx
      have hbk := blank_at s[k]
      generalize Lib.indexByte [32, 9, 10, 13] s[k] = q at hx hbk
      cases hp : blankB s[k] <;> rw [hp] at hbk
      · have hq : decide (0 ≤ q) = false := hbk
        have hq2 : ¬ (0 : Int) ≤ q := by simpa using hq
        have HE : Hid (k = K) := hId (by rw [← HS.out]; exact (spanAt_no (by rw [HLEN.out]; exact hlt) hp).symm)
        have HT : Hid (topAt s.data.toList k = s[k]) := hId (by rw [topAt_get (by rw [HLEN.out]; exact hlt)]; rfl)
        clear hp
        go_upto_region 1 with (fail)
        go_quiet (exact Calls.quiet_of_same (hx _))
        clear hx hbk hq
        have he : ((k : Int) == (s.size : Int)) = false := by simp; omega
        go_wp2_with fail
        go_quiet (fail)
        go_wp2_with fail
        go_quiet (fail)
        go_wp2_with fail
        go_ret
        exact HR _ _ ⟨by rw [← HE.out, HT.out]; rfl, by rw [← HE.out]; exact ⟨HB.out.mod (S := fun _ => False) (by with_reducible (repeat (first | exact Mod.refl _ _ | refine Mod.drewN ?_ _ | refine Mod.drew ?_ | refine Mod.alloc ?_ _))) (fun e => e), HM.out.trans (by with_reducible (repeat (first | exact Mod.refl _ _ | refine Mod.drewN ?_ _ | refine Mod.drew ?_ | refine Mod.alloc ?_ _)))⟩⟩
      · have hq : decide (0 ≤ q) = true := hbk
        have hq2 : (0 : Int) ≤ q := by simpa using hq
        have HS1 : Hid (spanAt blankB s.data.toList (k + 1) = K) := hId (by rw [← HS.out]; exact (spanAt_yes (by rw [HLEN.out]; exact hlt) hp).symm)
        clear hp
        go_upto_region 1 with (fail)
        go_quiet (exact Calls.quiet_of_same (hx _))
        clear hx hbk hq
        have hk3 : (k : Int) + 1 < 400000 := by omega
        have hk4 : 0 ≤ (k : Int) := by omega
        have HB1 := hId ((HB.out.mod (S := fun _ => False) ((Mod.refl _ wr).drewN nq) (fun e => e)).set 1 (.int .i64 ((k + 1 : Nat) : Int)))
        have HM1 : Hid (Only b w ((wr.drewN nq).setCell ⟨b, 1, none⟩ (.int .i64 ((k + 1 : Nat) : Int)))) := hId ((HM.out.drewN nq).setCell (.inl rfl) _)
        have HIA : Hid (iAt b ((wr.drewN nq).setCell ⟨b, 1, none⟩ (.int .i64 ((k + 1 : Nat) : Int))) = k + 1) := hId (iAt_of (HB1.out.cell 1))
        have HI0 : Hid (iAt b wr = k) := hId (iAt_of c1)
        go_wp2_with fail
        go_roundw
        case rel => exact ⟨k + 1, by omega, HS1, HB1, HM1⟩
        case measure =>
          have h1 := HIA.out
          have h2 := HI0.out
          rw [show ((k + 1 : Nat) : Int) = (k : Int) + 1 by omega] at h1
          rw [h1, h2]
          omega
    · have hd : decide ((k : Int) < (s.size : Int)) = false := by simp; omega
      have hks : k = s.size := by omega
      have HE : Hid (k = K) := hId (by rw [← HS.out]; exact (spanAt_end _ (by rw [HLEN.out]; omega)).symm)
      have HT : Hid (topAt s.data.toList k = 0) := hId (topAt_end (by rw [HLEN.out]; omega))
      go_upto_region 1 with (fail)
      go_quiet (fail)
      have he : ((k : Int) == (s.size : Int)) = true := by simp; omega
      clear hks
      go_wp2_with fail
      go_quiet (fail)
      go_wp2_with fail
      go_ret
      exact HR _ _ ⟨by rw [← HE.out, HT.out]; rfl, by rw [← HE.out]; exact ⟨HB.out.mod (S := fun _ => False) (by with_reducible (repeat (first | exact Mod.refl _ _ | refine Mod.drewN ?_ _ | refine Mod.drew ?_ | refine Mod.alloc ?_ _))) (fun e => e), HM.out.trans (by with_reducible (repeat (first | exact Mod.refl _ _ | refine Mod.drewN ?_ _ | refine Mod.drew ?_ | refine Mod.alloc ?_ _)))⟩⟩
/-- the reference's reader: the place, and the fault or -1 -/
def RRc (s : ByteArray) (i : Nat) (f : Int) : Array Value := at0 s i [.int .i64 f]
theorem ref_wrong (s : ByteArray) (i : Nat) (f p : Int) (b : Nat) (w : World) (hb : Blk w b 53 (RRc s i f)) :
    Calls Tryz.prog 21 #[.pointer (some ⟨b, 0, none⟩), .int .i64 p] w fun e w' => e = .returned (.tuple #[]) ∧ Blk w' b 53 (RRc s i (if f < 0 then p else f)) ∧ Only b w w' := by
  have c2 := hb.cell 2
  have z2 := hb.frozen 2
  have hlt := hb.lt
  simp only [RRc, at0, lqt, lqz, lqs] at c2
  have HB := hId hb
  clear hb
  by_cases hf : f < 0
  · have HB1 := hId (HB.out.set 2 (.int .i64 p))
    have HM1 : Hid (Only b w (w.setCell ⟨b, 2, none⟩ (.int .i64 p))) := hId ((Mod.refl (fun k => k = b) w).setCell (p := ⟨b, 2, none⟩) (.inl rfl) _)
    rw [if_pos hf]
    go_enter Tryz.func21, Tryz.ntmps21
    go_wp2_with fail
    go_end0
    exact ⟨rfl, HB1.out, HM1.out⟩
  · rw [if_neg hf]
    go_enter Tryz.func21, Tryz.ntmps21
    go_wp2_with fail
    go_end0
    exact ⟨rfl, HB.out, Mod.refl _ _⟩
/-- words that begin at a place that is a quotation mark -/
def RWds (s : ByteArray) (b : Nat) (i : Nat) (w : World) (e : Ending) (w' : World) : Prop :=
  Only b w w' ∧ match wordsOf (s.data.toList.drop (i + 1)) with
  | none => ∃ t, e = .returned (.string t) ∧ Blk w' b 53 (RRc s i i)
  | some (o, m) => e = .returned (.string ⟨o.toArray⟩) ∧ Blk w' b 53 (RRc s (i + 1 + m) (-1))
set_option maxRecDepth 100000 in
theorem ref_words (s : ByteArray) (i b : Nat) (w : World) (hs : s.size ≤ 300000) (hi : i < s.size) (hb : Blk w b 53 (RRc s i (-1))) :
    Calls Tryz.prog 48 #[.pointer (some ⟨b, 0, none⟩)] w (RWds s b i w) := by
  have c0 := hb.cell 0
  have c1 := hb.cell 1
  have hlt := hb.lt
  simp only [RRc, at0, lqt, lqz, lqs] at c0 c1
  have hd1 : New w w.drew := (Mod.refl (fun _ => False) w).drew
  have hle : s.data.toList.length = s.size := rfl
  have hdr : (s.extract i s.size).data.toList = s.data.toList.drop i := by rw [extract_data, List.take_of_length_le (by rw [List.length_drop]; omega)]
  have hlw := ref_looseWords (s.extract i s.size) w.drew (by simp only [ByteArray.size_extract]; omega) (by simp only [ByteArray.size_extract]; omega)
  rw [hdr, List.drop_drop] at hlw
  have HB := hId hb
  have HD1 := hId hd1
  clear hb hdr
  have HLE := hId hle
  clear hle
  generalize hq : wordsOf (s.data.toList.drop (i + 1)) = q at hlw
  have HQ := hId hq
  clear hq
  go_enter Tryz.func48, Tryz.ntmps48
  go_wp2_with fail
  refine wp_region_held_ord (fun W => W.cell? ⟨b, 0, none⟩ = some (.string s) ∧ W.cell? ⟨b, 1, none⟩ = some (.int .i64 (i : Int)) ∧ b < W.heap.size) [9] [0, 1, 2, 3, 4, 5, 6, 7, 8, 9, 10, 11, 13, 12] (by kernel_rfl) (by kernel_rfl) (fun _ _ d _ _ h => by cases d <;> exact h) ?_ (fun hHeld => ?_)
  · exact ⟨c0, c1, hlt⟩
  simp only [List.length_cons, List.length_nil, List.drop_succ_cons, List.drop_zero]
  refine heldO_take ?_ (by rfl) (by rfl) (by rfl) (fun w hSw => ?_) ?_
  rotate_left
  · (try dsimp only at hSw); go_simp; any_goals (with_reducible rfl)
  simp only [Act.put, lst, lsz, lss]
  refine heldO_take ?_ (by rfl) (by rfl) (by rfl) (fun w hSw => ?_) ?_
  rotate_left
  · (try dsimp only at hSw); go_simp; any_goals (with_reducible rfl)
  simp only [Act.put, lst, lsz, lss]
  refine heldO_take ?_ (by rfl) (by rfl) (by rfl) (fun w hSw => ?_) ?_
  rotate_left
  · (try dsimp only at hSw); go_simp; any_goals (with_reducible rfl)
  simp only [Act.put, lst, lsz, lss]
  refine heldO_take ?_ (by rfl) (by rfl) (by rfl) (fun w hSw => ?_) ?_
  rotate_left
  · (try dsimp only at hSw); go_simp; any_goals (with_reducible rfl)
  simp only [Act.put, lst, lsz, lss]
  refine heldO_take ?_ (by rfl) (by rfl) (by rfl) (fun w hSw => ?_) ?_
  rotate_left
  · (try dsimp only at hSw); go_simp; any_goals (with_reducible rfl)
  simp only [Act.put, lst, lsz, lss]
  refine heldO_take ?_ (by rfl) (by rfl) (by rfl) (fun w hSw => ?_) ?_
  rotate_left
  · (try dsimp only at hSw); go_simp; any_goals (with_reducible rfl)
  simp only [Act.put, lst, lsz, lss]
  refine heldO_take ?_ (by rfl) (by rfl) (by rfl) (fun w hSw => ?_) ?_
  rotate_left
  · (try dsimp only at hSw); go_simp; any_goals (with_reducible rfl)
  simp only [Act.put, lst, lsz, lss]
  refine heldO_take ?_ (by rfl) (by rfl) (by rfl) (fun w hSw => ?_) ?_
  rotate_left
  · (try dsimp only at hSw); go_simp; any_goals (with_reducible rfl)
  simp only [Act.put, lst, lsz, lss]
  refine heldO_take ?_ (by rfl) (by rfl) (by rfl) (fun w hSw => ?_) ?_
  rotate_left
  · (try dsimp only at hSw)
    go_simp
    rw [if_pos (by omega)]
  simp only [Act.put, lst, lsz, lss]
  refine heldO_step (by rfl) (by rfl) (by rfl) (fun K hK => ?_)
  go_simp
  refine hlw.mono ?_
  clear hlw
  rintro e w2 ⟨x, m, rfl, hm2, hor⟩
  have HB2 := hId (HB.out.mod (HD1.out.trans hm2) (fun e => e))
  have k0 := HB2.out.cell 0
  have k1 := HB2.out.cell 1
  have k2 := HB2.out.cell 2
  have z1 := HB2.out.frozen 1
  have kl := HB2.out.lt
  simp only [RRc, at0, lqt, lqz, lqs] at k0 k1 k2
  have HM2 : Hid (Only b w w2) := hId ((HD1.out.trans hm2).mono (fun _ _ e => e.elim))
  clear hm2
  go_wp2_with fail
  refine hK.out _ _ ⟨k0, k1, kl⟩ (fun hHeld => ?_)
  clear hK K
  try simp only [Act.put, lst, lsz, lss]
  refine heldO_take ?_ (by rfl) (by rfl) (by rfl) (fun w hSw => ?_) ?_
  rotate_left
  · (try dsimp only at hSw); go_simp; any_goals (with_reducible rfl)
  simp only [Act.put, lst, lsz, lss]
  refine heldO_take ?_ (by rfl) (by rfl) (by rfl) (fun w hSw => ?_) ?_
  rotate_left
  · (try dsimp only at hSw); go_simp; any_goals (with_reducible rfl)
  simp only [Act.put, lst, lsz, lss]
  refine heldO_take ?_ (by rfl) (by rfl) (by rfl) (fun w hSw => ?_) ?_
  rotate_left
  · (try dsimp only at hSw); go_simp; any_goals (with_reducible rfl)
  simp only [Act.put, lst, lsz, lss]
  refine heldO_take ?_ (by rfl) (by rfl) (by rfl) (fun w hSw => ?_) ?_
  rotate_left
  · (try dsimp only at hSw); go_simp; any_goals (with_reducible rfl)
  simp only [Act.put, lst, lsz, lss]
  refine heldO_nil ?_
  clear hHeld
  rcases hor with ⟨hn, rfl⟩ | ⟨l, k, hs2, rfl, hm⟩
  · have HN := hId hn
    clear hn
    go_wp2_with fail
    refine (ref_wrong s i (-1) i b w2 HB2.out).mono ?_
    rintro e w3 ⟨rfl, hb3, hm3⟩
    rw [if_pos (by decide)] at hb3
    have HB3 := hId hb3
    have HM3 : Hid (Only b w w3) := hId (HM2.out.trans hm3)
    have j1 := hb3.cell 1
    have y1 := hb3.frozen 1
    have jl := hb3.lt
    simp only [RRc, at0, lqt, lqz, lqs] at j1
    have HB4 := hId (HB3.out.set 1 (.int .i64 (i : Int)))
    have HM4 : Hid (Only b w (w3.setCell ⟨b, 1, none⟩ (.int .i64 (i : Int)))) := hId (HM3.out.setCell (.inl rfl) _)
    clear hb3 hm3
    go_wp2_with fail
    go_ret
    unfold RWds
    rw [HQ.out, HN.out]
    exact ⟨HM4.out, _, rfl, HB4.out⟩
  · have HS2 := hId hs2
    have hkb := (words_some (HQ.out.trans hs2)).2.1
    rw [List.length_drop] at hkb
    have HLE2 := HLE.out
    have hm1 : 0 < m := by omega
    have hm2 : m ≤ 300000 := by omega
    have hmz : (m == 0) = false := by simp; omega
    have HMM := hId hm
    have hz : (i : Int) + m ≤ 700000 := by omega
    have hz2 : 0 ≤ (i : Int) + m := by omega
    clear hs2 hm hkb HLE2
    go_wp2_with fail
    go_ret
    unfold RWds
    rw [HQ.out, HS2.out]
    have e : ((i + 1 + k : Nat) : Int) = (i : Int) + m := by have := HMM.out; omega
    refine ⟨HM2.out.setCell (.inl rfl) _, rfl, ?_⟩
    unfold RRc at0
    rw [e]
    exact HB2.out.set 1 _
end
end Go.Proofs.YtjmnkdkdjnmejaaGreatDoor
