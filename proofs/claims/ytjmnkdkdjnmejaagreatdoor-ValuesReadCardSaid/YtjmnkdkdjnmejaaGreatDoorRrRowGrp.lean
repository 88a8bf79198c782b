/- Several texts in one. (1) Reading values: the reference's row: null, a flag or a number. Conditions: a text of at most 240000 bytes. (2) Reading values, the reference's side: a box that a list or members are read into; what its functions answer. No program is walked. No conditions. -/
import Derived.Test.YtjmnkdkdjnmejaaGreatDoorRvR1
import Derived.Test.YtjmnkdkdjnmejaaGreatDoorRvBeg3
import Derived.Test.YtjmnkdkdjnmejaaGreatDoorKeysGrp
import Derived.Test.YtjmnkdkdjnmejaaGreatDoorRrCon
import Derived.Test.YtjmnkdkdjnmejaaGreatDoorVal1Grp

namespace Go.Proofs.YtjmnkdkdjnmejaaGreatDoor
open Go.RowKit
set_option linter.unusedVariables false
set_option linter.unusedSimpArgs false

theorem or_let (c : UInt8) : (decide ((97 : Int) ≤ bits BinOp.or IntKind.u8 (c.toNat : Int) 32) && decide (bits BinOp.or IntKind.u8 (c.toNat : Int) 32 ≤ 122)) = isLetN c.toNat := by
  revert c
  apply byteOf
  decide +kernel
theorem isDig_dec (c : UInt8) : isDig c = (decide ((48 : Int) ≤ (c.toNat : Int)) && decide ((c.toNat : Int) ≤ 57)) := by
  revert c
  apply byteOf
  decide +kernel
/-- strconv's table lies below the reader's block -/
def PowK (b : Nat) (w : World) : Prop := ∃ w0, Pow10 w0 ∧ w0.heap.size ≤ b ∧ Pow10 w
theorem PowK.mod {b : Nat} {w w' : World} {S : Nat → Prop} (h : PowK b w) (hm : Mod S w w') (hS : ∀ g, S g → b ≤ g) : PowK b w' := by
  obtain ⟨w0, h1, h2, h3⟩ := h
  exact ⟨w0, h1, h2, h1.mod h3 hm (fun g hg e => by have := hS g e; omega)⟩
theorem PowK.pow {b : Nat} {w : World} (h : PowK b w) : Pow10 w := by obtain ⟨w0, h1, h2, h3⟩ := h; exact h3
/-- the value of a row that begins at i -/
def RRw (s : ByteArray) (b i : Nat) (w : World) (e : Ending) (w' : World) : Prop :=
  Only b w w' ∧ ∃ k f n, e = .returned (VA.val (leafA k f n)) ∧ match rdRow (cutB s.data.toList i (spanAt rowB s.data.toList i)) with
  | none => Blk w' b 53 (RRc s (spanAt rowB s.data.toList i) i)
  | some v => v = .mk k f n ⟨#[]⟩ [] [] ∧ Blk w' b 53 (RRc s (spanAt rowB s.data.toList i) (-1))
set_option maxHeartbeats 8000000
set_option maxRecDepth 100000 in
theorem ref_row (s : ByteArray) (i b : Nat) (w : World) (hs : s.size ≤ 240000) (hi : i < s.size) (hb : Blk w b 53 (RRc s i (-1))) (hP : PowK b w) :
    Calls Tryz.prog 49 #[.pointer (some ⟨b, 0, none⟩)] w (RRw s b i w) := by
  have hR := Blk.new w 30 #[.int .i64 0, .bool false, .int .i64 0, .string ⟨#[]⟩, .slice none 0 0, .slice none 0 0]
  have hm1 : New w (w.alloc (.cells #[.int .i64 0, .bool false, .int .i64 0, .string ⟨#[]⟩, .slice none 0 0, .slice none 0 0] 30)) := (Mod.refl _ _).alloc _
  obtain ⟨L, hL⟩ : ∃ L, s.data.toList = L := ⟨_, rfl⟩
  have HL := Lib.hid hL
  obtain ⟨E, hE⟩ : ∃ E, spanAt rowB L i = E := ⟨_, rfl⟩
  have HE := Lib.hid hE
  have hEs : E ≤ s.size := by rw [← hE, ← HL.out]; exact spanAt_le rowB (Nat.le_of_lt hi)
  have hEi : i ≤ E := by rw [← hE]; exact spanAt_ge _ _ _
  have HG : Hid (∀ e w', (Only b w w' ∧ ∃ k f n, e = .returned (VA.val (leafA k f n)) ∧ match rdRow (cutB L i E) with
    | none => Blk w' b 53 (RRc s E i)
    | some v => v = .mk k f n ⟨#[]⟩ [] [] ∧ Blk w' b 53 (RRc s E (-1))) → RRw s b i w e w') := Lib.hid (fun e w' h => by
    unfold RRw
    rw [hL, hE]
    exact h)
  clear hL hE
  have HLL : Hid (L.length = s.size) := Lib.hid (by rw [← HL.out]; rfl)
  go_enter Tryz.func49, Tryz.ntmps49
  go_upto_region 1 with (fail)
  generalize w.alloc (.cells #[.int .i64 0, .bool false, .int .i64 0, .string ⟨#[]⟩, .slice none 0 0, .slice none 0 0] 30) = w1 at *
  generalize hrb : w.heap.size = rb at *
  have HRB := Lib.hid hrb
  have HR := Lib.hid hR
  have HM1 := Lib.hid hm1
  have HB1 := Lib.hid (hb.mod hm1 (fun e => e))
  have HP := Lib.hid (hP.mod hm1 (fun g e => e.elim))
  have hbr : b < rb := by have := hb.lt; omega
  clear hrb hR hm1 hb hP
  go_wp2_with fail
  go_loopw [3] (fun s3 wr => ∃ k : Nat, i + k ≤ s.size ∧ s3 = .int .i64 (k : Int) ∧ Hid (spanAt rowB L (i + k) = E) ∧ Hid (New w1 wr)) (fun s3 _ => s.size - (intOf s3).toNat)
  case atStart => exact ⟨0, by omega, rfl, HE, Lib.hid (Mod.refl _ _)⟩
  case round =>
    rename World => wr
    obtain ⟨k, hk, rfl, HS, HN⟩ := hrel
    have HBR := Lib.hid (HB1.out.mod HN.out (fun e => e))
    have c0 := HBR.out.cell 0
    have c1 := HBR.out.cell 1
    have bl := HBR.out.lt
    simp only [RRc, at0, List.getElem?_toArray, List.getElem?_cons_zero, List.getElem?_cons_succ] at c0 c1
    have k0 : (0 : Int) ≤ (i : Int) + (k : Int) := by omega
    obtain ⟨R, hR⟩ : ∃ R : Bool, (if h : i + k < s.size then rowB s[i + k] else false) = R := ⟨_, rfl⟩
    have HRR := Lib.hid hR
    clear hR
    go_upto_region 2 with (fail)
    go_cut [92] from 8 to 94 (fun s92 wx => s92 = .bool R ∧ Hid (New wr wx))
    case first =>
      by_cases hlk : i + k < s.size
      · have hd0 : decide ((i : Int) + (k : Int) < (s.size : Int)) = true := by simp; omega
        have hdk : (i : Int) + (k : Int) < (s.size : Int) := by omega
        have hdn : ((i : Int) + (k : Int)).toNat = i + k := by omega
        have hRb : R = rowB s[i + k] := by rw [← HRR.out, dif_pos hlk]
        have hx := fun W => Tryz.strings_IndexByte ⟨#[45, 43, 46]⟩ (s[i + k].toNat : Int) W
        simp only [byteBack] at hx
        have hbk := sign_at s[i + k]
        have hor := or_let s[i + k]
        have hdg := digB_nat s[i + k]
        rw [rowB_nat, ← hbk] at hRb
        clear hbk
        generalize Lib.indexByte [45, 43, 46] s[i + k] = iq at *
        rw [← hor, ← hdg, isDig_dec] at hRb
        clear hor hdg
        obtain ⟨A1, hA1⟩ : ∃ A1, decide ((48 : Int) ≤ (s[i + k].toNat : Int)) = A1 := ⟨_, rfl⟩
        obtain ⟨A2, hA2⟩ : ∃ A2, decide ((s[i + k].toNat : Int) ≤ 57) = A2 := ⟨_, rfl⟩
        obtain ⟨A3, hA3⟩ : ∃ A3, decide ((97 : Int) ≤ bits BinOp.or IntKind.u8 (s[i + k].toNat : Int) 32) = A3 := ⟨_, rfl⟩
        obtain ⟨A4, hA4⟩ : ∃ A4, decide (bits BinOp.or IntKind.u8 (s[i + k].toNat : Int) 32 ≤ 122) = A4 := ⟨_, rfl⟩
        obtain ⟨A5, hA5⟩ : ∃ A5, decide ((0 : Int) ≤ iq) = A5 := ⟨_, rfl⟩
        rw [hA1, hA2, hA3, hA4, hA5] at hRb
        have HRB := Lib.hid hRb
        clear hRb
        cases A1
        · as_aux_lemma =>
            cases A3
            · cases A5
              · simp only [List.append]
                go_quiet (exact Calls.quiet_of_same (hx _))
                go_wp2_with fail
                go_meet
                case rel => exact ⟨by rw [HRB.out]; rfl, Lib.hid (by with_reducible (repeat (first | exact Mod.refl _ _ | refine Mod.drewN ?_ _ | refine Mod.drew ?_ | refine Mod.alloc ?_ _)))⟩
              · simp only [List.append]
                go_quiet (exact Calls.quiet_of_same (hx _))
                go_wp2_with fail
                go_meet
                case rel => exact ⟨by rw [HRB.out]; rfl, Lib.hid (by with_reducible (repeat (first | exact Mod.refl _ _ | refine Mod.drewN ?_ _ | refine Mod.drew ?_ | refine Mod.alloc ?_ _)))⟩
            · cases A4
              · cases A5
                · simp only [List.append]
                  go_quiet (exact Calls.quiet_of_same (hx _))
                  go_wp2_with fail
                  go_meet
                  case rel => exact ⟨by rw [HRB.out]; rfl, Lib.hid (by with_reducible (repeat (first | exact Mod.refl _ _ | refine Mod.drewN ?_ _ | refine Mod.drew ?_ | refine Mod.alloc ?_ _)))⟩
                · simp only [List.append]
                  go_quiet (exact Calls.quiet_of_same (hx _))
                  go_wp2_with fail
                  go_meet
                  case rel => exact ⟨by rw [HRB.out]; rfl, Lib.hid (by with_reducible (repeat (first | exact Mod.refl _ _ | refine Mod.drewN ?_ _ | refine Mod.drew ?_ | refine Mod.alloc ?_ _)))⟩
              · simp only [List.append]
                go_quiet (exact Calls.quiet_of_same (hx _))
                go_wp2_with fail
                go_meet
                case rel => exact ⟨by rw [HRB.out]; rfl, Lib.hid (by with_reducible (repeat (first | exact Mod.refl _ _ | refine Mod.drewN ?_ _ | refine Mod.drew ?_ | refine Mod.alloc ?_ _)))⟩
        · as_aux_lemma =>
            cases A2
            · cases A3
              · cases A5
                · simp only [List.append]
                  go_quiet (exact Calls.quiet_of_same (hx _))
                  go_wp2_with fail
                  go_meet
                  case rel => exact ⟨by rw [HRB.out]; rfl, Lib.hid (by with_reducible (repeat (first | exact Mod.refl _ _ | refine Mod.drewN ?_ _ | refine Mod.drew ?_ | refine Mod.alloc ?_ _)))⟩
                · simp only [List.append]
                  go_quiet (exact Calls.quiet_of_same (hx _))
                  go_wp2_with fail
                  go_meet
                  case rel => exact ⟨by rw [HRB.out]; rfl, Lib.hid (by with_reducible (repeat (first | exact Mod.refl _ _ | refine Mod.drewN ?_ _ | refine Mod.drew ?_ | refine Mod.alloc ?_ _)))⟩
              · cases A4
                · cases A5
                  · simp only [List.append]
                    go_quiet (exact Calls.quiet_of_same (hx _))
                    go_wp2_with fail
                    go_meet
                    case rel => exact ⟨by rw [HRB.out]; rfl, Lib.hid (by with_reducible (repeat (first | exact Mod.refl _ _ | refine Mod.drewN ?_ _ | refine Mod.drew ?_ | refine Mod.alloc ?_ _)))⟩
                  · simp only [List.append]
                    go_quiet (exact Calls.quiet_of_same (hx _))
                    go_wp2_with fail
                    go_meet
                    case rel => exact ⟨by rw [HRB.out]; rfl, Lib.hid (by with_reducible (repeat (first | exact Mod.refl _ _ | refine Mod.drewN ?_ _ | refine Mod.drew ?_ | refine Mod.alloc ?_ _)))⟩
                · simp only [List.append]
                  go_quiet (exact Calls.quiet_of_same (hx _))
                  go_wp2_with fail
                  go_meet
                  case rel => exact ⟨by rw [HRB.out]; rfl, Lib.hid (by with_reducible (repeat (first | exact Mod.refl _ _ | refine Mod.drewN ?_ _ | refine Mod.drew ?_ | refine Mod.alloc ?_ _)))⟩
            · simp only [List.append]
              go_quiet (exact Calls.quiet_of_same (hx _))
              go_wp2_with fail
              go_meet
              case rel => exact ⟨by rw [HRB.out]; simp, Lib.hid (by with_reducible (repeat (first | exact Mod.refl _ _ | refine Mod.drewN ?_ _ | refine Mod.drew ?_ | refine Mod.alloc ?_ _)))⟩
      · have hd0 : decide ((i : Int) + (k : Int) < (s.size : Int)) = false := by simp; omega
        have hRb : R = false := by rw [← HRR.out, dif_neg hlk]
        have HRB := Lib.hid hRb
        clear hRb
        simp only [List.append]
        go_quiet (fail)
        go_wp2_with fail
        go_meet
        case rel => exact ⟨by rw [HRB.out], Lib.hid (by with_reducible (repeat (first | exact Mod.refl _ _ | refine Mod.drewN ?_ _ | refine Mod.drew ?_ | refine Mod.alloc ?_ _)))⟩
    case rest =>
      obtain ⟨rfl, HN2⟩ := hcut
      clear c0 c1 bl
      have HN3 := Lib.hid (HN.out.trans HN2.out)
      cases R
      · have hkE : i + k = E := by
          rw [← HS.out]
          by_cases hlk : i + k < s.size
          · have hLk : i + k < L.length := by rw [HLL.out]; exact hlk
            have hget : L[i + k]'hLk = s[i + k] := by
              have h1 := topAt_get hLk
              rw [← h1, ← HL.out, topAt_get (show i + k < s.data.toList.length from hlk)]
              rfl
            have h2 := HRR.out
            rw [dif_pos hlk] at h2
            exact (spanAt_no hLk (by rw [hget]; exact h2)).symm
          · exact (spanAt_end _ (by rw [HLL.out]; omega)).symm
        have HKE := Lib.hid hkE
        clear HS hkE HRR
        have HBW := Lib.hid (HB1.out.mod HN3.out (fun e => e))
        have HRW := Lib.hid (HR.out.mod HN3.out (fun e => e))
        have HPW := Lib.hid (HP.out.mod HN3.out (fun g e => e.elim))
        have HMW := Lib.hid (HM1.out.trans HN3.out)
        clear HB1 HR HP HM1 HN HN2 HN3 HBR
        rename World => w2
        have c0 := HBW.out.cell 0
        have c1 := HBW.out.cell 1
        have z1 := HBW.out.frozen 1
        have bl := HBW.out.lt
        simp only [RRc, at0, List.getElem?_toArray, List.getElem?_cons_zero, List.getElem?_cons_succ] at c0 c1
        have hik1 : (i : Int) ≤ (i : Int) + (k : Int) := by omega
        have hik2 : (i : Int) + (k : Int) ≤ (s.size : Int) := by omega
        have hi0 : (0 : Int) ≤ (i : Int) := by omega
        have hdn : ((i : Int) + (k : Int)).toNat = i + k := by omega
        have hk7 : (i : Int) + (k : Int) ≤ 300000 := by omega
        go_upto_region 4 with (fail)
        go_quiet (fail)
        go_upto_region 7 with (fail)
        clear c0 c1 z1 bl
        have HB3 := Lib.hid ((HBW.out.mod (show New w2 (w2.drewN nq) from (by with_reducible (repeat (first | exact Mod.refl _ _ | refine Mod.drewN ?_ _ | refine Mod.drew ?_ | refine Mod.alloc ?_ _)))) (fun e => e)).set 1 (.int .i64 ((i : Int) + (k : Int))))
        have HO3 : Hid (Only b w ((w2.drewN nq).setCell ⟨b, 1, none⟩ (.int .i64 ((i : Int) + (k : Int))))) := Lib.hid (((HMW.out.mono (T := fun k => k = b) (fun _ _ e => e.elim)).drewN nq).setCell (p := ⟨b, 1, none⟩) (.inl rfl) _)
        have hm3 : Only b w2 ((w2.drewN nq).setCell ⟨b, 1, none⟩ (.int .i64 ((i : Int) + (k : Int)))) := (((Mod.refl (fun k => k = b) w2).drewN nq)).setCell (p := ⟨b, 1, none⟩) (.inl rfl) _
        have HR := Lib.hid (HRW.out.mod hm3 (by omega))
        have HP := Lib.hid (HPW.out.mod hm3 (fun g e => Nat.le_of_eq e.symm))
        clear hm3 HBW HRW HPW HMW
        generalize (w2.drewN nq).setCell ⟨b, 1, none⟩ (.int .i64 ((i : Int) + (k : Int))) = w3 at *
        obtain ⟨t, ht⟩ : ∃ t, s.extract i (i + k) = t := ⟨_, rfl⟩
        have htc : cutB L i E = t := by
          rw [← ht, ← HL.out, ← HKE.out]
          apply ByteArray.ext
          apply Array.toList_inj.mp
          show _ = (s.extract i (i + k)).data.toList
          rw [extract_data]
          simp [cutB, List.drop_take]
        have hts : t.size ≤ 1000000 := by rw [← ht]; simp only [ByteArray.size_extract]; omega
        rw [ht]
        have hst : t.toList = t.data.toList := ByteArray.toList_eq _
        have HB : Hid (Blk w3 b 53 (RRc s E (-1))) := Lib.hid (by
          have h1 := HB3.out
          have h2 : ((i : Int) + (k : Int)) = (E : Int) := by have := HKE.out; omega
          rw [h2] at h1
          exact h1)
        have HFIN : Hid (∀ w' kk ff nn, Only b w w' → (match rdRow t with
          | none => Blk w' b 53 (RRc s E i)
          | some v => v = .mk kk ff nn ⟨#[]⟩ [] [] ∧ Blk w' b 53 (RRc s E (-1))) → RRw s b i w (.returned (VA.val (leafA kk ff nn))) w') := Lib.hid (fun w' kk ff nn h1 h2 => HG.out _ _ ⟨h1, kk, ff, nn, rfl, by rw [htc]; exact h2⟩)
        have HST := Lib.hid hst
        clear htc hst ht HB3 HKE HG
        by_cases e1 : t.data.toList = [110, 117, 108, 108]
        · have h1 : (t.toList == [110, 117, 108, 108]) = true := by rw [HST.out, e1]; rfl
          have HRD : Hid (rdRow t = some (.mk 0 false 0 ⟨#[]⟩ [] [])) := Lib.hid (by unfold rdRow; rw [if_pos e1])
          clear e1
          have r0 := HR.out.cell 0
          have r1 := HR.out.cell 1
          have r2 := HR.out.cell 2
          have r3 := HR.out.cell 3
          have r4 := HR.out.cell 4
          have r5 := HR.out.cell 5
          have rf := HR.out.frozen
          have rl := HR.out.lt
          simp only [List.getElem?_toArray, List.getElem?_cons_zero, List.getElem?_cons_succ] at r0 r1 r2 r3 r4 r5
          go_wp2_with fail
          have HW9 : Hid (Mod (fun k => k = rb) w3 ((((((w3.setCell ⟨rb, 0, none⟩ (.int .i64 0)).setCell ⟨rb, 1, none⟩ (.bool false)).setCell ⟨rb, 2, none⟩ (.int .i64 0)).setCell ⟨rb, 3, none⟩ (.string ⟨#[]⟩)).setCell ⟨rb, 4, none⟩ (.slice none 0 0)).setCell ⟨rb, 5, none⟩ (.slice none 0 0))) := Lib.hid (((((((Mod.refl (fun k => k = rb) w3).setCell (p := ⟨rb, 0, none⟩) (.inl rfl) _).setCell (p := ⟨rb, 1, none⟩) (.inl rfl) _).setCell (p := ⟨rb, 2, none⟩) (.inl rfl) _).setCell (p := ⟨rb, 3, none⟩) (.inl rfl) _).setCell (p := ⟨rb, 4, none⟩) (.inl rfl) _).setCell (p := ⟨rb, 5, none⟩) (.inl rfl) _)
          have HR9 : Hid (Blk ((((((w3.setCell ⟨rb, 0, none⟩ (.int .i64 0)).setCell ⟨rb, 1, none⟩ (.bool false)).setCell ⟨rb, 2, none⟩ (.int .i64 0)).setCell ⟨rb, 3, none⟩ (.string ⟨#[]⟩)).setCell ⟨rb, 4, none⟩ (.slice none 0 0)).setCell ⟨rb, 5, none⟩ (.slice none 0 0)) rb 30 #[.int .i64 0, .bool false, .int .i64 0, .string ⟨#[]⟩, .slice none 0 0, .slice none 0 0]) := Lib.hid ((((((HR.out.set 0 (.int .i64 0)).set 1 (.bool false)).set 2 (.int .i64 0)).set 3 (.string ⟨#[]⟩)).set 4 (.slice none 0 0)).set 5 (.slice none 0 0))
          clear r0 r1 r2 r3 r4 r5 rf rl
          generalize ((((((w3.setCell ⟨rb, 0, none⟩ (.int .i64 0)).setCell ⟨rb, 1, none⟩ (.bool false)).setCell ⟨rb, 2, none⟩ (.int .i64 0)).setCell ⟨rb, 3, none⟩ (.string ⟨#[]⟩)).setCell ⟨rb, 4, none⟩ (.slice none 0 0)).setCell ⟨rb, 5, none⟩ (.slice none 0 0)) = w9 at *
          have HB9 := Lib.hid (HB.out.mod HW9.out (by omega))
          have HO9 := Lib.hid (HO3.out.step HW9.out (fun k hk e => by have := HRB.out; omega))
          have r0 := HR9.out.cell 0
          have r1 := HR9.out.cell 1
          have r2 := HR9.out.cell 2
          have r3 := HR9.out.cell 3
          have r4 := HR9.out.cell 4
          have r5 := HR9.out.cell 5
          have rf := HR9.out.frozen
          have rl := HR9.out.lt
          simp only [List.getElem?_toArray, List.getElem?_cons_zero, List.getElem?_cons_succ] at r0 r1 r2 r3 r4 r5
          refine bodyPost_ret (v := VA.val (leafA 0 false 0)) (by simp [results, Tryz.results49, go_sem, r0, r1, r2, r3, r4, r5, rf, rl, VA.val, leafA]) rfl (HFIN.out _ _ _ _ HO9.out ?_)
          rw [HRD.out]
          exact ⟨rfl, HB9.out⟩
        · have h1 : (t.toList == [110, 117, 108, 108]) = false := by rw [HST.out]; simpa using e1
          by_cases e2 : t.data.toList = [116, 114, 117, 101]
          · have h2 : (t.toList == [116, 114, 117, 101]) = true := by rw [HST.out, e2]; rfl
            have HRD : Hid (rdRow t = some (.mk 1 true 0 ⟨#[]⟩ [] [])) := Lib.hid (by unfold rdRow; rw [if_neg e1, if_pos e2])
            clear e1 e2
            have r0 := HR.out.cell 0
            have r1 := HR.out.cell 1
            have r2 := HR.out.cell 2
            have r3 := HR.out.cell 3
            have r4 := HR.out.cell 4
            have r5 := HR.out.cell 5
            have rf := HR.out.frozen
            have rl := HR.out.lt
            simp only [List.getElem?_toArray, List.getElem?_cons_zero, List.getElem?_cons_succ] at r0 r1 r2 r3 r4 r5
            go_wp2_with fail
            have HW9 : Hid (Mod (fun k => k = rb) w3 ((((((w3.setCell ⟨rb, 0, none⟩ (.int .i64 1)).setCell ⟨rb, 1, none⟩ (.bool true)).setCell ⟨rb, 2, none⟩ (.int .i64 0)).setCell ⟨rb, 3, none⟩ (.string ⟨#[]⟩)).setCell ⟨rb, 4, none⟩ (.slice none 0 0)).setCell ⟨rb, 5, none⟩ (.slice none 0 0))) := Lib.hid (((((((Mod.refl (fun k => k = rb) w3).setCell (p := ⟨rb, 0, none⟩) (.inl rfl) _).setCell (p := ⟨rb, 1, none⟩) (.inl rfl) _).setCell (p := ⟨rb, 2, none⟩) (.inl rfl) _).setCell (p := ⟨rb, 3, none⟩) (.inl rfl) _).setCell (p := ⟨rb, 4, none⟩) (.inl rfl) _).setCell (p := ⟨rb, 5, none⟩) (.inl rfl) _)
            have HR9 : Hid (Blk ((((((w3.setCell ⟨rb, 0, none⟩ (.int .i64 1)).setCell ⟨rb, 1, none⟩ (.bool true)).setCell ⟨rb, 2, none⟩ (.int .i64 0)).setCell ⟨rb, 3, none⟩ (.string ⟨#[]⟩)).setCell ⟨rb, 4, none⟩ (.slice none 0 0)).setCell ⟨rb, 5, none⟩ (.slice none 0 0)) rb 30 #[.int .i64 1, .bool true, .int .i64 0, .string ⟨#[]⟩, .slice none 0 0, .slice none 0 0]) := Lib.hid ((((((HR.out.set 0 (.int .i64 1)).set 1 (.bool true)).set 2 (.int .i64 0)).set 3 (.string ⟨#[]⟩)).set 4 (.slice none 0 0)).set 5 (.slice none 0 0))
            clear r0 r1 r2 r3 r4 r5 rf rl
            generalize ((((((w3.setCell ⟨rb, 0, none⟩ (.int .i64 1)).setCell ⟨rb, 1, none⟩ (.bool true)).setCell ⟨rb, 2, none⟩ (.int .i64 0)).setCell ⟨rb, 3, none⟩ (.string ⟨#[]⟩)).setCell ⟨rb, 4, none⟩ (.slice none 0 0)).setCell ⟨rb, 5, none⟩ (.slice none 0 0)) = w9 at *
            have HB9 := Lib.hid (HB.out.mod HW9.out (by omega))
            have HO9 := Lib.hid (HO3.out.step HW9.out (fun k hk e => by have := HRB.out; omega))
            have r0 := HR9.out.cell 0
            have r1 := HR9.out.cell 1
            have r2 := HR9.out.cell 2
            have r3 := HR9.out.cell 3
            have r4 := HR9.out.cell 4
            have r5 := HR9.out.cell 5
            have rf := HR9.out.frozen
            have rl := HR9.out.lt
            simp only [List.getElem?_toArray, List.getElem?_cons_zero, List.getElem?_cons_succ] at r0 r1 r2 r3 r4 r5
            refine bodyPost_ret (v := VA.val (leafA 1 true 0)) (by simp [results, Tryz.results49, go_sem, r0, r1, r2, r3, r4, r5, rf, rl, VA.val, leafA]) rfl (HFIN.out _ _ _ _ HO9.out ?_)
            rw [HRD.out]
            exact ⟨rfl, HB9.out⟩
          · have h2 : (t.toList == [116, 114, 117, 101]) = false := by rw [HST.out]; simpa using e2
            by_cases e3 : t.data.toList = [102, 97, 108, 115, 101]
            · have h3 : (t.toList == [102, 97, 108, 115, 101]) = true := by rw [HST.out, e3]; rfl
              have HRD : Hid (rdRow t = some (.mk 1 false 0 ⟨#[]⟩ [] [])) := Lib.hid (by unfold rdRow; rw [if_neg e1, if_neg e2, if_pos e3])
              clear e1 e2 e3
              have r0 := HR.out.cell 0
              have r1 := HR.out.cell 1
              have r2 := HR.out.cell 2
              have r3 := HR.out.cell 3
              have r4 := HR.out.cell 4
              have r5 := HR.out.cell 5
              have rf := HR.out.frozen
              have rl := HR.out.lt
              simp only [List.getElem?_toArray, List.getElem?_cons_zero, List.getElem?_cons_succ] at r0 r1 r2 r3 r4 r5
              go_wp2_with fail
              have HW9 : Hid (Mod (fun k => k = rb) w3 ((((((w3.setCell ⟨rb, 0, none⟩ (.int .i64 1)).setCell ⟨rb, 1, none⟩ (.bool false)).setCell ⟨rb, 2, none⟩ (.int .i64 0)).setCell ⟨rb, 3, none⟩ (.string ⟨#[]⟩)).setCell ⟨rb, 4, none⟩ (.slice none 0 0)).setCell ⟨rb, 5, none⟩ (.slice none 0 0))) := Lib.hid (((((((Mod.refl (fun k => k = rb) w3).setCell (p := ⟨rb, 0, none⟩) (.inl rfl) _).setCell (p := ⟨rb, 1, none⟩) (.inl rfl) _).setCell (p := ⟨rb, 2, none⟩) (.inl rfl) _).setCell (p := ⟨rb, 3, none⟩) (.inl rfl) _).setCell (p := ⟨rb, 4, none⟩) (.inl rfl) _).setCell (p := ⟨rb, 5, none⟩) (.inl rfl) _)
              have HR9 : Hid (Blk ((((((w3.setCell ⟨rb, 0, none⟩ (.int .i64 1)).setCell ⟨rb, 1, none⟩ (.bool false)).setCell ⟨rb, 2, none⟩ (.int .i64 0)).setCell ⟨rb, 3, none⟩ (.string ⟨#[]⟩)).setCell ⟨rb, 4, none⟩ (.slice none 0 0)).setCell ⟨rb, 5, none⟩ (.slice none 0 0)) rb 30 #[.int .i64 1, .bool false, .int .i64 0, .string ⟨#[]⟩, .slice none 0 0, .slice none 0 0]) := Lib.hid ((((((HR.out.set 0 (.int .i64 1)).set 1 (.bool false)).set 2 (.int .i64 0)).set 3 (.string ⟨#[]⟩)).set 4 (.slice none 0 0)).set 5 (.slice none 0 0))
              clear r0 r1 r2 r3 r4 r5 rf rl
              generalize ((((((w3.setCell ⟨rb, 0, none⟩ (.int .i64 1)).setCell ⟨rb, 1, none⟩ (.bool false)).setCell ⟨rb, 2, none⟩ (.int .i64 0)).setCell ⟨rb, 3, none⟩ (.string ⟨#[]⟩)).setCell ⟨rb, 4, none⟩ (.slice none 0 0)).setCell ⟨rb, 5, none⟩ (.slice none 0 0)) = w9 at *
              have HB9 := Lib.hid (HB.out.mod HW9.out (by omega))
              have HO9 := Lib.hid (HO3.out.step HW9.out (fun k hk e => by have := HRB.out; omega))
              have r0 := HR9.out.cell 0
              have r1 := HR9.out.cell 1
              have r2 := HR9.out.cell 2
              have r3 := HR9.out.cell 3
              have r4 := HR9.out.cell 4
              have r5 := HR9.out.cell 5
              have rf := HR9.out.frozen
              have rl := HR9.out.lt
              simp only [List.getElem?_toArray, List.getElem?_cons_zero, List.getElem?_cons_succ] at r0 r1 r2 r3 r4 r5
              refine bodyPost_ret (v := VA.val (leafA 1 false 0)) (by simp [results, Tryz.results49, go_sem, r0, r1, r2, r3, r4, r5, rf, rl, VA.val, leafA]) rfl (HFIN.out _ _ _ _ HO9.out ?_)
              rw [HRD.out]
              exact ⟨rfl, HB9.out⟩
            · have h3 : (t.toList == [102, 97, 108, 115, 101]) = false := by rw [HST.out]; simpa using e3
              have HRD : Hid (rdRow t = if numOk 16 t then some (.mk 2 false (numV t) ⟨#[]⟩ [] []) else none) := Lib.hid (by unfold rdRow; rw [if_neg e1, if_neg e2, if_neg e3])
              clear e1 e2 e3
              have hkn := fun W (hW : New w3 W) => ref_number 16 (by decide) t W hts (HP.out.mod hW (fun g e => e.elim)).pow
              go_upto_region 13 with (fail)
              have hkn := hkn _ (show New w3 w3 from Mod.refl _ _)
              go_wp2_with fail
              refine hkn.mono ?_
              clear hkn
              rintro e w4 ⟨n, rfl, hnv, hm4⟩
              have HB := Lib.hid (HB.out.mod hm4 (fun e => e))
              have HR := Lib.hid (HR.out.mod hm4 (fun e => e))
              have HO3 := Lib.hid (HO3.out.trans (hm4.mono (fun _ _ e => e.elim)))
              have HNV := Lib.hid hnv
              clear hm4 hnv
              generalize hok : numOk 16 t = okk at *
              cases okk
              · have hwr := ref_wrong s E (-1) i b w4 HB.out
                rw [if_pos (by decide)] at hwr
                go_wp2_with fail
                refine hwr.mono ?_
                clear hwr
                rintro e w5 ⟨rfl, hb5, hm5⟩
                have HB := Lib.hid hb5
                have HR := Lib.hid (HR.out.mod hm5 (by omega))
                have HO3 := Lib.hid (HO3.out.trans hm5)
                clear hb5 hm5
                have r0 := HR.out.cell 0
                have r1 := HR.out.cell 1
                have r2 := HR.out.cell 2
                have r3 := HR.out.cell 3
                have r4 := HR.out.cell 4
                have r5 := HR.out.cell 5
                have rf := HR.out.frozen
                have rl := HR.out.lt
                simp only [List.getElem?_toArray, List.getElem?_cons_zero, List.getElem?_cons_succ] at r0 r1 r2 r3 r4 r5
                go_wp2_with fail
                have HW9 : Hid (Mod (fun k => k = rb) w5 ((((((w5.setCell ⟨rb, 0, none⟩ (.int .i64 2)).setCell ⟨rb, 1, none⟩ (.bool false)).setCell ⟨rb, 2, none⟩ (.int .i64 n)).setCell ⟨rb, 3, none⟩ (.string ⟨#[]⟩)).setCell ⟨rb, 4, none⟩ (.slice none 0 0)).setCell ⟨rb, 5, none⟩ (.slice none 0 0))) := Lib.hid (((((((Mod.refl (fun k => k = rb) w5).setCell (p := ⟨rb, 0, none⟩) (.inl rfl) _).setCell (p := ⟨rb, 1, none⟩) (.inl rfl) _).setCell (p := ⟨rb, 2, none⟩) (.inl rfl) _).setCell (p := ⟨rb, 3, none⟩) (.inl rfl) _).setCell (p := ⟨rb, 4, none⟩) (.inl rfl) _).setCell (p := ⟨rb, 5, none⟩) (.inl rfl) _)
                have HR9 : Hid (Blk ((((((w5.setCell ⟨rb, 0, none⟩ (.int .i64 2)).setCell ⟨rb, 1, none⟩ (.bool false)).setCell ⟨rb, 2, none⟩ (.int .i64 n)).setCell ⟨rb, 3, none⟩ (.string ⟨#[]⟩)).setCell ⟨rb, 4, none⟩ (.slice none 0 0)).setCell ⟨rb, 5, none⟩ (.slice none 0 0)) rb 30 #[.int .i64 2, .bool false, .int .i64 n, .string ⟨#[]⟩, .slice none 0 0, .slice none 0 0]) := Lib.hid ((((((HR.out.set 0 (.int .i64 2)).set 1 (.bool false)).set 2 (.int .i64 n)).set 3 (.string ⟨#[]⟩)).set 4 (.slice none 0 0)).set 5 (.slice none 0 0))
                clear r0 r1 r2 r3 r4 r5 rf rl
                generalize ((((((w5.setCell ⟨rb, 0, none⟩ (.int .i64 2)).setCell ⟨rb, 1, none⟩ (.bool false)).setCell ⟨rb, 2, none⟩ (.int .i64 n)).setCell ⟨rb, 3, none⟩ (.string ⟨#[]⟩)).setCell ⟨rb, 4, none⟩ (.slice none 0 0)).setCell ⟨rb, 5, none⟩ (.slice none 0 0)) = w9 at *
                have HB9 := Lib.hid (HB.out.mod HW9.out (by omega))
                have HO9 := Lib.hid (HO3.out.step HW9.out (fun k hk e => by have := HRB.out; omega))
                have r0 := HR9.out.cell 0
                have r1 := HR9.out.cell 1
                have r2 := HR9.out.cell 2
                have r3 := HR9.out.cell 3
                have r4 := HR9.out.cell 4
                have r5 := HR9.out.cell 5
                have rf := HR9.out.frozen
                have rl := HR9.out.lt
                simp only [List.getElem?_toArray, List.getElem?_cons_zero, List.getElem?_cons_succ] at r0 r1 r2 r3 r4 r5
                refine bodyPost_ret (v := VA.val (leafA 2 false n)) (by simp [results, Tryz.results49, go_sem, r0, r1, r2, r3, r4, r5, rf, rl, VA.val, leafA]) rfl (HFIN.out _ _ _ _ HO9.out ?_)
                rw [HRD.out]
                exact HB9.out
              · have hnn := HNV.out rfl
                subst hnn
                have r0 := HR.out.cell 0
                have r1 := HR.out.cell 1
                have r2 := HR.out.cell 2
                have r3 := HR.out.cell 3
                have r4 := HR.out.cell 4
                have r5 := HR.out.cell 5
                have rf := HR.out.frozen
                have rl := HR.out.lt
                simp only [List.getElem?_toArray, List.getElem?_cons_zero, List.getElem?_cons_succ] at r0 r1 r2 r3 r4 r5
                go_wp2_with fail
                have HW9 : Hid (Mod (fun k => k = rb) w4 ((((((w4.setCell ⟨rb, 0, none⟩ (.int .i64 2)).setCell ⟨rb, 1, none⟩ (.bool false)).setCell ⟨rb, 2, none⟩ (.int .i64 (numV t))).setCell ⟨rb, 3, none⟩ (.string ⟨#[]⟩)).setCell ⟨rb, 4, none⟩ (.slice none 0 0)).setCell ⟨rb, 5, none⟩ (.slice none 0 0))) := Lib.hid (((((((Mod.refl (fun k => k = rb) w4).setCell (p := ⟨rb, 0, none⟩) (.inl rfl) _).setCell (p := ⟨rb, 1, none⟩) (.inl rfl) _).setCell (p := ⟨rb, 2, none⟩) (.inl rfl) _).setCell (p := ⟨rb, 3, none⟩) (.inl rfl) _).setCell (p := ⟨rb, 4, none⟩) (.inl rfl) _).setCell (p := ⟨rb, 5, none⟩) (.inl rfl) _)
                have HR9 : Hid (Blk ((((((w4.setCell ⟨rb, 0, none⟩ (.int .i64 2)).setCell ⟨rb, 1, none⟩ (.bool false)).setCell ⟨rb, 2, none⟩ (.int .i64 (numV t))).setCell ⟨rb, 3, none⟩ (.string ⟨#[]⟩)).setCell ⟨rb, 4, none⟩ (.slice none 0 0)).setCell ⟨rb, 5, none⟩ (.slice none 0 0)) rb 30 #[.int .i64 2, .bool false, .int .i64 (numV t), .string ⟨#[]⟩, .slice none 0 0, .slice none 0 0]) := Lib.hid ((((((HR.out.set 0 (.int .i64 2)).set 1 (.bool false)).set 2 (.int .i64 (numV t))).set 3 (.string ⟨#[]⟩)).set 4 (.slice none 0 0)).set 5 (.slice none 0 0))
                clear r0 r1 r2 r3 r4 r5 rf rl
                generalize ((((((w4.setCell ⟨rb, 0, none⟩ (.int .i64 2)).setCell ⟨rb, 1, none⟩ (.bool false)).setCell ⟨rb, 2, none⟩ (.int .i64 (numV t))).setCell ⟨rb, 3, none⟩ (.string ⟨#[]⟩)).setCell ⟨rb, 4, none⟩ (.slice none 0 0)).setCell ⟨rb, 5, none⟩ (.slice none 0 0)) = w9 at *
                have HB9 := Lib.hid (HB.out.mod HW9.out (by omega))
                have HO9 := Lib.hid (HO3.out.step HW9.out (fun k hk e => by have := HRB.out; omega))
                have r0 := HR9.out.cell 0
                have r1 := HR9.out.cell 1
                have r2 := HR9.out.cell 2
                have r3 := HR9.out.cell 3
                have r4 := HR9.out.cell 4
                have r5 := HR9.out.cell 5
                have rf := HR9.out.frozen
                have rl := HR9.out.lt
                simp only [List.getElem?_toArray, List.getElem?_cons_zero, List.getElem?_cons_succ] at r0 r1 r2 r3 r4 r5
                refine bodyPost_ret (v := VA.val (leafA 2 false (numV t))) (by simp [results, Tryz.results49, go_sem, r0, r1, r2, r3, r4, r5, rf, rl, VA.val, leafA]) rfl (HFIN.out _ _ _ _ HO9.out ?_)
                rw [HRD.out]
                exact ⟨rfl, HB9.out⟩
      · have hlk : i + k < s.size := by
          refine Decidable.byContradiction fun hc => ?_
          have := HRR.out
          rw [dif_neg hc] at this
          cases this
        have hRb : rowB s[i + k] = true := by have := HRR.out; rw [dif_pos hlk] at this; exact this
        have hLk : i + k < L.length := by rw [HLL.out]; exact hlk
        have hget : L[i + k]'hLk = s[i + k] := by
          have h1 := topAt_get hLk
          rw [← h1, ← HL.out, topAt_get (show i + k < s.data.toList.length from hlk)]
          rfl
        have HS1 : Hid (spanAt rowB L (i + (k + 1)) = E) := Lib.hid (by rw [← HS.out]; exact (spanAt_yes hLk (by rw [hget]; exact hRb)).symm)
        clear hget hRb
        have hk5 : (k : Int) + 1 < 400000 := by omega
        go_wp2_with fail
        go_roundw
        case rel => exact ⟨k + 1, by omega, by go_num, HS1, HN3⟩
        case measure => simp [intOf]; omega
end Go.Proofs.YtjmnkdkdjnmejaaGreatDoor

namespace Go.Proofs.YtjmnkdkdjnmejaaGreatDoor
open Go.RowKit
set_option linter.unusedVariables false
set_option linter.unusedSimpArgs false

theorem Kids.lift {α β : Type} {Tr Tr' : World → (Nat → Prop) → α → β → Prop} {t : TypeId} {sz : Nat} {enc : α → Nat → Value} {w : World} {B : Nat} {G : Nat → Prop} {A : Option Addr} {m c : Nat} {xs : List α} {vs : List β} (hT : ∀ G x v, Tr w G x v → Tr' w G x v) (h : Kids Tr t sz enc w B G A m c xs vs) : Kids Tr' t sz enc w B G A m c xs vs := ⟨h.own, h.len, fun i hi hi' => hT _ _ _ (h.tree i hi hi')⟩
structure BoxAt (w : World) (vb d : Nat) (f : RFr) (la : Option Addr) (ln lc : Nat) (ma : Option Addr) (mn mc : Nat) : Prop where
  blk : Blk w vb 30 #[.int .i64 (if f.mem then 5 else 4), .bool false, .int .i64 0, .string ⟨#[]⟩, .slice la ln lc, .slice ma mn mc]
  its : ∃ xs, Kids (TrV d) 30 6 VA.enc w (vb + 1) (fun g => vb < g) la ln lc xs f.items
  mes : ∃ ms, Kids (TrM d) 60 7 MA.enc w (vb + 1) (fun g => vb < g) ma mn mc ms f.mems
def BoxEx (w : World) (vb d : Nat) (f : RFr) : Prop := ∃ la ln lc ma mn mc, BoxAt w vb d f la ln lc ma mn mc
section
variable {w w' : World} {vb d : Nat} {f : RFr} {la ma : Option Addr} {ln lc mn mc : Nat} {S : Nat → Prop}
theorem BoxAt.mod (h : BoxAt w vb d f la ln lc ma mn mc) (hm : Mod S w w') (hS : ∀ g, vb ≤ g → g < w.heap.size → ¬ S g) : BoxAt w' vb d f la ln lc ma mn mc := by
  obtain ⟨xs, h1⟩ := h.its
  obtain ⟨ms, h2⟩ := h.mes
  refine ⟨h.blk.mod hm (hS vb (Nat.le_refl _) h.blk.lt), ⟨xs, h1.mod (trV_ok d) hm (fun g hg ht => ?_) (fun g hg => ?_)⟩, ⟨ms, h2.mod (trM_ok d) hm (fun g hg ht => ?_) (fun g hg => ?_)⟩⟩
  · exact hS g (Nat.le_of_lt hg) (by rcases ht with ht | ht <;> exact ht.lt)
  · have := h1.own.far' g hg; exact hS g (by omega) this.2.1
  · exact hS g (Nat.le_of_lt hg) (by rcases ht with ht | ht <;> exact ht.lt)
  · have := h2.own.far' g hg; exact hS g (by omega) this.2.1
theorem BoxAt.upto (h : BoxAt w vb d f la ln lc ma mn mc) {d' : Nat} (hd : d ≤ d') : BoxAt w vb d' f la ln lc ma mn mc := by
  obtain ⟨xs, h1⟩ := h.its
  obtain ⟨ms, h2⟩ := h.mes
  exact ⟨h.blk, ⟨xs, h1.lift (fun G x v q => Tree.upto hd q)⟩, ⟨ms, h2.lift (fun G x v q => ⟨q.1, Tree.upto hd q.2⟩)⟩⟩
theorem BoxEx.mod (h : BoxEx w vb d f) (hm : Mod S w w') (hS : ∀ g, vb ≤ g → g < w.heap.size → ¬ S g) : BoxEx w' vb d f := by
  obtain ⟨la, ln, lc, ma, mn, mc, h⟩ := h
  exact ⟨la, ln, lc, ma, mn, mc, h.mod hm hS⟩
theorem BoxEx.upto (h : BoxEx w vb d f) {d' : Nat} (hd : d ≤ d') : BoxEx w vb d' f := by
  obtain ⟨la, ln, lc, ma, mn, mc, h⟩ := h
  exact ⟨la, ln, lc, ma, mn, mc, h.upto hd⟩
end
/-- what is known of a box at a place -/
structure FrOk (f : RFr) (i : Nat) : Prop where
  li : f.items.length ≤ i
  lm : f.mems.length ≤ i
  nd : (f.mems.map (·.1)).Nodup
  em : f.mem = false → f.mems = []
  ei : f.mem = true → f.items = []
theorem FrOk.new (m : Bool) (i : Nat) : FrOk (RFr.new m) i := ⟨Nat.zero_le _, Nat.zero_le _, List.nodup_nil, fun _ => rfl, fun _ => rfl⟩
theorem FrOk.more {f : RFr} {i j : Nat} (h : FrOk f i) (hj : i ≤ j) : FrOk f j := ⟨Nat.le_trans h.li hj, Nat.le_trans h.lm hj, h.nd, h.em, h.ei⟩
/-- a box of whatever content -/
def RawBox (w : World) (vb : Nat) (m : Bool) : Prop := ∃ (la : Option Addr) (ln lc : Nat) (ma : Option Addr) (mn mc : Nat) (ms : List MA), Blk w vb 30 #[.int .i64 (if m then 5 else 4), .bool false, .int .i64 0, .string ⟨#[]⟩, .slice la ln lc, .slice ma mn mc] ∧ Own w (vb + 1) 60 7 MA.enc ma mn mc ms ∧ mn ≤ 300000
theorem RawBox.mod {w w' : World} {vb : Nat} {m : Bool} {S : Nat → Prop} (h : RawBox w vb m) (hm : Mod S w w') (hS : ∀ g, vb ≤ g → ¬ S g) : RawBox w' vb m := by
  obtain ⟨la, ln, lc, ma, mn, mc, ms, h1, h2, h3⟩ := h
  exact ⟨la, ln, lc, ma, mn, mc, ms, h1.mod hm (hS vb (Nat.le_refl _)), h2.mod hm (fun g hg => hS g (by have := (h2.far' g hg).1; omega)), h3⟩
theorem BoxEx.raw {w : World} {vb d i : Nat} {f : RFr} (h : BoxEx w vb d f) (hf : FrOk f i) (hi : i ≤ 300000) : RawBox w vb f.mem := by
  obtain ⟨la, ln, lc, ma, mn, mc, h⟩ := h
  obtain ⟨ms, h2⟩ := h.mes
  exact ⟨la, ln, lc, ma, mn, mc, ms, h.blk, h2.own, by have h3 := h2.len; have h4 := hf.lm; omega⟩
/-- a value read from i on -/
def RVl (s : ByteArray) (b i : Nat) (w : World) (e : Ending) (w' : World) : Prop :=
  Only b w w' ∧ ∃ (A : VA) (j : Nat), e = .returned A.val ∧ j ≤ s.size ∧
    ((∃ v, i < j ∧ Blk w' b 53 (RRc s j (-1)) ∧ Tree w' (fun g => w.heap.size ≤ g) j A v ∧ ∀ st, Leads s.data.toList (.run true st i) (putS st v j)) ∨
     (∃ p : Nat, Blk w' b 53 (RRc s j (p : Int)) ∧ ∀ st, Leads s.data.toList (.run true st i) (.bad p)))
/-- an item read from i on, into the box vb -/
def RItem (s : ByteArray) (b vb i : Nat) (f : RFr) (w : World) (e : Ending) (w' : World) : Prop :=
  e = .returned (.tuple #[]) ∧ Mod (fun k => k = b ∨ vb ≤ k) w w' ∧ ∃ j : Nat, j ≤ s.size ∧
    ((∃ f' : RFr, i < j ∧ f'.mem = f.mem ∧ FrOk f' j ∧ Blk w' b 53 (RRc s j (-1)) ∧ BoxEx w' vb j f' ∧ ∀ st, Leads s.data.toList (startS s.data.toList f st i) (.run false (f' :: st) j)) ∨
     (∃ p : Nat, Blk w' b 53 (RRc s j (p : Int)) ∧ RawBox w' vb f.mem ∧ ∀ st, Leads s.data.toList (startS s.data.toList f st i) (.bad p)))
/-- all that stands in brackets that begin at k -/
def RList (s : ByteArray) (b vb k : Nat) (m : Bool) (w : World) (e : Ending) (w' : World) : Prop :=
  e = .returned (.tuple #[]) ∧ Mod (fun k => k = b ∨ vb ≤ k) w w' ∧ ∃ j : Nat, j ≤ s.size ∧
    ((∃ f : RFr, k < j ∧ f.mem = m ∧ FrOk f j ∧ Blk w' b 53 (RRc s j (-1)) ∧ BoxEx w' vb (j - 1) f ∧ ∀ st, Leads s.data.toList (begK s.data.toList st k) (putS st f.value j)) ∨
     (∃ p : Nat, Blk w' b 53 (RRc s j (p : Int)) ∧ RawBox w' vb m ∧ ∀ st, Leads s.data.toList (begK s.data.toList st k) (.bad p)))
def faultAt (b : Nat) (w : World) : Int := match w.cell? ⟨b, 2, none⟩ with
  | some v => intOf v
  | none => 0
/-- how much is left, read off the reader's block -/
def mR (b n : Nat) (w : World) : Nat := if faultAt b w < 0 then n + 1 - iAt b w else 0
theorem mR_of {b n : Nat} {s : ByteArray} {w : World} {i : Nat} {f : Int} (h : Blk w b 53 (RRc s i f)) : mR b n w = if f < 0 then n + 1 - i else 0 := by
  have c1 := h.cell 1
  have c2 := h.cell 2
  simp only [RRc, at0, List.getElem?_toArray, List.getElem?_cons_zero, List.getElem?_cons_succ] at c1 c2
  unfold mR faultAt
  rw [c2, iAt_of c1]
  rfl
theorem ref_next (s : ByteArray) (i b : Nat) (f : Int) (w : World) (hs : s.size ≤ 300000) (hi : i ≤ s.size) (hb : Blk w b 53 (RRc s i f)) :
    Calls Tryz.prog 20 #[.pointer (some ⟨b, 0, none⟩)] w fun e w' => e = .returned (.int .u8 ((topAt s.data.toList (spanAt blankB s.data.toList i)).toNat : Int)) ∧ Blk w' b 53 (RRc s (spanAt blankB s.data.toList i) f) ∧ Only b w w' := by
  refine (ref_nextA s [.int .i64 f] i b w hs hi hb).mono ?_
  rintro e w' ⟨h1, h2, h3⟩
  exact ⟨h1, h2, h3⟩
end Go.Proofs.YtjmnkdkdjnmejaaGreatDoor
