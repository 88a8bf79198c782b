/- Reading values: the reference's list of items in brackets, whatever reads an item. Conditions: a text of at most 240000 bytes. -/
import Derived.Test.YtjmnkdkdjnmejaaGreatDoorRrRowGrp
namespace Go.Proofs.YtjmnkdkdjnmejaaGreatDoor
open Go.RowKit
set_option linter.unusedVariables false
set_option linter.unusedSimpArgs false

set_option maxHeartbeats 1500000
set_option maxRecDepth 100000 in
theorem ref_list (s : ByteArray) (b vb k F : Nat) (m : Bool) (caps : Array Value) (eg : ∀ args w, (callFunc F args).run Tryz.prog w = .ok (.enter F args) w) (w : World) (hs : s.size ≤ 240000) (hk : k < s.size) (hbv : b < vb)
    (hb : Blk w b 53 (RRc s k (-1))) (ho : topAt s.data.toList k = openB m) (hx : BoxEx w vb k (RFr.new m))
    (hitem : ∀ (i : Nat) (f : RFr) (W : World), Mod (fun g => g = b ∨ vb ≤ g) w W → k < i → i ≤ s.size → f.mem = m → FrOk f i → Blk W b 53 (RRc s i (-1)) → BoxEx W vb i f → Calls Tryz.prog F caps W (RItem s b vb i f W)) :
    Calls Tryz.prog 41 #[.pointer (some ⟨b, 0, none⟩), .int .u8 ((endB m).toNat : Int), .func (.func F) #[] caps] w (RList s b vb k m w) := by
  obtain ⟨L, hL⟩ : ∃ L, s.data.toList = L := ⟨_, rfl⟩
  have HL := hId hL
  have HLL : Hid (L.length = s.size) := hId (by rw [← hL]; rfl)
  rw [hL] at ho
  have HIT := hId hitem
  have HBK := hId (fun st => begK_open m st ho)
  have HG : Hid (∀ e w', (e = .returned (.tuple #[]) ∧ Mod (fun k => k = b ∨ vb ≤ k) w w' ∧ ∃ j : Nat, j ≤ s.size ∧
    ((∃ f : RFr, k < j ∧ f.mem = m ∧ FrOk f j ∧ Blk w' b 53 (RRc s j (-1)) ∧ BoxEx w' vb (j - 1) f ∧ ∀ st, Leads L (begK L st k) (putS st f.value j)) ∨
     (∃ p : Nat, Blk w' b 53 (RRc s j (p : Int)) ∧ RawBox w' vb m ∧ ∀ st, Leads L (begK L st k) (.bad p)))) → RList s b vb k m w e w') := hId (fun e w' h => by unfold RList; rw [hL]; exact h)
  clear hL hitem
  obtain ⟨E, hE⟩ : ∃ E : UInt8, endB m = E := ⟨_, rfl⟩
  have HEB := hId hE
  rw [hE]
  simp only [hE] at HBK
  clear hE
  have hEn : E ≠ 44 := by rw [← HEB.out]; cases m <;> decide
  have hE0 : E ≠ 0 := by rw [← HEB.out]; cases m <;> decide
  -- the opening bracket
  have hB1 := hb.set 1 (.int .i64 ((k : Int) + 1))
  have HB1 : Hid (Blk (w.setCell ⟨b, 1, none⟩ (.int .i64 ((k : Int) + 1))) b 53 (RRc s (k + 1) (-1))) := hId hB1
  have HM1 : Hid (Mod (fun g => g = b ∨ vb ≤ g) w (w.setCell ⟨b, 1, none⟩ (.int .i64 ((k : Int) + 1)))) := hId ((Mod.refl (fun g => g = b ∨ vb ≤ g) w).setCell (p := ⟨b, 1, none⟩) (.inl (.inl rfl)) _)
  have HX1 : Hid (BoxEx (w.setCell ⟨b, 1, none⟩ (.int .i64 ((k : Int) + 1))) vb k (RFr.new m)) := hId (hx.mod ((Mod.refl (fun g => g = b) w).setCell (p := ⟨b, 1, none⟩) (.inl rfl) _) (fun g h1 _ e => by omega))
  have HB := hId hb
  have c1 := HB.out.cell 1
  have c2 := HB.out.cell 2
  have z1 := HB.out.frozen 1
  have bl := HB.out.lt
  simp only [RRc, at0, lqt, lqz, lqs] at c1 c2
  have hk9 : (k : Int) + 1 ≤ 300000 := by omega
  have hk8 : 0 ≤ (k : Int) := by omega
  clear hB1 hb hx ho
  go_enter Tryz.func41, Tryz.ntmps41
  go_upto_region 1 with (fail)
  clear c1 c2 z1 bl HB
  generalize w.setCell ⟨b, 1, none⟩ (.int .i64 ((k : Int) + 1)) = w1 at *
  have hnx := ref_next s (k + 1) b (-1) w1 (by omega) hk HB1.out
  simp only [HL.out] at hnx
  obtain ⟨K, hK⟩ : ∃ K, spanAt blankB L (k + 1) = K := ⟨_, rfl⟩
  have hKs : K ≤ s.size := by rw [← hK, ← HL.out]; exact spanL_size _ _ hk
  have hKk : k + 1 ≤ K := by rw [← hK]; exact spanAt_ge _ _ _
  simp only [hK] at hnx HBK
  clear hK
  obtain ⟨c, hc⟩ : ∃ c, topAt L K = c := ⟨_, rfl⟩
  simp only [hc] at hnx HBK
  have HC := hId hc
  clear hc
  go_wp2_with fail
  refine hnx.mono ?_
  clear hnx
  rintro e w2 ⟨rfl, hb2, hm2⟩
  have HB2 := hId hb2
  have HM2 : Hid (Mod (fun g => g = b ∨ vb ≤ g) w w2) := hId (HM1.out.trans (hm2.mono (fun g _ e => .inl e)))
  have HX2 : Hid (BoxEx w2 vb k (RFr.new m)) := hId (HX1.out.mod hm2 (fun g h1 _ e => by omega))
  clear hb2 hm2 HB1 HM1 HX1
  have c1 := HB2.out.cell 1
  have c2 := HB2.out.cell 2
  have z1 := HB2.out.frozen 1
  have bl := HB2.out.lt
  simp only [RRc, at0, lqt, lqz, lqs] at c1 c2
  by_cases hcE : c = E
  · have hlt : K < s.size := by
      have h1 := topAt_lt (s := L) (i := K) (by rw [HC.out, hcE]; exact hE0)
      rw [HLL.out] at h1
      exact h1
    subst hcE
    have hB3 := HB2.out.set 1 (.int .i64 ((K : Int) + 1))
    have HB3 : Hid (Blk (w2.setCell ⟨b, 1, none⟩ (.int .i64 ((K : Int) + 1))) b 53 (RRc s (K + 1) (-1))) := hId hB3
    have HO3 : Hid (Only b w2 (w2.setCell ⟨b, 1, none⟩ (.int .i64 ((K : Int) + 1)))) := hId ((Mod.refl (fun g => g = b) w2).setCell (p := ⟨b, 1, none⟩) (.inl rfl) _)
    have hk7 : (K : Int) + 1 ≤ 300000 := by omega
    have hk6 : 0 ≤ (K : Int) := by omega
    clear hB3
    go_wp2_with fail
    go_end0
    refine HG.out _ _ ⟨rfl, HM2.out.trans (HO3.out.mono (fun g _ e => .inl e)), K + 1, hlt, .inl ⟨RFr.new m, by omega, rfl, FrOk.new _ _, HB3.out, (HX2.out.mod HO3.out (fun g h1 _ e => by omega)).upto (by omega), fun st => ?_⟩⟩
    rw [HBK.out st, if_pos trivial]
    exact .refl _
  · have hcn : ((c.toNat : Int) == (E.toNat : Int)) = false := by
      have : c.toNat ≠ E.toNat := fun e => hcE (UInt8.toNat_inj.1 e)
      simp; omega
    have HST : Hid (∀ st, begK L st k = startS L (RFr.new m) st K) := hId (fun st => by rw [HBK.out st, if_neg hcE])
    clear HBK
    go_wp2_with fail
    clear c1 c2 z1 bl
    go_loopw [37] (fun _ wr => Hid (Mod (fun g => g = b ∨ vb ≤ g) w wr) ∧ ∃ j : Nat, j ≤ s.size ∧
      ((∃ f : RFr, k < j ∧ f.mem = m ∧ Hid (FrOk f j) ∧ Hid (Blk wr b 53 (RRc s j (-1))) ∧ Hid (BoxEx wr vb j f) ∧ Hid (∀ st, Leads L (begK L st k) (startS L f st j))) ∨
       (∃ p : Nat, Hid (Blk wr b 53 (RRc s j (p : Int))) ∧ Hid (RawBox wr vb m) ∧ Hid (∀ st, Leads L (begK L st k) (.bad p))))) (fun _ wr => mR b s.size wr)
    case atStart => exact ⟨HM2, K, hKs, .inl ⟨RFr.new m, by omega, rfl, hId (FrOk.new _ _), HB2, hId (HX2.out.upto (by omega)), hId (fun st => by rw [HST.out st]; exact .refl _)⟩⟩
    case round =>
      clear HB2 HX2 HM2 HST
      rename World => wr
      obtain ⟨HM, j, hj, hor⟩ := hrel
      rcases hor with ⟨f, hkj, hfm, HFO, HB, HX, HLD⟩ | ⟨p, HB, HRW, HLD⟩
      · have HMR : Hid (mR b s.size wr = s.size + 1 - j) := hId (by rw [mR_of HB.out, if_pos (by decide)])
        have hca := HIT.out j f wr HM.out hkj hj hfm HFO.out HB.out HX.out
        have c1 := HB.out.cell 1
        have c2 := HB.out.cell 2
        have z1 := HB.out.frozen 1
        have bl := HB.out.lt
        simp only [RRc, at0, lqt, lqz, lqs] at c1 c2
        go_wp2_with fail
        refine hca.mono ?_
        clear hca c1 c2 z1 bl
        rintro e w3 ⟨rfl, hm3, j3, hj3, hor⟩
        have HM3 : Hid (Mod (fun g => g = b ∨ vb ≤ g) w w3) := hId (HM.out.trans hm3)
        clear hm3
        rcases hor with ⟨f3, hij, hf3, hfo3, hb3, hx3, hld3⟩ | ⟨p, hb3, hrw3, hld3⟩
        · have HB3 := hId hb3
          have HX3 := hId hx3
          have HFO3 := hId hfo3
          have hfm3 : f3.mem = m := hf3.trans hfm
          have HL3 : Hid (∀ st, Leads L (begK L st k) (.run false (f3 :: st) j3)) := hId (fun st => (HLD.out st).trans (by have := hld3 st; rw [HL.out] at this; exact this))
          clear hb3 hx3 hfo3 hld3 hf3 HB HX HFO HLD
          have hnx := fun W (hW : New w3 W) => ref_next s j3 b (-1) W (by omega) hj3 (HB3.out.mod hW (fun e => e))
          simp only [HL.out] at hnx
          obtain ⟨K3, hK3⟩ : ∃ K3, spanAt blankB L j3 = K3 := ⟨_, rfl⟩
          have hKs3 : K3 ≤ s.size := by rw [← hK3, ← HL.out]; exact spanL_size _ _ hj3
          have hKk3 : j3 ≤ K3 := by rw [← hK3]; exact spanAt_ge _ _ _
          have HK3 := hId hK3
          simp only [hK3] at hnx
          clear hK3
          obtain ⟨d, hd⟩ : ∃ d, topAt L K3 = d := ⟨_, rfl⟩
          simp only [hd] at hnx
          have HD := hId hd
          clear hd
          have c1 := HB3.out.cell 1
          have c2 := HB3.out.cell 2
          have z1 := HB3.out.frozen 1
          have bl := HB3.out.lt
          simp only [RRc, at0, lqt, lqz, lqs] at c1 c2
          go_wp2_with fail
          refine (hnx _ (by with_reducible (repeat (first | exact Mod.refl _ _ | refine Mod.drewN ?_ _ | refine Mod.drew ?_ | refine Mod.alloc ?_ _)))).mono ?_
          clear hnx c1 c2 z1 bl
          rintro e w4 ⟨rfl, hb4, hm4⟩
          have HB4 := hId hb4
          have HO4 : Hid (Only b w3 w4) := hId ((show Only b w3 _ from (by with_reducible (repeat (first | exact Mod.refl _ _ | refine Mod.drewN ?_ _ | refine Mod.drew ?_ | refine Mod.alloc ?_ _)))).trans hm4)
          have HX4 : Hid (BoxEx w4 vb j3 f3) := hId (HX3.out.mod HO4.out (fun g h1 _ e => by omega))
          have HM4 : Hid (Mod (fun g => g = b ∨ vb ≤ g) w w4) := hId (HM3.out.trans (HO4.out.mono (fun g _ e => .inl e)))
          clear hb4 hm4 HO4
          have c1 := HB4.out.cell 1
          have c2 := HB4.out.cell 2
          have z1 := HB4.out.frozen 1
          have bl := HB4.out.lt
          simp only [RRc, at0, lqt, lqz, lqs] at c1 c2
          have hstep : ∀ st, stepS L (.run false (f3 :: st) j3) = nextK L f3 st K3 := fun st => by rw [← HK3.out]; rfl
          have HSTEP := hId hstep
          clear hstep
          by_cases hdE : d = E
          · have hlt : K3 < s.size := by
              have h1 := topAt_lt (s := L) (i := K3) (by rw [HD.out, hdE]; exact hE0)
              rw [HLL.out] at h1
              exact h1
            subst hdE
            have hB5 := HB4.out.set 1 (.int .i64 ((K3 : Int) + 1))
            have HB5 : Hid (Blk (w4.setCell ⟨b, 1, none⟩ (.int .i64 ((K3 : Int) + 1))) b 53 (RRc s (K3 + 1) (-1))) := hId hB5
            have HO5 : Hid (Only b w4 (w4.setCell ⟨b, 1, none⟩ (.int .i64 ((K3 : Int) + 1)))) := hId ((Mod.refl (fun g => g = b) w4).setCell (p := ⟨b, 1, none⟩) (.inl rfl) _)
            have hk7 : (K3 : Int) + 1 ≤ 300000 := by omega
            have hk6 : 0 ≤ (K3 : Int) := by omega
            clear hB5
            go_wp2_with fail
            go_end0
            refine HG.out _ _ ⟨rfl, HM4.out.trans (HO5.out.mono (fun g _ e => .inl e)), K3 + 1, hlt, .inl ⟨f3, by omega, hfm3, HFO3.out.more (by omega), HB5.out, (HX4.out.mod HO5.out (fun g h1 _ e => by omega)).upto (by omega), fun st => ?_⟩⟩
            refine (HL3.out st).trans (Leads.one ?_)
            rw [HSTEP.out st, nextK_end f3 st (by rw [HD.out, hfm3, HEB.out])]
          · have hdn : ((d.toNat : Int) == (E.toNat : Int)) = false := by
              have : d.toNat ≠ E.toNat := fun e => hdE (UInt8.toNat_inj.1 e)
              simp; omega
            by_cases h44 : d = 44
            · have hlt : K3 < s.size := by
                have h1 := topAt_lt (s := L) (i := K3) (by rw [HD.out, h44]; decide)
                rw [HLL.out] at h1
                exact h1
              have h44t : ((d.toNat : Int) == 44) = true := by rw [h44]; rfl
              have H44 := hId h44
              clear h44
              have hB5 := HB4.out.set 1 (.int .i64 ((K3 : Int) + 1))
              have HB5 : Hid (Blk (w4.setCell ⟨b, 1, none⟩ (.int .i64 ((K3 : Int) + 1))) b 53 (RRc s (K3 + 1) (-1))) := hId hB5
              have HO5 : Hid (Only b w4 (w4.setCell ⟨b, 1, none⟩ (.int .i64 ((K3 : Int) + 1)))) := hId ((Mod.refl (fun g => g = b) w4).setCell (p := ⟨b, 1, none⟩) (.inl rfl) _)
              have hk7 : (K3 : Int) + 1 ≤ 300000 := by omega
              have hk6 : 0 ≤ (K3 : Int) := by omega
              have HMR5 : Hid (mR b s.size (w4.setCell ⟨b, 1, none⟩ (.int .i64 ((K3 : Int) + 1))) = s.size + 1 - (K3 + 1)) := hId (by rw [mR_of HB5.out, if_pos (by decide)])
              clear hB5
              go_wp2_with fail
              go_roundw
              case rel => exact ⟨hId (HM4.out.trans (HO5.out.mono (fun g _ e => .inl e))), K3 + 1, hlt, .inl ⟨f3, by omega, hfm3, hId (HFO3.out.more (by omega)), HB5, hId ((HX4.out.mod HO5.out (fun g h1 _ e => by omega)).upto (by omega)), hId (fun st => (HL3.out st).trans (Leads.one (by rw [HSTEP.out st, nextK_start f3 st (HD.out.trans H44.out)])))⟩⟩
              case measure =>
                rw [HMR5.out, HMR.out]
                omega
            · have h44n : ((d.toNat : Int) == 44) = false := by
                have : d.toNat ≠ 44 := fun e => h44 (UInt8.toNat_inj.1 e)
                simp; omega
              have hwr := fun W (hW : New w4 W) => ref_wrong s K3 (-1) K3 b W (HB4.out.mod hW (fun e => e))
              go_wp2_with fail
              refine (hwr _ (by with_reducible (repeat (first | exact Mod.refl _ _ | refine Mod.drewN ?_ _ | refine Mod.drew ?_ | refine Mod.alloc ?_ _)))).mono ?_
              clear hwr
              rintro e w5 ⟨rfl, hb5, hm5⟩
              rw [if_pos (by decide)] at hb5
              have HB5 := hId hb5
              have HO5 : Hid (Only b w4 w5) := hId ((show Only b w4 _ from (by with_reducible (repeat (first | exact Mod.refl _ _ | refine Mod.drewN ?_ _ | refine Mod.drew ?_ | refine Mod.alloc ?_ _)))).trans hm5)
              have HM5 : Hid (Mod (fun g => g = b ∨ vb ≤ g) w w5) := hId (HM4.out.trans (HO5.out.mono (fun g _ e => .inl e)))
              have HMR5 : Hid (mR b s.size w5 = 0) := hId (by rw [mR_of HB5.out, if_neg (by omega)])
              clear hb5 hm5
              go_wp2_with fail
              go_roundw
              case rel => exact ⟨HM5, K3, hKs3, .inr ⟨K3, HB5, hId (by have h5 := (HX4.out.raw HFO3.out (by omega)).mod HO5.out (fun g hg e => by have h6 : g = b := e; omega); rw [hfm3] at h5; exact h5), hId (fun st => (HL3.out st).trans (Leads.one (by rw [HSTEP.out st, nextK_bad f3 st (by rw [HD.out]; exact h44) (by rw [HD.out, hfm3, HEB.out]; exact hdE)])))⟩⟩
              case measure =>
                rw [HMR5.out, HMR.out]
                omega
        · have HB3 := hId hb3
          have HL3 : Hid (∀ st, Leads L (begK L st k) (.bad p)) := hId (fun st => (HLD.out st).trans (by have := hld3 st; rw [HL.out] at this; exact this))
          rw [hfm] at hrw3
          have HRW := hId hrw3
          clear hb3 hld3 hrw3
          have c1 := HB3.out.cell 1
          have c2 := HB3.out.cell 2
          have z1 := HB3.out.frozen 1
          have bl := HB3.out.lt
          simp only [RRc, at0, lqt, lqz, lqs] at c1 c2
          have hpz : (0 : Int) ≤ (p : Int) := by omega
          go_wp2_with fail
          go_end0
          exact HG.out _ _ ⟨rfl, HM3.out, j3, hj3, .inr ⟨p, HB3.out, HRW.out, HL3.out⟩⟩
      · have c1 := HB.out.cell 1
        have c2 := HB.out.cell 2
        have z1 := HB.out.frozen 1
        have bl := HB.out.lt
        simp only [RRc, at0, lqt, lqz, lqs] at c1 c2
        have hpz : ¬ (p : Int) < 0 := by omega
        go_wp2_with fail
        go_end0
        exact HG.out _ _ ⟨rfl, HM.out, j, hj, .inr ⟨p, HB.out, HRW.out, HLD.out⟩⟩
end Go.Proofs.YtjmnkdkdjnmejaaGreatDoor
