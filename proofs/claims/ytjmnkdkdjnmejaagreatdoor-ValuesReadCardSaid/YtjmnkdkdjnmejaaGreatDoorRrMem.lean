/- Reading values, the reference's side: a member. Conditions: a text of at most 240000 bytes. -/
import Derived.Test.YtjmnkdkdjnmejaaGreatDoorRrIt1
namespace Go.Proofs.YtjmnkdkdjnmejaaGreatDoor
open Go.RowKit
set_option linter.unusedVariables false
set_option linter.unusedSimpArgs false
set_option maxHeartbeats 1500000
set_option maxRecDepth 100000 in
theorem ref_member (s : ByteArray) (b vb i : Nat) (f : RFr) (w : World) (hs : s.size ≤ 240000) (hi : i ≤ s.size) (hf : f.mem = true) (hfo : FrOk f i) (hbv : b < vb)
    (hb : Blk w b 53 (RRc s i (-1))) (hx : BoxEx w vb i f)
    (hval : ∀ (W : World) (J : Nat), Only b w W → i < J → J ≤ s.size → Blk W b 53 (RRc s J (-1)) → Calls Tryz.prog 19 #[.pointer (some ⟨b, 0, none⟩)] W (RVl s b J W)) :
    Calls Tryz.prog 44 #[.pointer (some ⟨b, 0, none⟩), .pointer (some ⟨vb, 0, none⟩)] w (RItem s b vb i f w) := by
  obtain ⟨la, ln, lc, ma, mn, mc, hx⟩ := hx
  obtain ⟨ms, hms⟩ := hx.mes
  have hbk := hx.blk
  rw [hf] at hbk
  simp only [if_true] at hbk
  have hmn : mn ≤ 240000 := by have h1 := hms.len; have h2 := hfo.lm; omega
  have HBX := hId hbk
  have HBA := hId hx
  have HKV := hId hms
  have HFO := hId hfo
  have HVAL := hId hval
  have HF := hId hf
  have hvl0 := hbk.lt
  obtain ⟨L, hL⟩ : ∃ L, s.data.toList = L := ⟨_, rfl⟩
  have HL := hId hL
  have HLL : Hid (L.length = s.size) := hId (by rw [← hL]; rfl)
  have HG : Hid (∀ (w' : World) (j p : Nat), Only b w w' → j ≤ s.size → Blk w' b 53 (RRc s j (p : Int)) → (∀ st, memS L f st i = .bad p) → RItem s b vb i f w (.returned (.tuple #[])) w') := hId (fun w' j p h1 h2 h3 h4 => by
    refine ⟨rfl, h1.mono (fun k _ e => .inl e), j, h2, .inr ⟨p, h3, (BoxEx.raw ⟨la, ln, lc, ma, mn, mc, hx⟩ hfo (by omega)).mod h1 (fun g hg e => by have h5 : g = b := e; omega), fun st => ?_⟩⟩
    rw [hL]
    unfold startS
    rw [if_pos hf, h4]
    exact .refl _)
  clear hbk hms hval hx hL
  obtain ⟨K, hK⟩ : ∃ K, spanAt blankB L i = K := ⟨_, rfl⟩
  have HK := hId hK
  have hKs : K ≤ s.size := by rw [← hK, ← HL.out]; exact spanL_size _ _ hi
  have hKi : i ≤ K := by rw [← hK]; exact spanAt_ge _ _ _
  have hnx := ref_next s i b (-1) w (by omega) hi hb
  simp only [HL.out, hK] at hnx
  clear hK hb
  obtain ⟨c, hc⟩ : ∃ c, topAt L K = c := ⟨_, rfl⟩
  simp only [hc] at hnx
  have HC := hId hc
  clear hc
  go_enter Tryz.func44, Tryz.ntmps44
  go_wp2_with fail
  refine hnx.mono ?_
  clear hnx
  rintro e w2 ⟨rfl, hb2, hm2⟩
  have HB2 := hId hb2
  have HM2 := hId hm2
  clear hb2 hm2
  have c1 := HB2.out.cell 1
  have c2 := HB2.out.cell 2
  have z1 := HB2.out.frozen 1
  have bl := HB2.out.lt
  simp only [RRc, at0, lqt, lqz, lqs] at c1 c2
  by_cases h34 : c = 34
  · have hlt : K < s.size := by
      have h1 := topAt_lt (s := L) (i := K) (by rw [HC.out, h34]; decide)
      rw [HLL.out] at h1
      exact h1
    subst h34
    have hwd := ref_words s K b w2 (by omega) hlt HB2.out
    unfold RWds at hwd
    simp only [HL.out] at hwd
    generalize hwq : wordsOf (L.drop (K + 1)) = wq at hwd
    have HWQ := hId hwq
    clear hwq
    go_upto_region 3 with (fail)
    clear c1 c2 z1 bl
    go_wp2_with fail
    refine hwd.mono ?_
    clear hwd
    rintro e w3 ⟨hm3, hcase⟩
    have HM3 := hId (HM2.out.trans hm3)
    clear hm3
    -- the name, where the reader stands, its fault
    obtain ⟨nm, J, ft, rfl, hJ1, hJ2, hb3, hft⟩ : ∃ (nm : ByteArray) (J : Nat) (ft : Int), e = .returned (.string nm) ∧ K ≤ J ∧ J ≤ s.size ∧ Blk w3 b 53 (RRc s J ft) ∧ ((wq = none ∧ J = K ∧ ft = (K : Int)) ∨ (∃ o m, wq = some (o, m) ∧ nm = ⟨o.toArray⟩ ∧ J = K + 1 + m ∧ ft = -1)) := by
      cases wq with
      | none =>
        obtain ⟨t, h1, h2⟩ := hcase
        exact ⟨t, K, K, h1, Nat.le_refl _, hKs, h2, .inl ⟨rfl, rfl, rfl⟩⟩
      | some om =>
        obtain ⟨o, m⟩ := om
        obtain ⟨h1, h2⟩ := hcase
        have h3 := (words_some HWQ.out).2.1
        rw [List.length_drop, HLL.out] at h3
        exact ⟨⟨o.toArray⟩, K + 1 + m, -1, h1, by omega, by omega, h2, .inr ⟨o, m, rfl, rfl, rfl, rfl⟩⟩
    have HB3 := hId hb3
    have HFT := hId hft
    clear hb3 hft hcase
    go_upto_region 4 with (fail)
    have hmb0 := Blk.new w3 60 #[.string nm, .int .i64 0, .bool false, .int .i64 0, .string ⟨#[]⟩, .slice none 0 0, .slice none 0 0]
    have hn4 : New w3 (w3.alloc (.cells #[.string nm, .int .i64 0, .bool false, .int .i64 0, .string ⟨#[]⟩, .slice none 0 0, .slice none 0 0] 60)) := (Mod.refl _ _).alloc _
    generalize w3.alloc (.cells #[.string nm, .int .i64 0, .bool false, .int .i64 0, .string ⟨#[]⟩, .slice none 0 0, .slice none 0 0] 60) = w4 at *
    generalize hmbe : w3.heap.size = mb at *
    have HMB4 := hId hmb0
    have HB4 := hId (HB3.out.mod hn4 (fun e => e))
    have HM4 : Hid (Only b w w4) := hId (HM3.out.trans (hn4.mono (fun _ _ e => e.elim)))
    have HMBG : Hid (w.heap.size ≤ mb ∧ vb < mb ∧ b < mb) := hId (by
      have h1 := HM3.out.size
      have h2 := HBX.out.lt
      omega)
    clear hmb0 hn4 hmbe HB3 HM3
    have hbx4 := HBX.out.mod HM4.out (by omega)
    have own4 := HKV.out.own.mod HM4.out (fun g hg e => by have := (HKV.out.own.far' g hg).1; have h5 : g = b := e; omega)
    have hcf := containsFunc_mm 77 (.pointer (some ⟨mb, 0, none⟩)) enters_mem1 w4 ma mn mc ms nm own4.sl (fun p wr hw => mem1_v p nm mb wr (((HMB4.out.mod hw (fun e => e)).cell 0).trans rfl) (HMB4.out.mod hw (fun e => e)).lt) (by omega)
    rw [kids_names HKV.out nm] at hcf
    obtain ⟨q, hq⟩ : ∃ q, f.has nm = q := ⟨_, rfl⟩
    have hq2 : f.mems.any (fun p => decide (p.1 = nm)) = q := hq
    rw [hq2] at hcf
    have HQ := hId hq
    have v5 := hbx4.cell 5
    have vl := hbx4.lt
    simp only [lqt, lqz, lqs] at v5
    clear hq hq2 own4 hbx4
    go_wp2_with fail
    refine hcf.mono ?_
    clear hcf v5 vl
    rintro e w5 ⟨rfl, hm5⟩
    have HB5 := hId (HB4.out.mod hm5 (fun e => e))
    have HMB5 := hId (HMB4.out.mod hm5 (fun e => e))
    have HM5 : Hid (Only b w w5) := hId (HM4.out.trans (hm5.mono (fun _ _ e => e.elim)))
    clear hm5 HB4 HMB4 HM4
    cases q with
    | true =>
      have hwr := ref_wrong s J ft K b w5 HB5.out
      go_wp2_with fail
      refine hwr.mono ?_
      clear hwr
      rintro e w6 ⟨rfl, hb6, hm6⟩
      have hb6' : Blk w6 b 53 (RRc s J (K : Int)) := by
        rcases HFT.out with ⟨-, -, h3⟩ | ⟨o, m, -, -, -, h3⟩
        · rw [h3, if_neg (by omega)] at hb6; exact hb6
        · rw [h3, if_pos (by decide)] at hb6; exact hb6
      have HB6 := hId hb6'
      have HM6 := hId (HM5.out.trans hm6)
      clear hb6 hb6' hm6
      have c1 := HB6.out.cell 1
      have c2 := HB6.out.cell 2
      have z1 := HB6.out.frozen 1
      have bl := HB6.out.lt
      simp only [RRc, at0, lqt, lqz, lqs] at c1 c2
      have hpz : (0 : Int) ≤ (K : Int) := by omega
      go_wp2_with fail
      go_end0
      refine HG.out _ J K HM6.out hJ2 HB6.out (fun st => ?_)
      unfold memS
      rw [HK.out, if_neg (by rw [HC.out]; simp), HWQ.out]
      rcases HFT.out with ⟨h1, -, -⟩ | ⟨o, m, h1, h2, -, -⟩
      · rw [h1]
      · rw [h1]
        simp only
        rw [if_pos (by rw [← h2]; exact HQ.out)]
    | false =>
      rcases HFT.out with ⟨h1, h2, h3⟩ | ⟨o, m, h1, h2, h3, h4⟩
      · have HE1 := hId h1
        subst h2 h3
        clear h1
        have c1 := HB5.out.cell 1
        have c2 := HB5.out.cell 2
        have z1 := HB5.out.frozen 1
        have bl := HB5.out.lt
        simp only [RRc, at0, lqt, lqz, lqs] at c1 c2
        have hpz : (0 : Int) ≤ (J : Int) := by omega
        go_wp2_with fail
        go_end0
        refine HG.out _ J J HM5.out hJ2 HB5.out (fun st => ?_)
        unfold memS
        rw [HK.out, if_neg (by rw [HC.out]; simp), HWQ.out, HE1.out]
      · have HE1 := hId h1
        have HE2 := hId h2
        have HE3 := hId h3
        subst h4
        clear h1 h2 h3
        obtain ⟨K2, hK2⟩ : ∃ K2, spanAt blankB L J = K2 := ⟨_, rfl⟩
        have HK2 := hId hK2
        have hK2s : K2 ≤ s.size := by rw [← hK2, ← HL.out]; exact spanL_size _ _ hJ2
        have hK2i : J ≤ K2 := by rw [← hK2]; exact spanAt_ge _ _ _
        have hnx := ref_next s J b (-1) w5 (by omega) hJ2 HB5.out
        simp only [HL.out, hK2] at hnx
        clear hK2
        obtain ⟨d2, hd2⟩ : ∃ c, topAt L K2 = c := ⟨_, rfl⟩
        simp only [hd2] at hnx
        have HC2 := hId hd2
        clear hd2
        have HE0 : Hid (∀ st, memS L f st i = if d2 ≠ 58 then .bad K2 else .run true ({ f with name := nm } :: st) (K2 + 1)) := hId (fun st => by
          unfold memS
          rw [HK.out, if_neg (by rw [HC.out]; simp), HWQ.out, HE1.out]
          simp only
          rw [if_neg (by rw [← HE2.out, HQ.out]; simp), ← HE3.out, HK2.out, HC2.out, ← HE2.out])
        have c1 := HB5.out.cell 1
        have c2 := HB5.out.cell 2
        have z1 := HB5.out.frozen 1
        have bl := HB5.out.lt
        simp only [RRc, at0, lqt, lqz, lqs] at c1 c2
        go_wp2_with fail
        refine hnx.mono ?_
        clear hnx c1 c2 z1 bl
        rintro e w6 ⟨rfl, hb6, hm6⟩
        have HB6 := hId hb6
        have HM6 := hId (HM5.out.trans hm6)
        have HMB6 := hId (HMB5.out.mod hm6 (by have := HMBG.out; omega))
        clear hb6 hm6 HB5 HMB5 HM5
        have c1 := HB6.out.cell 1
        have z1 := HB6.out.frozen 1
        have bl := HB6.out.lt
        simp only [RRc, at0, lqt, lqz, lqs] at c1
        by_cases h58 : d2 = 58
        · have hlt2 : K2 < s.size := by
            have h1 := topAt_lt (s := L) (i := K2) (by rw [HC2.out, h58]; decide)
            rw [HLL.out] at h1
            exact h1
          subst h58
          have hk9 : (K2 : Int) + 1 ≤ 300000 := by omega
          have hk8 : 0 ≤ (K2 : Int) := by omega
          have hB7 := HB6.out.set 1 (.int .i64 ((K2 : Int) + 1))
          have HB7 : Hid (Blk (w6.setCell ⟨b, 1, none⟩ (.int .i64 ((K2 : Int) + 1))) b 53 (RRc s (K2 + 1) (-1))) := hId hB7
          have HO7 : Hid (Only b w6 (w6.setCell ⟨b, 1, none⟩ (.int .i64 ((K2 : Int) + 1)))) := hId ((Mod.refl (fun g => g = b) w6).setCell (p := ⟨b, 1, none⟩) (.inl rfl) _)
          have HM7 := hId (HM6.out.trans HO7.out)
          have HMB7 := hId (HMB6.out.mod HO7.out (by have := HMBG.out; omega))
          have hca := HVAL.out _ (K2 + 1) HM7.out (by omega) hlt2 HB7.out
          clear hB7
          go_wp2_with fail
          refine hca.mono ?_
          clear hca c1 z1 bl
          rintro e w8 ⟨hm8, A, j, rfl, hj, hor⟩
          obtain ⟨xk, xf, xn, xw, xla, xln, xlc, xma, xmn, xmc⟩ := A
          have HM8 := hId (HM7.out.trans hm8)
          have HMB8 := hId (HMB7.out.mod hm8 (by have := HMBG.out; omega))
          have hz7 : w.heap.size ≤ (w6.setCell ⟨b, 1, none⟩ (.int .i64 ((K2 : Int) + 1))).heap.size := HM7.out.size
          have HOR8 : Hid ((∃ v, i < j ∧ Blk w8 b 53 (RRc s j (-1)) ∧ Tree w8 (fun g => w.heap.size ≤ g ∧ g ≠ mb) j ⟨xk, xf, xn, xw, xla, xln, xlc, xma, xmn, xmc⟩ v ∧ ∀ st, Leads L (memS L f st i) (putS ({ f with name := nm } :: st) v j)) ∨ (∃ p : Nat, Blk w8 b 53 (RRc s j (p : Int)) ∧ ∀ st, Leads L (memS L f st i) (.bad p))) := hId (by
            have hmlt : mb < (w6.setCell ⟨b, 1, none⟩ (.int .i64 ((K2 : Int) + 1))).heap.size := HMB7.out.lt
            rcases hor with ⟨v, h1, h2, h3, h4⟩ | ⟨p, h2, h4⟩
            · refine .inl ⟨v, by omega, h2, Tree.imp (fun g hg _ => by have h5 : _ ≤ g := hg; exact ⟨by omega, by omega⟩) _ _ _ h3, fun st => ?_⟩
              rw [HE0.out st, if_neg (by simp)]
              have h5 := h4 ({ f with name := nm } :: st)
              rw [HL.out] at h5
              exact h5
            · refine .inr ⟨p, h2, fun st => ?_⟩
              rw [HE0.out st, if_neg (by simp)]
              have h5 := h4 ({ f with name := nm } :: st)
              rw [HL.out] at h5
              exact h5)
          clear hm8 hor HO7 HM7 HMB7 HB7 hz7
          have m1 := HMB8.out.cell 1
          have m2 := HMB8.out.cell 2
          have m3 := HMB8.out.cell 3
          have m4 := HMB8.out.cell 4
          have m5 := HMB8.out.cell 5
          have m6 := HMB8.out.cell 6
          have mf := HMB8.out.frozen
          have ml := HMB8.out.lt
          simp only [lqt, lqz, lqs] at m1 m2 m3 m4 m5 m6
          simp only [VA.val]
          go_upto_region 11 with (fail)
          clear m1 m2 m3 m4 m5 m6 mf ml
          have HMB9 := hId ((((((HMB8.out.set 1 (.int .i64 xk)).set 2 (.bool xf)).set 3 (.int .i64 xn)).set 4 (.string xw)).set 5 (.slice xla xln xlc)).set 6 (.slice xma xmn xmc))
          have HO9 : Hid (Only mb w8 ((((((w8.setCell ⟨mb, 1, none⟩ (.int .i64 xk)).setCell ⟨mb, 2, none⟩ (.bool xf)).setCell ⟨mb, 3, none⟩ (.int .i64 xn)).setCell ⟨mb, 4, none⟩ (.string xw)).setCell ⟨mb, 5, none⟩ (.slice xla xln xlc)).setCell ⟨mb, 6, none⟩ (.slice xma xmn xmc))) := hId (by with_reducible repeat (first | exact Mod.refl _ _ | refine Only.set ?_ _ _))
          generalize ((((((w8.setCell ⟨mb, 1, none⟩ (.int .i64 xk)).setCell ⟨mb, 2, none⟩ (.bool xf)).setCell ⟨mb, 3, none⟩ (.int .i64 xn)).setCell ⟨mb, 4, none⟩ (.string xw)).setCell ⟨mb, 5, none⟩ (.slice xla xln xlc)).setCell ⟨mb, 6, none⟩ (.slice xma xmn xmc)) = w9 at *
          have HM9 : Hid (Only b w w9) := hId (HM8.out.step HO9.out (fun k hk e => by have h5 : k = mb := e; have := HMBG.out.1; omega))
          have HOR9 : Hid ((∃ v, i < j ∧ Blk w9 b 53 (RRc s j (-1)) ∧ Tree w9 (fun g => vb < g ∧ blkOf ma ≠ some g) j ⟨xk, xf, xn, xw, xla, xln, xlc, xma, xmn, xmc⟩ v ∧ ∀ st, Leads L (memS L f st i) (putS ({ f with name := nm } :: st) v j)) ∨ (∃ p : Nat, Blk w9 b 53 (RRc s j (p : Int)) ∧ ∀ st, Leads L (memS L f st i) (.bad p))) := hId (by
            have hbm : b ≠ mb := by have := HMBG.out; omega
            rcases HOR8.out with ⟨v, h1, h2, h3, h4⟩ | ⟨p, h2, h4⟩
            · refine .inl ⟨v, h1, h2.mod HO9.out hbm, ?_, h4⟩
              have h5 := Tree.mod HO9.out (fun g hg _ e => hg.2 e) _ _ _ h3
              refine Tree.imp (fun g hg _ => ⟨by have := hg.1; have := HBX.out.lt; omega, fun e => ?_⟩) _ _ _ h5
              have h6 := (HKV.out.own.far' g e).2.1
              have := hg.1
              omega
            · exact .inr ⟨p, h2.mod HO9.out hbm, h4⟩)
          clear HMB8 HM8 HOR8 HO9
          refine wp_region_held_drew (S := New w9) (by kernel_rfl) (by with_reducible (repeat (first | exact Mod.refl _ _ | refine Mod.drewN ?_ _ | refine Mod.drew ?_ | refine Mod.alloc ?_ _))) (fun hHeld => ?_)
          simp only [List.size_toArray, List.length_cons, List.length_nil, Nat.reduceAdd]
          refine wpAnyH_ready (rs := [0]) (by kernel_rfl) (by simp) ?_
          refine AllReadyH.cons rfl (fun K hK => ?_) AllReadyH.nil
          have hfb := Blk.new w9 4 #[.bool false]
          (try simp only [lgt, lgz, lgs])
          go_simp
          refine hK.out _ _ (by with_reducible (repeat (first | exact Mod.refl _ _ | refine Mod.drewN ?_ _ | refine Mod.drew ?_ | refine Mod.alloc ?_ _))) (fun hHeld => ?_)
          clear hK
          (try simp only [Act.put, lgt, lgz, lgs, lst, lsz, lss])
          have HFB := hId (hfb.mod (show New _ (w9.alloc (.cells #[.bool false] 4)).drew from (by with_reducible (repeat (first | exact Mod.refl _ _ | refine Mod.drewN ?_ _ | refine Mod.drew ?_ | refine Mod.alloc ?_ _)))) (fun e => e))
          have HN9 : Hid (New w9 (w9.alloc (.cells #[.bool false] 4)).drew) := hId (by with_reducible (repeat (first | exact Mod.refl _ _ | refine Mod.drewN ?_ _ | refine Mod.drew ?_ | refine Mod.alloc ?_ _)))
          clear hfb hHeld
          generalize (w9.alloc (.cells #[.bool false] 4)).drew = wa at *
          obtain ⟨fb, hfbe⟩ : ∃ fb, w9.heap.size = fb := ⟨_, rfl⟩
          rw [hfbe] at HFB
          simp only [hfbe]
          have HFE := hId hfbe
          clear hfbe
          refine wpAnyH_ready (rs := [1, 2]) (by kernel_rfl) (by simp) ?_
          refine AllReadyH.cons rfl (fun K' hK => ?_) (AllReadyH.cons rfl (fun K' hK => ?_) AllReadyH.nil)
          · have fc := HFB.out.cell 0
            have ff := HFB.out.frozen 0
            have fl := HFB.out.lt
            simp only [lqt, lqz] at fc
            (try simp only [lgt, lgz, lgs])
            go_simp
            have HO1 : Hid (New w9 (wa.setCell ⟨fb, 0, none⟩ (.bool true))) := hId (HN9.out.setCell (p := ⟨fb, 0, none⟩) (.inr (by have := HFE.out; show w9.heap.size ≤ fb; omega)) _)
            refine hK.out _ _ HO1.out (fun hHeld => ?_)
            clear hK fc ff fl
            (try simp only [Act.put, lgt, lgz, lgs, lst, lsz, lss])
            have HFB1 := hId (HFB.out.set 0 (.bool true))
            generalize wa.setCell ⟨fb, 0, none⟩ (.bool true) = wb1 at *
            refine wpAnyH_ready (rs := [2]) (by kernel_rfl) (by simp) ?_
            refine AllReadyH.cons rfl (fun K'' hK => ?_) AllReadyH.nil
            have fc := HFB1.out.cell 0
            have ff := HFB1.out.frozen 0
            have fl := HFB1.out.lt
            simp only [lqt, lqz, lst, lsz] at fc
            (try simp only [lgt, lgz, lgs])
            go_simp
            have HO2 : Hid (New w9 (wb1.setCell ⟨fb, 0, none⟩ (.bool false))) := hId (HO1.out.setCell (p := ⟨fb, 0, none⟩) (.inr (by have := HFE.out; show w9.heap.size ≤ fb; omega)) _)
            refine hK.out _ _ HO2.out (fun hHeld => ?_)
            clear hK fc ff fl
            (try simp only [Act.put, lgt, lgz, lgs, lst, lsz, lss])
            have HFB2 := hId (HFB1.out.set 0 (.bool false))
            generalize wb1.setCell ⟨fb, 0, none⟩ (.bool false) = wp at *
            refine wpAnyH_ready (rs := [3]) (by kernel_rfl) (by simp) ?_
            refine AllReadyH.cons rfl (fun K'' hK => ?_) AllReadyH.nil
            have fc := HFB2.out.cell 0
            have fl := HFB2.out.lt
            simp only [lqt, lqz, lst, lsz] at fc
            (try simp only [lgt, lgz, lgs])
            go_simp
            refine hK.out _ _ HO2.out (fun hHeld => ?_)
            clear hK fc fl
            (try simp only [Act.put, lgt, lgz, lgs, lst, lsz, lss])
            refine wpAnyH_done (by kernel_rfl) ?_ _
            clear hHeld HFB HFB1 HO1 HN9
            have HMP : Hid (Only b w wp) := hId (HM9.out.trans (HO2.out.mono (fun _ _ e => e.elim)))
            have HMBP := hId (HMB9.out.mod HO2.out (fun e => e))
            have HORP : Hid ((∃ v, i < j ∧ Blk wp b 53 (RRc s j (-1)) ∧ Tree wp (fun g => vb < g ∧ blkOf ma ≠ some g) j ⟨xk, xf, xn, xw, xla, xln, xlc, xma, xmn, xmc⟩ v ∧ ∀ st, Leads L (memS L f st i) (putS ({ f with name := nm } :: st) v j)) ∨ (∃ p : Nat, Blk wp b 53 (RRc s j (p : Int)) ∧ ∀ st, Leads L (memS L f st i) (.bad p))) := hId (by
              rcases HOR9.out with ⟨v, h1, h2, h3, h4⟩ | ⟨p, h2, h4⟩
              · exact .inl ⟨v, h1, h2.mod HO2.out (fun e => e), h3.new HO2.out, h4⟩
              · exact .inr ⟨p, h2.mod HO2.out (fun e => e), h4⟩)
            clear HFB2 HO2 HMB9 HOR9 HM9
            have own2 := HKV.out.own.mod HMP.out (fun g hg e => by have := (HKV.out.own.far' g hg).1; have h5 : g = b := e; omega)
            have hvbp := HBX.out.mod HMP.out (by omega)
            have HVBP := hId hvbp
            have HSX : Hid (∀ W, Mod (fun k => blkOf ma = some k) wp W → W.cell? ⟨vb, 5, none⟩ = some (.slice ma mn mc) ∧ vb < W.heap.size ∧ W.cell? ⟨mb, 0, none⟩ = some (.string nm) ∧ W.cell? ⟨mb, 1, none⟩ = some (.int .i64 xk) ∧ W.cell? ⟨mb, 2, none⟩ = some (.bool xf) ∧ W.cell? ⟨mb, 3, none⟩ = some (.int .i64 xn) ∧ W.cell? ⟨mb, 4, none⟩ = some (.string xw) ∧ W.cell? ⟨mb, 5, none⟩ = some (.slice xla xln xlc) ∧ W.cell? ⟨mb, 6, none⟩ = some (.slice xma xmn xmc) ∧ mb < W.heap.size) := hId (fun W hW => by
              have h1 := HVBP.out.mod hW (fun e => by have := (HKV.out.own.far' _ e).1; omega)
              have h2 := HMBP.out.mod hW (fun e => by have h5 := (HKV.out.own.far' _ e).2.1; have := HMBG.out.1; omega)
              exact ⟨(h1.cell 5).trans rfl, h1.lt, (h2.cell 0).trans rfl, (h2.cell 1).trans rfl, (h2.cell 2).trans rfl, (h2.cell 3).trans rfl, (h2.cell 4).trans rfl, (h2.cell 5).trans rfl, (h2.cell 6).trans rfl, h2.lt⟩)
            clear hvbp
            go_upto_region 14 with (fail)
            refine wp_region_held_ord (Mod (fun k => blkOf ma = some k) wp) [6, 7] [0, 1, 2, 3, 4, 5, 6, 7, 8, 9] (by kernel_rfl) (by kernel_rfl) (fun _ _ d _ _ h => by cases d <;> exact h) (by with_reducible (repeat (first | exact Mod.refl _ _ | refine Mod.drewN ?_ _ | refine Mod.drew ?_ | refine Mod.alloc ?_ _))) (fun hHeld => ?_)
            simp only [List.length_cons, List.length_nil, List.drop_succ_cons, List.drop_zero]
            refine heldO_take ?_ (by rfl) (by rfl) (by rfl) (fun w hSw => ?_) ?_
            rotate_left
            · (have hq := HSX.out w hSw); go_simp; any_goals (with_reducible rfl)
            simp only [Act.put, lst, lsz, lss]
            refine heldO_take ?_ (by rfl) (by rfl) (by rfl) (fun w hSw => ?_) ?_
            rotate_left
            · (have hq := HSX.out w hSw); go_simp; any_goals (with_reducible rfl)
            simp only [Act.put, lst, lsz, lss]
            refine heldO_take ?_ (by rfl) (by rfl) (by rfl) (fun w hSw => ?_) ?_
            rotate_left
            · (have hq := HSX.out w hSw); go_simp; any_goals (with_reducible rfl)
            simp only [Act.put, lst, lsz, lss]
            refine heldO_take ?_ (by rfl) (by rfl) (by rfl) (fun w hSw => ?_) ?_
            rotate_left
            · (have hq := HSX.out w hSw); go_simp; any_goals (with_reducible rfl)
            simp only [Act.put, lst, lsz, lss]
            refine heldO_take ?_ (by rfl) (by rfl) (by rfl) (fun w hSw => ?_) ?_
            rotate_left
            · (have hq := HSX.out w hSw); go_simp; any_goals (with_reducible rfl)
            simp only [Act.put, lst, lsz, lss]
            refine heldO_take ?_ (by rfl) (by rfl) (by rfl) (fun w hSw => ?_) ?_
            rotate_left
            · (have hq := HSX.out w hSw); go_simp; any_goals (with_reducible rfl)
            simp only [Act.put, lst, lsz, lss]
            refine heldO_step (by rfl) (by rfl) (by rfl) (fun Kq hK => ?_)
            go_simp
            have hzb0 : Blk (wp.alloc (.cells #[.string nm, .int .i64 xk, .bool xf, .int .i64 xn, .string xw, .slice xla xln xlc, .slice xma xmn xmc] 60)) wp.heap.size 60 (encL 7 MA.enc (⟨nm, ⟨xk, xf, xn, xw, xla, xln, xlc, xma, xmn, xmc⟩⟩ : MA)).toArray := Blk.new wp _ _
            have HZB : Hid (Blk (wp.alloc (.cells #[.string nm, .int .i64 xk, .bool xf, .int .i64 xn, .string xw, .slice xla xln xlc, .slice xma xmn xmc] 60)).drew wp.heap.size 60 (encL 7 MA.enc (⟨nm, ⟨xk, xf, xn, xw, xla, xln, xlc, xma, xmn, xmc⟩⟩ : MA)).toArray) := hId (hzb0.mod (show New _ (wp.alloc (.cells #[.string nm, .int .i64 xk, .bool xf, .int .i64 xn, .string xw, .slice xla xln xlc, .slice xma xmn xmc] 60)).drew from (by with_reducible (repeat (first | exact Mod.refl _ _ | refine Mod.drewN ?_ _ | refine Mod.drew ?_ | refine Mod.alloc ?_ _)))) (fun e => e))
            have HNZ : Hid (New wp (wp.alloc (.cells #[.string nm, .int .i64 xk, .bool xf, .int .i64 xn, .string xw, .slice xla xln xlc, .slice xma xmn xmc] 60)).drew) := hId (by with_reducible (repeat (first | exact Mod.refl _ _ | refine Mod.drewN ?_ _ | refine Mod.drew ?_ | refine Mod.alloc ?_ _)))
            refine hK.out _ _ (by with_reducible (repeat (first | exact Mod.refl _ _ | refine Mod.drewN ?_ _ | refine Mod.drew ?_ | refine Mod.alloc ?_ _))) (fun hHeld => ?_)
            clear hK Kq hzb0
            try simp only [Act.put, lst, lsz, lss]
            have own3 := own2.new HNZ.out
            have HZ3 : Hid (vb + 1 ≤ (wp.alloc (.cells #[.string nm, .int .i64 xk, .bool xf, .int .i64 xn, .string xw, .slice xla xln xlc, .slice xma xmn xmc] 60)).drew.heap.size) := hId (Nat.le_trans (Nat.le_trans HBX.out.lt HMP.out.size) HNZ.out.size)
            refine heldO_step (by rfl) (by rfl) (by rfl) (fun Kq hK => ?_)
            refine wp_push (.tmp 72) (.tmp 74) _ rfl 104 Tryz.underlying28 einfo_mmR rfl (by exact own3) (⟨nm, ⟨xk, xf, xn, xw, xla, xln, xlc, xma, xmn, xmc⟩⟩ : MA) wp.heap.size rfl (by exact HZB.out) (fun j hj => MA.one _ j hj) (by omega) (by omega) HZ3.out ?_
            intro g9 cap9 wc own9 hm9 hat9 hlt9
            refine hK.out _ _ ((HNZ.out.mono (fun _ _ e => e.elim)).trans hm9) (fun hHeld => ?_)
            clear hK Kq
            try simp only [Act.put, lst, lsz, lss]
            refine heldO_take ?_ (by rfl) (by rfl) (by rfl) (fun w hSw => ?_) ?_
            rotate_left
            · (have hq := HSX.out w hSw); go_simp; any_goals (with_reducible rfl)
            simp only [Act.put, lst, lsz, lss]
            refine heldO_take ?_ (by rfl) (by rfl) (by rfl) (fun w hSw => ?_) ?_
            rotate_left
            · (have hq := HSX.out w hSw); go_simp; any_goals (with_reducible rfl)
            simp only [Act.put, lst, lsz, lss]
            refine heldO_nil ?_
            clear hHeld
            have hg9 : vb < g9 ∧ (blkOf ma = some g9 ∨ wp.heap.size ≤ g9) := by
              rcases hat9 with h | h
              · have := (own3.far' g9 h).1; exact ⟨by omega, .inl h⟩
              · have h5 := HZ3.out; have h6 := HNZ.out.size; exact ⟨by omega, .inr (by omega)⟩
            have HG9 := hId hg9
            have hvc := (HVBP.out.mod HNZ.out (fun e => e)).mod hm9 (fun e => by have := (own3.far' _ e).1; omega)
            have v5 := hvc.cell 5
            have vf := hvc.frozen 5
            have vl := hvc.lt
            simp only [lqt, lqz, lqs] at v5
            have HVD := hId (hvc.set 5 (.slice (some ⟨g9, 0, none⟩) (mn + 1) cap9))
            have HOD : Hid (Only vb wc (wc.setCell ⟨vb, 5, none⟩ (.slice (some ⟨g9, 0, none⟩) (mn + 1) cap9))) := hId ((Mod.refl (fun k => k = vb) wc).setCell (p := ⟨vb, 5, none⟩) (.inl rfl) _)
            have HOWD := hId (own9.mod HOD.out (fun k e e2 => by injection e with e; have h8 : g9 = k := e; have h9 : k = vb := e2; omega))
            have HBD : Hid (Mod (fun k => k = vb ∨ blkOf ma = some k) wp (wc.setCell ⟨vb, 5, none⟩ (.slice (some ⟨g9, 0, none⟩) (mn + 1) cap9))) := hId (((HNZ.out.mono (T := fun k => k = vb ∨ blkOf ma = some k) (fun _ _ e => e.elim)).step hm9 (fun k _ e => .inr e)).step HOD.out (fun k _ e => .inl e))
            clear hg9 hvc own9 hm9 hat9 hlt9 own2 own3 HNZ HZB HZ3
            go_wp2_with fail
            go_end0
            have hmmf : Mod (fun k => k = b ∨ vb ≤ k) w _ := (HMP.out.mono (T := fun k => k = b ∨ vb ≤ k) (fun k _ e => .inl e)).step HBD.out (fun k hk e => by
              rcases e with e | e
              · exact .inr (Nat.le_of_eq e.symm)
              · exact .inr (Nat.le_of_lt (HKV.out.own.far' _ e).1))
            exact memItem_fin2 (by omega) hbv HF.out HFO.out HQ.out HBA.out HKV.out HMP.out hj (by rw [HL.out]; exact HORP.out) HBD.out HOWD.out HG9.out HVD.out hmmf
          · have fc := HFB.out.cell 0
            have ff := HFB.out.frozen 0
            have fl := HFB.out.lt
            simp only [lqt, lqz] at fc
            (try simp only [lgt, lgz, lgs])
            go_simp
            have HO1 : Hid (New w9 (wa.setCell ⟨fb, 0, none⟩ (.bool false))) := hId (HN9.out.setCell (p := ⟨fb, 0, none⟩) (.inr (by have := HFE.out; show w9.heap.size ≤ fb; omega)) _)
            refine hK.out _ _ HO1.out (fun hHeld => ?_)
            clear hK fc ff fl
            (try simp only [Act.put, lgt, lgz, lgs, lst, lsz, lss])
            have HFB1 := hId (HFB.out.set 0 (.bool false))
            generalize wa.setCell ⟨fb, 0, none⟩ (.bool false) = wb1 at *
            refine wpAnyH_ready (rs := [1]) (by kernel_rfl) (by simp) ?_
            refine AllReadyH.cons rfl (fun K'' hK => ?_) AllReadyH.nil
            have fc := HFB1.out.cell 0
            have ff := HFB1.out.frozen 0
            have fl := HFB1.out.lt
            simp only [lqt, lqz, lst, lsz] at fc
            (try simp only [lgt, lgz, lgs])
            go_simp
            have HO2 : Hid (New w9 (wb1.setCell ⟨fb, 0, none⟩ (.bool true))) := hId (HO1.out.setCell (p := ⟨fb, 0, none⟩) (.inr (by have := HFE.out; show w9.heap.size ≤ fb; omega)) _)
            refine hK.out _ _ HO2.out (fun hHeld => ?_)
            clear hK fc ff fl
            (try simp only [Act.put, lgt, lgz, lgs, lst, lsz, lss])
            have HFB2 := hId (HFB1.out.set 0 (.bool true))
            generalize wb1.setCell ⟨fb, 0, none⟩ (.bool true) = wp at *
            refine wpAnyH_ready (rs := [3]) (by kernel_rfl) (by simp) ?_
            refine AllReadyH.cons rfl (fun K'' hK => ?_) AllReadyH.nil
            have fc := HFB2.out.cell 0
            have fl := HFB2.out.lt
            simp only [lqt, lqz, lst, lsz] at fc
            (try simp only [lgt, lgz, lgs])
            go_simp
            refine hK.out _ _ HO2.out (fun hHeld => ?_)
            clear hK fc fl
            (try simp only [Act.put, lgt, lgz, lgs, lst, lsz, lss])
            refine wpAnyH_done (by kernel_rfl) ?_ _
            clear hHeld HFB HFB1 HO1 HN9
            have HMP : Hid (Only b w wp) := hId (HM9.out.trans (HO2.out.mono (fun _ _ e => e.elim)))
            have HMBP := hId (HMB9.out.mod HO2.out (fun e => e))
            have HORP : Hid ((∃ v, i < j ∧ Blk wp b 53 (RRc s j (-1)) ∧ Tree wp (fun g => vb < g ∧ blkOf ma ≠ some g) j ⟨xk, xf, xn, xw, xla, xln, xlc, xma, xmn, xmc⟩ v ∧ ∀ st, Leads L (memS L f st i) (putS ({ f with name := nm } :: st) v j)) ∨ (∃ p : Nat, Blk wp b 53 (RRc s j (p : Int)) ∧ ∀ st, Leads L (memS L f st i) (.bad p))) := hId (by
              rcases HOR9.out with ⟨v, h1, h2, h3, h4⟩ | ⟨p, h2, h4⟩
              · exact .inl ⟨v, h1, h2.mod HO2.out (fun e => e), h3.new HO2.out, h4⟩
              · exact .inr ⟨p, h2.mod HO2.out (fun e => e), h4⟩)
            clear HFB2 HO2 HMB9 HOR9 HM9
            have own2 := HKV.out.own.mod HMP.out (fun g hg e => by have := (HKV.out.own.far' g hg).1; have h5 : g = b := e; omega)
            have hvbp := HBX.out.mod HMP.out (by omega)
            have v5 := hvbp.cell 5
            have vf := hvbp.frozen 5
            have vl := hvbp.lt
            simp only [lqt, lqz, lqs] at v5
            have hzb : Blk (wp.alloc (.cells #[.string ⟨#[]⟩, .int .i64 0, .bool false, .int .i64 0, .string ⟨#[]⟩, .slice none 0 0, .slice none 0 0] 60)) wp.heap.size 60 (encL 7 MA.enc (⟨⟨#[]⟩, VA.zero⟩ : MA)).toArray := Blk.new wp _ _
            have hnz : New wp (wp.alloc (.cells #[.string ⟨#[]⟩, .int .i64 0, .bool false, .int .i64 0, .string ⟨#[]⟩, .slice none 0 0, .slice none 0 0] 60)) := (Mod.refl _ _).alloc _
            have own3 := own2.new hnz
            have HZZ : vb + 1 ≤ (wp.alloc (.cells #[.string ⟨#[]⟩, .int .i64 0, .bool false, .int .i64 0, .string ⟨#[]⟩, .slice none 0 0, .slice none 0 0] 60)).heap.size := Nat.le_trans (Nat.le_trans HBX.out.lt HMP.out.size) hnz.size
            have hvbz := hvbp.mod hnz (fun e => e)
            have HVBZ := hId hvbz
            have HNZ := hId hnz
            have HZB := hId hzb
            have HO3 := hId own3
            have HZ3 := hId HZZ
            clear hvbp own2 hvbz hnz hzb own3 HZZ
            go_upto_region 13 with (at_builtin; refine wpList_push rfl _ _ _ rfl 104 Tryz.underlying28 einfo_mmR rfl HO3.out (⟨⟨#[]⟩, VA.zero⟩ : MA) wp.heap.size rfl HZB.out (fun j hj => MA.one _ j hj) (by omega) (by omega) HZ3.out ?_; intro g9 cap9 wc own9 hm9 hat9 hlt9; have v5 := (HVBZ.out.mod hm9 (fun e => by have := (HO3.out.far' _ e).1; omega)).cell 5; have vf := (HVBZ.out.mod hm9 (fun e => by have := (HO3.out.far' _ e).1; omega)).frozen 5; have vl := (HVBZ.out.mod hm9 (fun e => by have := (HO3.out.far' _ e).1; omega)).lt; simp only [lqt, lqz, lqs] at v5)
            clear v5 vf vl
            have hg9 : vb < g9 ∧ (blkOf ma = some g9 ∨ wp.heap.size ≤ g9) := by
              rcases hat9 with h | h
              · have := (HO3.out.far' g9 h).1; exact ⟨by omega, .inl h⟩
              · have h5 := HZ3.out; have h6 := HNZ.out.size; exact ⟨by omega, .inr (by omega)⟩
            have HG9 := hId hg9
            have hvc := HVBZ.out.mod hm9 (fun e => by have := (HO3.out.far' _ e).1; omega)
            have HVD := hId (hvc.set 5 (.slice (some ⟨g9, 0, none⟩) (mn + 1) cap9))
            have HOD : Hid (Only vb wc (wc.setCell ⟨vb, 5, none⟩ (.slice (some ⟨g9, 0, none⟩) (mn + 1) cap9))) := hId ((Mod.refl (fun k => k = vb) wc).setCell (p := ⟨vb, 5, none⟩) (.inl rfl) _)
            have HOWD := hId (own9.mod HOD.out (fun k e e2 => by injection e with e; have h8 : g9 = k := e; have h9 : k = vb := e2; omega))
            have HBD : Hid (Mod (fun k => k = vb ∨ blkOf ma = some k) wp (wc.setCell ⟨vb, 5, none⟩ (.slice (some ⟨g9, 0, none⟩) (mn + 1) cap9))) := hId (((HNZ.out.mono (T := fun k => k = vb ∨ blkOf ma = some k) (fun _ _ e => e.elim)).step hm9 (fun k _ e => .inr e)).step HOD.out (fun k _ e => .inl e))
            have hmbc := ((HMBP.out.mod HNZ.out (fun e => e)).mod hm9 (fun e => by have h5 := (HKV.out.own.far' _ e).2.1; have := HMBG.out.1; omega)).mod HOD.out (by have := HMBG.out.2.1; omega)
            have HMBD := hId hmbc
            have hgl : g9 < (wc.setCell ⟨vb, 5, none⟩ (.slice (some ⟨g9, 0, none⟩) (mn + 1) cap9)).heap.size := Nat.lt_of_lt_of_le hlt9 HOD.out.size
            clear hg9 hvc own9 hm9 hat9 hlt9 hmbc HNZ HZB HO3 HZ3 HVBZ HOD
            generalize wc.setCell ⟨vb, 5, none⟩ (.slice (some ⟨g9, 0, none⟩) (mn + 1) cap9) = wd at *
            have hvl : ms.length = mn := HKV.out.own.1
            have hcell : ∀ j, j < 7 → wd.cell? ⟨g9, mn * 7 + j, none⟩ = some ((⟨⟨#[]⟩, VA.zero⟩ : MA).enc j) := fun j hj => by
              obtain ⟨g', o', hA, htb, hc⟩ := HOWD.out.sl.2 (by omega)
              injection hA with hA
              injection hA with hA1 hA2
              subst hA1 hA2
              have := hc mn (by simp; omega) j hj
              simpa [← hvl] using this
            have q0 := hcell 0 (by decide)
            have q1 := hcell 1 (by decide)
            have q2 := hcell 2 (by decide)
            have q3 := hcell 3 (by decide)
            have q4 := hcell 4 (by decide)
            have q5 := hcell 5 (by decide)
            have q6 := hcell 6 (by decide)
            have qf := HOWD.out.frozen
            simp only [MA.enc, VA.enc, VA.zero, Nat.add_zero] at q0 q1 q2 q3 q4 q5 q6
            have m0 := HMBD.out.cell 0
            have m1 := HMBD.out.cell 1
            have m2 := HMBD.out.cell 2
            have m3 := HMBD.out.cell 3
            have m4 := HMBD.out.cell 4
            have m5 := HMBD.out.cell 5
            have m6 := HMBD.out.cell 6
            have ml := HMBD.out.lt
            simp only [lqt, lqz, lqs, lst, lsz, lss] at m0 m1 m2 m3 m4 m5 m6
            have hset := HOWD.out.set7 (i := mn) (by simp; omega) (⟨nm, ⟨xk, xf, xn, xw, xla, xln, xlc, xma, xmn, xmc⟩⟩ : MA)
            rw [show (ms ++ [(⟨⟨#[]⟩, VA.zero⟩ : MA)]).set mn (⟨nm, ⟨xk, xf, xn, xw, xla, xln, xlc, xma, xmn, xmc⟩⟩ : MA) = ms ++ [⟨nm, ⟨xk, xf, xn, xw, xla, xln, xlc, xma, xmn, xmc⟩⟩] by simp [← hvl]] at hset
            simp only [MA.enc, VA.enc] at hset
            have HSET := hId hset
            clear hcell hset hvl
            have g0 : (0 : Int) ≤ (mn : Int) := by omega
            have g1 : (mn : Int) < (mn : Int) + 1 := by omega
            go_wp2_with fail
            go_end0
            have hms : Only g9 wd (((((((wd.setCell ⟨g9, mn * 7, none⟩ (.string nm)).setCell ⟨g9, mn * 7 + 1, none⟩ (.int .i64 xk)).setCell ⟨g9, mn * 7 + 2, none⟩ (.bool xf)).setCell ⟨g9, mn * 7 + 3, none⟩ (.int .i64 xn)).setCell ⟨g9, mn * 7 + 4, none⟩ (.string xw)).setCell ⟨g9, mn * 7 + 5, none⟩ (.slice xla xln xlc)).setCell ⟨g9, mn * 7 + 6, none⟩ (.slice xma xmn xmc)) := by
              with_reducible repeat (first | exact Mod.refl _ _ | refine Only.set ?_ _ _)
            have hbbf := HBD.out.step hms (fun k hk e => by
              have h5 : k = g9 := e
              rcases HG9.out.2 with h | h
              · exact .inr (h5 ▸ h)
              · omega)
            have hmmf : Mod (fun k => k = b ∨ vb ≤ k) w _ := (HMP.out.mono (T := fun k => k = b ∨ vb ≤ k) (fun k _ e => .inl e)).step hbbf (fun k hk e => by
              rcases e with e | e
              · exact .inr (Nat.le_of_eq e.symm)
              · exact .inr (Nat.le_of_lt (HKV.out.own.far' _ e).1))
            exact memItem_fin2 (by omega) hbv HF.out HFO.out HQ.out HBA.out HKV.out HMP.out hj (by rw [HL.out]; exact HORP.out) hbbf HSET.out HG9.out (HVD.out.mod hms (by have := HG9.out.1; omega)) hmmf
        · have hcn : ((d2.toNat : Int) != 58) = true := by
            have : d2.toNat ≠ 58 := fun e => h58 (UInt8.toNat_inj.1 e)
            simp; omega
          have hwr := ref_wrong s K2 (-1) K2 b w6 HB6.out
          go_wp2_with fail
          refine hwr.mono ?_
          clear hwr
          rintro e w7 ⟨rfl, hb7, hm7⟩
          rw [if_pos (by decide)] at hb7
          have HB7 := hId hb7
          have HM7 := hId (HM6.out.trans hm7)
          clear hb7 hm7
          go_wp2_with fail
          go_end0
          exact HG.out _ K2 K2 HM7.out hK2s HB7.out (fun st => by rw [HE0.out st, if_pos h58])
  · have hcn : ((c.toNat : Int) != 34) = true := by
      have : c.toNat ≠ 34 := fun e => h34 (UInt8.toNat_inj.1 e)
      simp; omega
    have hwr := ref_wrong s K (-1) K b w2 HB2.out
    go_wp2_with fail
    refine hwr.mono ?_
    clear hwr
    rintro e w3 ⟨rfl, hb3, hm3⟩
    rw [if_pos (by decide)] at hb3
    have HB3 := hId hb3
    have HM3 := hId (HM2.out.trans hm3)
    clear hb3 hm3
    go_wp2_with fail
    go_end0
    refine HG.out _ K K HM3.out hKs HB3.out (fun st => ?_)
    unfold memS
    rw [HK.out, if_pos (by rw [HC.out]; exact h34)]
end Go.Proofs.YtjmnkdkdjnmejaaGreatDoor
