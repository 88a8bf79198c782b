/- Reading values, the reference's side: a value. Conditions: a text of at most 240000 bytes; strconv's table lies below the reader. -/
import Derived.Test.YtjmnkdkdjnmejaaGreatDoorRrMem
namespace Go.Proofs.YtjmnkdkdjnmejaaGreatDoor
open Go.RowKit
set_option linter.unusedVariables false
set_option linter.unusedSimpArgs false
theorem start_dec (c : UInt8) : startB c = ((decide ((c.toNat : Int) = 45) || (decide ((48 : Int) ≤ (c.toNat : Int)) && decide ((c.toNat : Int) ≤ 57))) || (decide ((97 : Int) ≤ bits BinOp.or IntKind.u8 (c.toNat : Int) 32) && decide (bits BinOp.or IntKind.u8 (c.toNat : Int) 32 ≤ 122))) := by
  revert c
  apply byteOf
  decide +kernel
theorem enters_val2 (args : Array Value) (w : World) : (callFunc 43 args).run Tryz.prog w = .ok (.enter 43 args) w := by
  go_simp
theorem box_tree {w : World} {vb d : Nat} {G : Nat → Prop} {f : RFr} {la ma : Option Addr} {ln lc mn mc : Nat} {xs : List VA} {ms : List MA} (h1 : Kids (TrV d) 30 6 VA.enc w (vb + 1) (fun g => vb < g) la ln lc xs f.items) (ho : Own w (vb + 1) 60 7 MA.enc ma mn mc ms)
    (hk : KidsM w (fun g => vb < g) d ms (srtP f.mems)) (hG : ∀ g, vb < g → G g) : Tree w G (d + 1) ⟨if f.mem then 5 else 4, false, 0, ⟨#[]⟩, la, ln, lc, ma, mn, mc⟩ f.value := by
  refine ⟨f.items, srtP f.mems, rfl, ⟨xs, h1.own.row' (fun g _ hB => hG g (by omega)), by rw [h1.own.1, h1.len], fun i hi hi' => Tree.imp (fun g hg _ => hG g hg.1) _ _ _ (h1.tree i hi hi')⟩, ⟨ms, ho.row' (fun g _ hB => hG g (by omega)), hk.1, fun i hi hi' => ⟨(hk.2 i hi hi').1, Tree.imp (fun g hg _ => hG g hg) _ _ _ (hk.2 i hi hi').2⟩⟩⟩
set_option maxHeartbeats 1000000 in
theorem ref_item2 (s : ByteArray) (b vb pb i : Nat) (f : RFr) (w : World) (hs : s.size ≤ 240000) (hi : i ≤ s.size) (hf : f.mem = true) (hfo : FrOk f i) (hbv : b < vb)
    (hb : Blk w b 53 (RRc s i (-1))) (hx : BoxEx w vb i f) (hp : Blk w pb 51 #[.pointer (some ⟨b, 0, none⟩)])
    (hval : ∀ (W : World) (J : Nat), Only b w W → i < J → J ≤ s.size → Blk W b 53 (RRc s J (-1)) → Calls Tryz.prog 19 #[.pointer (some ⟨b, 0, none⟩)] W (RVl s b J W)) :
    Calls Tryz.prog 43 #[.pointer (some ⟨pb, 0, none⟩), .pointer (some ⟨vb, 0, none⟩)] w (RItem s b vb i f w) := by
  have hme := ref_member s b vb i f w hs hi hf hfo hbv hb hx hval
  have p0 := hp.cell 0
  have pl := hp.lt
  simp only [lqt, lqz] at p0
  clear hb hx hp hval
  go_enter Tryz.func43, Tryz.ntmps43
  go_wp2_with fail
  refine hme.mono ?_
  clear hme
  rintro e w2 h
  have h1 := h.1
  subst h1
  have H := hId h
  clear h
  go_wp2_with fail
  go_end0
  exact H.out
set_option maxHeartbeats 1500000
set_option maxRecDepth 100000 in
theorem ref_value_step (s : ByteArray) (hs : s.size ≤ 240000) (i b : Nat) (w : World) (hi : i ≤ s.size) (hb : Blk w b 53 (RRc s i (-1))) (hP : PowK b w)
    (IH : ∀ (W : World) (J : Nat), i < J → J ≤ s.size → Blk W b 53 (RRc s J (-1)) → PowK b W → Calls Tryz.prog 19 #[.pointer (some ⟨b, 0, none⟩)] W (RVl s b J W)) :
    Calls Tryz.prog 19 #[.pointer (some ⟨b, 0, none⟩)] w (RVl s b i w) := by
  have hbl := hb.lt
  have hpb0 := Blk.new w 51 #[.pointer (some ⟨b, 0, none⟩)]
  have hn1 : New w (w.alloc (.cells #[.pointer (some ⟨b, 0, none⟩)] 51)) := (Mod.refl _ _).alloc _
  have hR0 := Blk.new (w.alloc (.cells #[.pointer (some ⟨b, 0, none⟩)] 51)) 30 #[.int .i64 0, .bool false, .int .i64 0, .string ⟨#[]⟩, .slice none 0 0, .slice none 0 0]
  have hn2 : New (w.alloc (.cells #[.pointer (some ⟨b, 0, none⟩)] 51)) ((w.alloc (.cells #[.pointer (some ⟨b, 0, none⟩)] 51)).alloc (.cells #[.int .i64 0, .bool false, .int .i64 0, .string ⟨#[]⟩, .slice none 0 0, .slice none 0 0] 30)) := (Mod.refl _ _).alloc _
  have hz : (w.alloc (.cells #[.pointer (some ⟨b, 0, none⟩)] 51)).heap.size = w.heap.size + 1 := by simp
  rw [hz] at hR0
  have hpb1 := hpb0.mod hn2 (fun e => e)
  have hn := hn1.trans hn2
  obtain ⟨L, hL⟩ : ∃ L, s.data.toList = L := ⟨_, rfl⟩
  have HL := hId hL
  have HLL : Hid (L.length = s.size) := hId (by rw [← hL]; rfl)
  obtain ⟨K, hK⟩ : ∃ K, spanAt blankB L i = K := ⟨_, rfl⟩
  have hKs : K ≤ s.size := by rw [← hK, ← HL.out]; exact spanL_size _ _ hi
  have hKi : i ≤ K := by rw [← hK]; exact spanAt_ge _ _ _
  have HSTEP : Hid (∀ st x, Leads L (begK L st K) x → Leads L (.run true st i) x) := hId (fun st x h => .step true st i x (by
    show Leads L (begK L st (spanAt blankB L i)) x
    rw [hK]; exact h))
  have HFIN : Hid (∀ (e : Ending) (w' : World), (Only b w w' ∧ ∃ (A : VA) (j : Nat), e = .returned A.val ∧ j ≤ s.size ∧
    ((∃ v, i < j ∧ Blk w' b 53 (RRc s j (-1)) ∧ Tree w' (fun g => w.heap.size ≤ g) j A v ∧ ∀ st, Leads L (begK L st K) (putS st v j)) ∨
     (∃ p : Nat, Blk w' b 53 (RRc s j (p : Int)) ∧ ∀ st, Leads L (begK L st K) (.bad p)))) → RVl s b i w e w') := hId (fun e w' h => by
    obtain ⟨h1, A, j, h2, h3, h4⟩ := h
    refine ⟨h1, A, j, h2, h3, ?_⟩
    rw [hL]
    rcases h4 with ⟨v, a1, a2, a3, a4⟩ | ⟨p, a1, a2⟩
    · exact .inl ⟨v, a1, a2, a3, fun st => HSTEP.out st _ (a4 st)⟩
    · exact .inr ⟨p, a1, fun st => HSTEP.out st _ (a2 st)⟩)
  have HIH := hId IH
  clear IH hn1 hn2 hpb0 hL
  go_enter Tryz.func19, Tryz.ntmps19
  go_upto_region 1 with (fail)
  generalize (w.alloc (.cells #[.pointer (some ⟨b, 0, none⟩)] 51)).alloc (.cells #[.int .i64 0, .bool false, .int .i64 0, .string ⟨#[]⟩, .slice none 0 0, .slice none 0 0] 30) = w1 at *
  clear hz
  obtain ⟨pb, hpbe⟩ : ∃ pb, w.heap.size = pb := ⟨_, rfl⟩
  rw [hpbe] at hpb1 hR0 hbl
  simp only [hpbe]
  obtain ⟨rb, hrbe⟩ : ∃ rb, pb + 1 = rb := ⟨_, rfl⟩
  rw [hrbe] at hR0
  simp only [hrbe]
  have hpr : pb < rb := by omega
  have HPE := hId hpbe
  have HPB1 := hId hpb1
  have HR1 := hId hR0
  have HB1 := hId (hb.mod hn (fun e => e))
  have HM1 : Hid (Only b w w1) := hId (hn.mono (fun _ _ e => e.elim))
  have HP1 := hId (hP.mod hn (fun g e => e.elim))
  clear hpbe hrbe hpb1 hR0 hb hn hP
  have hnx := ref_next s i b (-1) w1 (by omega) hi HB1.out
  simp only [HL.out, hK] at hnx
  clear hK
  obtain ⟨c, hc⟩ : ∃ c, topAt L K = c := ⟨_, rfl⟩
  simp only [hc] at hnx
  have HC := hId hc
  clear hc
  have p0 := HPB1.out.cell 0
  have pl := HPB1.out.lt
  simp only [lqt, lqz] at p0
  go_wp2_with fail
  refine hnx.mono ?_
  clear hnx p0 pl
  rintro e w2 ⟨rfl, hb2, hm2⟩
  have HB2 := hId hb2
  have HM2 := hId (HM1.out.trans hm2)
  have HPB2 := hId (HPB1.out.mod hm2 (by omega))
  have HR2 := hId (HR1.out.mod hm2 (by omega))
  have HP2 := hId (HP1.out.mod hm2 (fun g e => Nat.le_of_eq e.symm))
  clear hb2 hm2 HB1 HM1 HPB1 HR1 HP1
  have p0 := HPB2.out.cell 0
  have pl := HPB2.out.lt
  simp only [lqt, lqz] at p0
  by_cases h91 : c = 91
  · have hlt : K < s.size := by
      have h1 := topAt_lt (s := L) (i := K) (by rw [HC.out]; rw [h91]; decide)
      rw [HLL.out] at h1
      exact h1
    subst h91
    have hv0 := Blk.new w2 30 #[.int .i64 4, .bool false, .int .i64 0, .string ⟨#[]⟩, .slice none 0 0, .slice none 0 0]
    have HN4 : Hid (New w2 (w2.alloc (.cells #[.int .i64 4, .bool false, .int .i64 0, .string ⟨#[]⟩, .slice none 0 0, .slice none 0 0] 30))) := hId ((Mod.refl _ _).alloc _)
    obtain ⟨vb, hvbe⟩ : ∃ vb, w2.heap.size = vb := ⟨_, rfl⟩
    have HV4 : Hid (Blk (w2.alloc (.cells #[.int .i64 4, .bool false, .int .i64 0, .string ⟨#[]⟩, .slice none 0 0, .slice none 0 0] 30)) vb 30 #[.int .i64 4, .bool false, .int .i64 0, .string ⟨#[]⟩, .slice none 0 0, .slice none 0 0]) := hId (by rw [← hvbe]; exact hv0)
    have HVE := hId hvbe
    clear hv0
    go_upto_region 4 with (fail)
    try simp only [hvbe]
    clear hvbe
    generalize w2.alloc (.cells #[.int .i64 4, .bool false, .int .i64 0, .string ⟨#[]⟩, .slice none 0 0, .slice none 0 0] 30) = w4 at *
    have hrv : rb < vb := by have h1 := HR2.out.lt; have := HVE.out; omega
    have HB4 := hId (HB2.out.mod HN4.out (fun e => e))
    have HM4 : Hid (Only b w w4) := hId (HM2.out.trans (HN4.out.mono (fun _ _ e => e.elim)))
    have HPB4 := hId (HPB2.out.mod HN4.out (fun e => e))
    have HR4 := hId (HR2.out.mod HN4.out (fun e => e))
    have HP4 := hId (HP2.out.mod HN4.out (fun g e => e.elim))
    have hbx : BoxEx w4 vb K (RFr.new false) := ⟨none, 0, 0, none, 0, 0, ⟨HV4.out, ⟨[], Kids.nil⟩, ⟨[], Kids.nil⟩⟩⟩
    have hli := ref_list s b vb K 42 false #[.pointer (some ⟨vb, 0, none⟩), .pointer (some ⟨pb, 0, none⟩)] enters_val1 w4 hs hlt (by omega) HB4.out (by rw [HL.out, HC.out]; rfl) hbx (fun i' f' W hW hki hi' hf' hfo' hb' hx' => by
      have hpw := HPB4.out.mod hW (fun e => by rcases e with e | e <;> omega)
      have hPw := HP4.out.mod hW (fun g e => by rcases e with e | e <;> omega)
      exact ref_item1 s b vb pb i' f' W hs hi' hf' hfo' (by omega) (by omega) hb' hx' hpw (fun W2 hn2 => HIH.out W2 i' (by omega) hi' (hb'.mod hn2 (fun e => e)) (hPw.mod hn2 (fun g e => e.elim))))
    clear hbx HN4 HB2 HM2 HPB2 HR2 HP2 p0 pl
    have p0 := HPB4.out.cell 0
    have pl := HPB4.out.lt
    simp only [lqt, lqz] at p0
    go_wp2_with fail
    refine hli.mono ?_
    clear hli p0 pl
    rintro e w5 ⟨rfl, hm5, j, hj, hor⟩
    have HM5 : Hid (Only b w w5) := hId (HM4.out.step hm5 (fun k hk e => by
      rcases e with e | e
      · exact e
      · have := HPE.out; omega))
    have HR := hId (HR4.out.mod hm5 (fun e => by rcases e with e | e <;> omega))
    -- the box, whatever it holds
    obtain ⟨la, ln, lc, ma, mn, mc, ms0, hvb5, hms0, hmn5, hor⟩ : ∃ (la : Option Addr) (ln lc : Nat) (ma : Option Addr) (mn mc : Nat) (ms : List MA), Blk w5 vb 30 #[.int .i64 4, .bool false, .int .i64 0, .string ⟨#[]⟩, .slice la ln lc, .slice ma mn mc] ∧ Own w5 (vb + 1) 60 7 MA.enc ma mn mc ms ∧ mn ≤ 300000 ∧
        ((∃ (f : RFr) (xs : List VA), K < j ∧ f.mem = false ∧ FrOk f j ∧ Blk w5 b 53 (RRc s j (-1)) ∧ Kids (TrV (j - 1)) 30 6 VA.enc w5 (vb + 1) (fun g => vb < g) la ln lc xs f.items ∧ Kids (TrM (j - 1)) 60 7 MA.enc w5 (vb + 1) (fun g => vb < g) ma mn mc ms f.mems ∧ ∀ st, Leads L (begK L st K) (putS st f.value j)) ∨
         (∃ p : Nat, Blk w5 b 53 (RRc s j (p : Int)) ∧ ∀ st, Leads L (begK L st K) (.bad p))) := by
      rcases hor with ⟨f, h1, h2, h3, h4, h5, h6⟩ | ⟨p, h1, h2, h3⟩
      · obtain ⟨la, ln, lc, ma, mn, mc, hb⟩ := h5
        obtain ⟨xs, hxs⟩ := hb.its
        obtain ⟨ms, hms⟩ := hb.mes
        have hbk := hb.blk
        rw [h2] at hbk
        rw [HL.out] at h6
        exact ⟨la, ln, lc, ma, mn, mc, ms, hbk, hms.own, by have a1 := hms.len; have a2 := h3.lm; omega, .inl ⟨f, xs, h1, h2, h3, h4, hxs, hms, h6⟩⟩
      · obtain ⟨la, ln, lc, ma, mn, mc, ms, a1, a2, a3⟩ := h2
        rw [HL.out] at h3
        exact ⟨la, ln, lc, ma, mn, mc, ms, a1, a2, a3, .inr ⟨p, h1, h3⟩⟩
    have HVB := hId hvb5
    have HMS := hId hms0
    have HOR := hId hor
    clear hvb5 hms0 hor hm5 HR4 HB4 HM4 HPB4 HP4 HV4
    have v0 := HVB.out.cell 0
    have v1 := HVB.out.cell 1
    have v2 := HVB.out.cell 2
    have v3 := HVB.out.cell 3
    have v4 := HVB.out.cell 4
    have v5 := HVB.out.cell 5
    have vl := HVB.out.lt
    simp only [lqt, lqz, lqs] at v0 v1 v2 v3 v4 v5
    have r0 := HR.out.cell 0
    have r1 := HR.out.cell 1
    have r2 := HR.out.cell 2
    have r3 := HR.out.cell 3
    have r4 := HR.out.cell 4
    have r5 := HR.out.cell 5
    have rf := HR.out.frozen
    have rl := HR.out.lt
    simp only [lqt, lqz, lqs] at r0 r1 r2 r3 r4 r5
    go_wp2_with fail
    clear v0 v1 v2 v3 v4 v5 vl
    have HW9 : Hid (Mod (fun k => k = rb) w5 ((((((w5.setCell ⟨rb, 0, none⟩ (.int .i64 4)).setCell ⟨rb, 1, none⟩ (.bool false)).setCell ⟨rb, 2, none⟩ (.int .i64 0)).setCell ⟨rb, 3, none⟩ (.string ⟨#[]⟩)).setCell ⟨rb, 4, none⟩ (.slice la ln lc)).setCell ⟨rb, 5, none⟩ (.slice ma mn mc))) := hId (((((((Mod.refl (fun k => k = rb) w5).setCell (p := ⟨rb, 0, none⟩) (.inl rfl) _).setCell (p := ⟨rb, 1, none⟩) (.inl rfl) _).setCell (p := ⟨rb, 2, none⟩) (.inl rfl) _).setCell (p := ⟨rb, 3, none⟩) (.inl rfl) _).setCell (p := ⟨rb, 4, none⟩) (.inl rfl) _).setCell (p := ⟨rb, 5, none⟩) (.inl rfl) _)
    have HR9 : Hid (Blk ((((((w5.setCell ⟨rb, 0, none⟩ (.int .i64 4)).setCell ⟨rb, 1, none⟩ (.bool false)).setCell ⟨rb, 2, none⟩ (.int .i64 0)).setCell ⟨rb, 3, none⟩ (.string ⟨#[]⟩)).setCell ⟨rb, 4, none⟩ (.slice la ln lc)).setCell ⟨rb, 5, none⟩ (.slice ma mn mc)) rb 30 #[(.int .i64 4), (.bool false), (.int .i64 0), (.string ⟨#[]⟩), (.slice la ln lc), (.slice ma mn mc)]) := hId ((((((HR.out.set 0 (.int .i64 4)).set 1 (.bool false)).set 2 (.int .i64 0)).set 3 (.string ⟨#[]⟩)).set 4 (.slice la ln lc)).set 5 (.slice ma mn mc))
    clear r0 r1 r2 r3 r4 r5 rf rl
    generalize ((((((w5.setCell ⟨rb, 0, none⟩ (.int .i64 4)).setCell ⟨rb, 1, none⟩ (.bool false)).setCell ⟨rb, 2, none⟩ (.int .i64 0)).setCell ⟨rb, 3, none⟩ (.string ⟨#[]⟩)).setCell ⟨rb, 4, none⟩ (.slice la ln lc)).setCell ⟨rb, 5, none⟩ (.slice ma mn mc)) = w9 at *
    have r0 := HR9.out.cell 0
    have r1 := HR9.out.cell 1
    have r2 := HR9.out.cell 2
    have r3 := HR9.out.cell 3
    have r4 := HR9.out.cell 4
    have r5 := HR9.out.cell 5
    have rf := HR9.out.frozen
    have rl := HR9.out.lt
    simp only [lqt, lqz, lqs] at r0 r1 r2 r3 r4 r5
    refine bodyPost_ret (v := VA.val (⟨4, false, 0, ⟨#[]⟩, la, ln, lc, ma, mn, mc⟩ : VA)) (by simp [results, Tryz.results19, go_sem, r0, r1, r2, r3, r4, r5, rf, rl, VA.val]) rfl ?_
    have hob : Only b w w9 := HM5.out.step HW9.out (fun k hk e => by have h5 : k = rb := e; have := HPE.out; omega)
    have hvw : w.heap.size ≤ vb := by have := HPE.out; omega
    rcases HOR.out with ⟨f, xs, h1, h2, h3, h4, h5, h6, h7⟩ | ⟨p, h1, h2⟩
    · refine HFIN.out _ _ ⟨hob, _, j, rfl, hj, .inl ⟨f.value, by omega, h4.mod HW9.out (by omega), ?_, h7⟩⟩
      have hk : KidsM w5 (fun g => vb < g) (j - 1) ms0 (srtP f.mems) := by
        rw [h3.em h2]
        have hl : ms0.length = 0 := by have a1 := h6.own.1; have a2 := h6.len; rw [h3.em h2] at a2; simp at a2; omega
        exact ⟨by rw [hl, (srtP_perm []).length_eq]; rfl, fun i hi => absurd hi (by omega)⟩
      have ht := box_tree (G := fun g => w.heap.size ≤ g ∧ g ≠ rb) h5 h6.own hk (fun g hg => ⟨by omega, by omega⟩)
      rw [h2, show j - 1 + 1 = j by omega] at ht
      exact Tree.imp (fun g hg _ => hg.1) _ _ _ (Tree.mod HW9.out (fun g hg _ e => hg.2 e) _ _ _ ht)
    · exact HFIN.out _ _ ⟨hob, _, j, rfl, hj, .inr ⟨p, h1.mod HW9.out (by omega), h2⟩⟩
  · have n91 : ((c.toNat : Int) == 91) = false := by
      have : c.toNat ≠ 91 := fun e => h91 (UInt8.toNat_inj.1 e)
      simp; omega
    by_cases h123 : c = 123
    · have hlt : K < s.size := by
        have h1 := topAt_lt (s := L) (i := K) (by rw [HC.out]; rw [h123]; decide)
        rw [HLL.out] at h1
        exact h1
      subst h123
      have hv0 := Blk.new w2 30 #[.int .i64 5, .bool false, .int .i64 0, .string ⟨#[]⟩, .slice none 0 0, .slice none 0 0]
      have HN4 : Hid (New w2 (w2.alloc (.cells #[.int .i64 5, .bool false, .int .i64 0, .string ⟨#[]⟩, .slice none 0 0, .slice none 0 0] 30))) := hId ((Mod.refl _ _).alloc _)
      obtain ⟨vb, hvbe⟩ : ∃ vb, w2.heap.size = vb := ⟨_, rfl⟩
      have HV4 : Hid (Blk (w2.alloc (.cells #[.int .i64 5, .bool false, .int .i64 0, .string ⟨#[]⟩, .slice none 0 0, .slice none 0 0] 30)) vb 30 #[.int .i64 5, .bool false, .int .i64 0, .string ⟨#[]⟩, .slice none 0 0, .slice none 0 0]) := hId (by rw [← hvbe]; exact hv0)
      have HVE := hId hvbe
      clear hv0
      go_upto_region 8 with (fail)
      try simp only [hvbe]
      clear hvbe
      generalize w2.alloc (.cells #[.int .i64 5, .bool false, .int .i64 0, .string ⟨#[]⟩, .slice none 0 0, .slice none 0 0] 30) = w4 at *
      have hrv : rb < vb := by have h1 := HR2.out.lt; have := HVE.out; omega
      have HB4 := hId (HB2.out.mod HN4.out (fun e => e))
      have HM4 : Hid (Only b w w4) := hId (HM2.out.trans (HN4.out.mono (fun _ _ e => e.elim)))
      have HPB4 := hId (HPB2.out.mod HN4.out (fun e => e))
      have HR4 := hId (HR2.out.mod HN4.out (fun e => e))
      have HP4 := hId (HP2.out.mod HN4.out (fun g e => e.elim))
      have hbx : BoxEx w4 vb K (RFr.new true) := ⟨none, 0, 0, none, 0, 0, ⟨HV4.out, ⟨[], Kids.nil⟩, ⟨[], Kids.nil⟩⟩⟩
      have hli := ref_list s b vb K 43 true #[.pointer (some ⟨pb, 0, none⟩), .pointer (some ⟨vb, 0, none⟩)] enters_val2 w4 hs hlt (by omega) HB4.out (by rw [HL.out, HC.out]; rfl) hbx (fun i' f' W hW hki hi' hf' hfo' hb' hx' => by
        have hpw := HPB4.out.mod hW (fun e => by rcases e with e | e <;> omega)
        have hPw := HP4.out.mod hW (fun g e => by rcases e with e | e <;> omega)
        exact ref_item2 s b vb pb i' f' W hs hi' hf' hfo' (by omega) hb' hx' hpw (fun W2 J ho2 hiJ hJ hb2 => HIH.out W2 J (by omega) hJ hb2 (hPw.mod ho2 (fun g e => Nat.le_of_eq e.symm))))
      clear hbx HN4 HB2 HM2 HPB2 HR2 HP2 p0 pl
      have p0 := HPB4.out.cell 0
      have pl := HPB4.out.lt
      simp only [lqt, lqz] at p0
      go_wp2_with fail
      refine hli.mono ?_
      clear hli p0 pl
      rintro e w5 ⟨rfl, hm5, j, hj, hor⟩
      have HM5 : Hid (Only b w w5) := hId (HM4.out.step hm5 (fun k hk e => by
        rcases e with e | e
        · exact e
        · have := HPE.out; omega))
      have HR := hId (HR4.out.mod hm5 (fun e => by rcases e with e | e <;> omega))
      -- the box, whatever it holds
      obtain ⟨la, ln, lc, ma, mn, mc, ms0, hvb5, hms0, hmn5, hor⟩ : ∃ (la : Option Addr) (ln lc : Nat) (ma : Option Addr) (mn mc : Nat) (ms : List MA), Blk w5 vb 30 #[.int .i64 5, .bool false, .int .i64 0, .string ⟨#[]⟩, .slice la ln lc, .slice ma mn mc] ∧ Own w5 (vb + 1) 60 7 MA.enc ma mn mc ms ∧ mn ≤ 300000 ∧
          ((∃ (f : RFr) (xs : List VA), K < j ∧ f.mem = true ∧ FrOk f j ∧ Blk w5 b 53 (RRc s j (-1)) ∧ Kids (TrV (j - 1)) 30 6 VA.enc w5 (vb + 1) (fun g => vb < g) la ln lc xs f.items ∧ Kids (TrM (j - 1)) 60 7 MA.enc w5 (vb + 1) (fun g => vb < g) ma mn mc ms f.mems ∧ ∀ st, Leads L (begK L st K) (putS st f.value j)) ∨
           (∃ p : Nat, Blk w5 b 53 (RRc s j (p : Int)) ∧ ∀ st, Leads L (begK L st K) (.bad p))) := by
        rcases hor with ⟨f, h1, h2, h3, h4, h5, h6⟩ | ⟨p, h1, h2, h3⟩
        · obtain ⟨la, ln, lc, ma, mn, mc, hb⟩ := h5
          obtain ⟨xs, hxs⟩ := hb.its
          obtain ⟨ms, hms⟩ := hb.mes
          have hbk := hb.blk
          rw [h2] at hbk
          rw [HL.out] at h6
          exact ⟨la, ln, lc, ma, mn, mc, ms, hbk, hms.own, by have a1 := hms.len; have a2 := h3.lm; omega, .inl ⟨f, xs, h1, h2, h3, h4, hxs, hms, h6⟩⟩
        · obtain ⟨la, ln, lc, ma, mn, mc, ms, a1, a2, a3⟩ := h2
          rw [HL.out] at h3
          exact ⟨la, ln, lc, ma, mn, mc, ms, a1, a2, a3, .inr ⟨p, h1, h3⟩⟩
      have HVB := hId hvb5
      have HMS := hId hms0
      have HOR := hId hor
      clear hvb5 hms0 hor hm5 HR4 HB4 HM4 HPB4 HP4 HV4
      have hso := sort_any (F := 46) HMS.out (fun g e => by have hm := HMS.out; subst e; exact sort_val3 w5 (vb + 1) g mn mc ms0 hm (by omega))
      have v0 := HVB.out.cell 0
      have v1 := HVB.out.cell 1
      have v2 := HVB.out.cell 2
      have v3 := HVB.out.cell 3
      have v4 := HVB.out.cell 4
      have v5 := HVB.out.cell 5
      have vl := HVB.out.lt
      simp only [lqt, lqz, lqs] at v0 v1 v2 v3 v4 v5
      go_wp2_with fail
      refine hso.mono ?_
      clear hso v0 v1 v2 v3 v4 v5 vl
      rintro e w6 ⟨rfl, ⟨ys, hp, hsrt, hys⟩, hm6⟩
      have hfar : ∀ g, blkOf ma = some g → vb < g := fun g hg => (HMS.out.far' g hg).1
      have HVB6 := hId (HVB.out.mod hm6 (fun e => by have := hfar _ e; omega))
      have HR6 := hId (HR.out.mod hm6 (fun e => by have := hfar _ e; omega))
      have HM6 : Hid (Only b w w6) := hId (HM5.out.step hm6 (fun k hk e => by have h5 := hfar _ e; have := HPE.out; omega))
      have HOR6 : Hid ((∃ (f : RFr) (xs : List VA), K < j ∧ f.mem = true ∧ Blk w6 b 53 (RRc s j (-1)) ∧ Kids (TrV (j - 1)) 30 6 VA.enc w6 (vb + 1) (fun g => vb < g) la ln lc xs f.items ∧ Own w6 (vb + 1) 60 7 MA.enc ma mn mc ys ∧ KidsM w6 (fun g => vb < g) (j - 1) ys (srtP f.mems) ∧ ∀ st, Leads L (begK L st K) (putS st f.value j)) ∨
           (∃ p : Nat, Blk w6 b 53 (RRc s j (p : Int)) ∧ ∀ st, Leads L (begK L st K) (.bad p))) := hId (by
        have hb6 : ∀ g, blkOf ma = some g → b ≠ g := fun g hg => by have := hfar g hg; omega
        rcases HOR.out with ⟨f, xs, h1, h2, h3, h4, h5, h6, h7⟩ | ⟨p, h1, h2⟩
        · refine .inl ⟨f, xs, h1, h2, h4.mod hm6 (fun e => hb6 _ e rfl), ?_, hys, ?_, h7⟩
          · have hn0 : f.items = [] := h3.ei h2
            rw [hn0] at h5 ⊢
            have hln0 : ln = 0 := by have a1 := h5.len; simpa using a1.symm
            refine ⟨h5.own.mod hm6 (fun g hg e => (h5.own.far' g hg).2.2.ne (HMS.out.far' g e).2.2 (by decide) rfl), by simp [hln0], fun i hi hi' => absurd hi' (by simp)⟩
          · have hk0 : KidsM w5 (fun g => vb < g ∧ blkOf ma ≠ some g) (j - 1) ms0 f.mems := ⟨by rw [h6.own.1, h6.len], fun i hi hi' => h6.tree i hi hi'⟩
            exact ((hk0.sorted h3.nd hp (hsrt.imp (fun h => by omega))).mod hm6 (fun g hg _ e => hg.2 e)).imp (fun g hg _ => hg.1)
        · exact .inr ⟨p, h1.mod hm6 (fun e => hb6 _ e rfl), h2⟩)
      clear hp hsrt hys hm6 HOR HMS HM5 HVB HR hfar
      have HVB := HVB6
      have HR := HR6
      clear HVB6 HR6
      have v0 := HVB.out.cell 0
      have v1 := HVB.out.cell 1
      have v2 := HVB.out.cell 2
      have v3 := HVB.out.cell 3
      have v4 := HVB.out.cell 4
      have v5 := HVB.out.cell 5
      have vl := HVB.out.lt
      simp only [lqt, lqz, lqs] at v0 v1 v2 v3 v4 v5
      have r0 := HR.out.cell 0
      have r1 := HR.out.cell 1
      have r2 := HR.out.cell 2
      have r3 := HR.out.cell 3
      have r4 := HR.out.cell 4
      have r5 := HR.out.cell 5
      have rf := HR.out.frozen
      have rl := HR.out.lt
      simp only [lqt, lqz, lqs] at r0 r1 r2 r3 r4 r5
      go_wp2_with fail
      clear v0 v1 v2 v3 v4 v5 vl
      have HW9 : Hid (Mod (fun k => k = rb) w6 ((((((w6.setCell ⟨rb, 0, none⟩ (.int .i64 5)).setCell ⟨rb, 1, none⟩ (.bool false)).setCell ⟨rb, 2, none⟩ (.int .i64 0)).setCell ⟨rb, 3, none⟩ (.string ⟨#[]⟩)).setCell ⟨rb, 4, none⟩ (.slice la ln lc)).setCell ⟨rb, 5, none⟩ (.slice ma mn mc))) := hId (((((((Mod.refl (fun k => k = rb) w6).setCell (p := ⟨rb, 0, none⟩) (.inl rfl) _).setCell (p := ⟨rb, 1, none⟩) (.inl rfl) _).setCell (p := ⟨rb, 2, none⟩) (.inl rfl) _).setCell (p := ⟨rb, 3, none⟩) (.inl rfl) _).setCell (p := ⟨rb, 4, none⟩) (.inl rfl) _).setCell (p := ⟨rb, 5, none⟩) (.inl rfl) _)
      have HR9 : Hid (Blk ((((((w6.setCell ⟨rb, 0, none⟩ (.int .i64 5)).setCell ⟨rb, 1, none⟩ (.bool false)).setCell ⟨rb, 2, none⟩ (.int .i64 0)).setCell ⟨rb, 3, none⟩ (.string ⟨#[]⟩)).setCell ⟨rb, 4, none⟩ (.slice la ln lc)).setCell ⟨rb, 5, none⟩ (.slice ma mn mc)) rb 30 #[(.int .i64 5), (.bool false), (.int .i64 0), (.string ⟨#[]⟩), (.slice la ln lc), (.slice ma mn mc)]) := hId ((((((HR.out.set 0 (.int .i64 5)).set 1 (.bool false)).set 2 (.int .i64 0)).set 3 (.string ⟨#[]⟩)).set 4 (.slice la ln lc)).set 5 (.slice ma mn mc))
      clear r0 r1 r2 r3 r4 r5 rf rl
      generalize ((((((w6.setCell ⟨rb, 0, none⟩ (.int .i64 5)).setCell ⟨rb, 1, none⟩ (.bool false)).setCell ⟨rb, 2, none⟩ (.int .i64 0)).setCell ⟨rb, 3, none⟩ (.string ⟨#[]⟩)).setCell ⟨rb, 4, none⟩ (.slice la ln lc)).setCell ⟨rb, 5, none⟩ (.slice ma mn mc)) = w9 at *
      have r0 := HR9.out.cell 0
      have r1 := HR9.out.cell 1
      have r2 := HR9.out.cell 2
      have r3 := HR9.out.cell 3
      have r4 := HR9.out.cell 4
      have r5 := HR9.out.cell 5
      have rf := HR9.out.frozen
      have rl := HR9.out.lt
      simp only [lqt, lqz, lqs] at r0 r1 r2 r3 r4 r5
      refine bodyPost_ret (v := VA.val (⟨5, false, 0, ⟨#[]⟩, la, ln, lc, ma, mn, mc⟩ : VA)) (by simp [results, Tryz.results19, go_sem, r0, r1, r2, r3, r4, r5, rf, rl, VA.val]) rfl ?_
      have hob : Only b w w9 := HM6.out.step HW9.out (fun k hk e => by have h5 : k = rb := e; have := HPE.out; omega)
      have hvw : w.heap.size ≤ vb := by have := HPE.out; omega
      rcases HOR6.out with ⟨f, xs, h1, h2, h4, h5, h6, h7, h8⟩ | ⟨p, h1, h2⟩
      · refine HFIN.out _ _ ⟨hob, _, j, rfl, hj, .inl ⟨f.value, by omega, h4.mod HW9.out (by omega), ?_, h8⟩⟩
        have ht := box_tree (G := fun g => w.heap.size ≤ g ∧ g ≠ rb) h5 h6 h7 (fun g hg => ⟨by omega, by omega⟩)
        rw [h2, show j - 1 + 1 = j by omega] at ht
        exact Tree.imp (fun g hg _ => hg.1) _ _ _ (Tree.mod HW9.out (fun g hg _ e => hg.2 e) _ _ _ ht)
      · exact HFIN.out _ _ ⟨hob, _, j, rfl, hj, .inr ⟨p, h1.mod HW9.out (by omega), h2⟩⟩
    · have n123 : ((c.toNat : Int) == 123) = false := by
        have : c.toNat ≠ 123 := fun e => h123 (UInt8.toNat_inj.1 e)
        simp; omega
      by_cases h34 : c = 34
      · have hlt : K < s.size := by
          have h1 := topAt_lt (s := L) (i := K) (by rw [HC.out, h34]; decide)
          rw [HLL.out] at h1
          exact h1
        subst h34
        have hwd := ref_words s K b w2 (by omega) hlt HB2.out
        unfold RWds at hwd
        simp only [HL.out] at hwd
        have HBEG : Hid (∀ st, begK L st K = match wordsOf (L.drop (K + 1)) with
          | none => .bad K
          | some (o, m) => putS st (rdWords o) (K + 1 + m)) := hId (fun st => by
          unfold begK
          rw [if_pos HC.out]
          rfl)
        generalize hwq : wordsOf (L.drop (K + 1)) = wq at *
        have HWQ := hId hwq
        clear hwq
        go_wp2_with fail
        refine hwd.mono ?_
        clear hwd p0 pl
        rintro e w3 ⟨hm3, hcase⟩
        have HM3 := hId (HM2.out.trans hm3)
        have HR := hId (HR2.out.mod hm3 (by omega))
        clear hm3
        obtain ⟨nm, rfl⟩ : ∃ nm : ByteArray, e = .returned (.string nm) := by
          cases wq with
          | none => obtain ⟨t, h1, -⟩ := hcase; exact ⟨t, h1⟩
          | some om => exact ⟨_, hcase.1⟩
        have HCA := hId hcase
        clear hcase
        have r0 := HR.out.cell 0
        have r1 := HR.out.cell 1
        have r2 := HR.out.cell 2
        have r3 := HR.out.cell 3
        have r4 := HR.out.cell 4
        have r5 := HR.out.cell 5
        have rf := HR.out.frozen
        have rl := HR.out.lt
        simp only [lqt, lqz, lqs] at r0 r1 r2 r3 r4 r5
        go_wp2_with fail
        have HW9 : Hid (Mod (fun k => k = rb) w3 ((((((w3.setCell ⟨rb, 0, none⟩ (.int .i64 3)).setCell ⟨rb, 1, none⟩ (.bool false)).setCell ⟨rb, 2, none⟩ (.int .i64 0)).setCell ⟨rb, 3, none⟩ (.string nm)).setCell ⟨rb, 4, none⟩ (.slice none 0 0)).setCell ⟨rb, 5, none⟩ (.slice none 0 0))) := hId (((((((Mod.refl (fun k => k = rb) w3).setCell (p := ⟨rb, 0, none⟩) (.inl rfl) _).setCell (p := ⟨rb, 1, none⟩) (.inl rfl) _).setCell (p := ⟨rb, 2, none⟩) (.inl rfl) _).setCell (p := ⟨rb, 3, none⟩) (.inl rfl) _).setCell (p := ⟨rb, 4, none⟩) (.inl rfl) _).setCell (p := ⟨rb, 5, none⟩) (.inl rfl) _)
        have HR9 : Hid (Blk ((((((w3.setCell ⟨rb, 0, none⟩ (.int .i64 3)).setCell ⟨rb, 1, none⟩ (.bool false)).setCell ⟨rb, 2, none⟩ (.int .i64 0)).setCell ⟨rb, 3, none⟩ (.string nm)).setCell ⟨rb, 4, none⟩ (.slice none 0 0)).setCell ⟨rb, 5, none⟩ (.slice none 0 0)) rb 30 #[(.int .i64 3), (.bool false), (.int .i64 0), (.string nm), (.slice none 0 0), (.slice none 0 0)]) := hId ((((((HR.out.set 0 (.int .i64 3)).set 1 (.bool false)).set 2 (.int .i64 0)).set 3 (.string nm)).set 4 (.slice none 0 0)).set 5 (.slice none 0 0))
        clear r0 r1 r2 r3 r4 r5 rf rl
        generalize ((((((w3.setCell ⟨rb, 0, none⟩ (.int .i64 3)).setCell ⟨rb, 1, none⟩ (.bool false)).setCell ⟨rb, 2, none⟩ (.int .i64 0)).setCell ⟨rb, 3, none⟩ (.string nm)).setCell ⟨rb, 4, none⟩ (.slice none 0 0)).setCell ⟨rb, 5, none⟩ (.slice none 0 0)) = w9 at *
        have r0 := HR9.out.cell 0
        have r1 := HR9.out.cell 1
        have r2 := HR9.out.cell 2
        have r3 := HR9.out.cell 3
        have r4 := HR9.out.cell 4
        have r5 := HR9.out.cell 5
        have rf := HR9.out.frozen
        have rl := HR9.out.lt
        simp only [lqt, lqz, lqs] at r0 r1 r2 r3 r4 r5
        refine bodyPost_ret (v := VA.val (⟨3, false, 0, nm, none, 0, 0, none, 0, 0⟩ : VA)) (by simp [results, Tryz.results19, go_sem, r0, r1, r2, r3, r4, r5, rf, rl, VA.val]) rfl ?_
        have hob : Only b w w9 := HM3.out.step HW9.out (fun k hk e => by have h5 : k = rb := e; have := HPE.out; omega)
        have hcase := HCA.out
        cases wq with
        | none =>
          obtain ⟨t, h1, h2⟩ := hcase
          exact HFIN.out _ _ ⟨hob, _, K, rfl, hKs, .inr ⟨K, h2.mod HW9.out (by omega), fun st => by rw [HBEG.out st]; exact .refl _⟩⟩
        | some om =>
          obtain ⟨o, m⟩ := om
          obtain ⟨h1, h2⟩ := hcase
          have h3 := (words_some HWQ.out).2.1
          rw [List.length_drop, HLL.out] at h3
          have h4 : nm = ⟨o.toArray⟩ := by
            injection h1 with h1
            injection h1 with h1
          exact HFIN.out _ _ ⟨hob, _, K + 1 + m, rfl, by omega, .inl ⟨rdWords o, by omega, h2.mod HW9.out (by omega), by rw [h4]; exact leafTree _ _ (by omega) _ _ _ _, fun st => by rw [HBEG.out st]; exact .refl _⟩⟩
      · have n34 : ((c.toNat : Int) == 34) = false := by
          have : c.toNat ≠ 34 := fun e => h34 (UInt8.toNat_inj.1 e)
          simp; omega
        go_upto_region 13 with (fail)
        obtain ⟨R, hR⟩ : ∃ R, startB c = R := ⟨_, rfl⟩
        have HSB := hId hR
        have hsb : R = ((decide ((c.toNat : Int) = 45) || (decide ((48 : Int) ≤ (c.toNat : Int)) && decide ((c.toNat : Int) ≤ 57))) || (decide ((97 : Int) ≤ bits BinOp.or IntKind.u8 (c.toNat : Int) 32) && decide (bits BinOp.or IntKind.u8 (c.toNat : Int) 32 ≤ 122))) := by
          rw [← hR, start_dec]
        clear hR
        go_cut [33] from 34 to 53 (fun s33 wx => s33 = .bool R ∧ w2 = wx)
        case first =>
          obtain ⟨A0, hA0⟩ : ∃ A0, ((c.toNat : Int) == 45) = A0 := ⟨_, rfl⟩
          obtain ⟨A1, hA1⟩ : ∃ A1, decide ((48 : Int) ≤ (c.toNat : Int)) = A1 := ⟨_, rfl⟩
          obtain ⟨A2, hA2⟩ : ∃ A2, decide ((c.toNat : Int) ≤ 57) = A2 := ⟨_, rfl⟩
          obtain ⟨A3, hA3⟩ : ∃ A3, decide ((97 : Int) ≤ bits BinOp.or IntKind.u8 (c.toNat : Int) 32) = A3 := ⟨_, rfl⟩
          obtain ⟨A4, hA4⟩ : ∃ A4, decide (bits BinOp.or IntKind.u8 (c.toNat : Int) 32 ≤ 122) = A4 := ⟨_, rfl⟩
          rw [show decide ((c.toNat : Int) = 45) = ((c.toNat : Int) == 45) from rfl, hA0, hA1, hA2, hA3, hA4] at hsb
          have HSB2 := hId hsb
          clear hsb
          cases A0 <;> cases A1 <;> cases A2 <;> cases A3 <;> cases A4 <;> (go_wp2_with fail; go_meet; exact ⟨by rw [HSB2.out]; rfl, rfl⟩)
        case rest =>
          obtain ⟨rfl, hwx⟩ := hcut
          subst hwx
          rename World => w2
          clear hsb
          cases R with
          | true =>
            have hst := HSB.out
            have hlt : K < s.size := by
              have h1 := topAt_lt (s := L) (i := K) (by rw [HC.out]; intro e; rw [e] at hst; exact absurd hst (by decide))
              rw [HLL.out] at h1
              exact h1
            have hrow := ref_row s K b w2 hs hlt HB2.out HP2.out
            unfold RRw at hrow
            simp only [HL.out] at hrow
            obtain ⟨E, hE⟩ : ∃ E, spanAt rowB L K = E := ⟨_, rfl⟩
            have hEs : E ≤ s.size := by rw [← hE, ← HL.out]; exact spanL_size _ _ hKs
            have hEK : K + 1 ≤ E := by
              have hLk : K < L.length := by rw [HLL.out]; exact hlt
              rw [← hE, spanAt_yes (p := rowB) (s := L) (k := K) hLk (by rw [← topAt_get hLk, HC.out]; exact start_row hst)]
              exact spanAt_ge _ _ _
            have HBEG : Hid (∀ st, begK L st K = match rdRow (cutB L K E) with
              | none => .bad K
              | some v => putS st v E) := hId (fun st => by
              unfold begK
              rw [HC.out, if_neg h34, if_pos hst, hE]
              rfl)
            rw [hE] at hrow
            clear hE hst
            generalize hrr : rdRow (cutB L K E) = rr at *
            clear hrr
            go_wp2_with fail
            refine hrow.mono ?_
            clear hrow p0 pl
            rintro e w3 ⟨hm3, kk, ff, nn, rfl, hcase⟩
            have HM3 := hId (HM2.out.trans hm3)
            have HR := hId (HR2.out.mod hm3 (by omega))
            have HCA := hId hcase
            clear hm3 hcase
            have r0 := HR.out.cell 0
            have r1 := HR.out.cell 1
            have r2 := HR.out.cell 2
            have r3 := HR.out.cell 3
            have r4 := HR.out.cell 4
            have r5 := HR.out.cell 5
            have rf := HR.out.frozen
            have rl := HR.out.lt
            simp only [lqt, lqz, lqs] at r0 r1 r2 r3 r4 r5
            simp only [VA.val, leafA]
            go_wp2_with fail
            have HW9 : Hid (Mod (fun k => k = rb) w3 ((((((w3.setCell ⟨rb, 0, none⟩ (.int .i64 kk)).setCell ⟨rb, 1, none⟩ (.bool ff)).setCell ⟨rb, 2, none⟩ (.int .i64 nn)).setCell ⟨rb, 3, none⟩ (.string ⟨#[]⟩)).setCell ⟨rb, 4, none⟩ (.slice none 0 0)).setCell ⟨rb, 5, none⟩ (.slice none 0 0))) := hId (((((((Mod.refl (fun k => k = rb) w3).setCell (p := ⟨rb, 0, none⟩) (.inl rfl) _).setCell (p := ⟨rb, 1, none⟩) (.inl rfl) _).setCell (p := ⟨rb, 2, none⟩) (.inl rfl) _).setCell (p := ⟨rb, 3, none⟩) (.inl rfl) _).setCell (p := ⟨rb, 4, none⟩) (.inl rfl) _).setCell (p := ⟨rb, 5, none⟩) (.inl rfl) _)
            have HR9 : Hid (Blk ((((((w3.setCell ⟨rb, 0, none⟩ (.int .i64 kk)).setCell ⟨rb, 1, none⟩ (.bool ff)).setCell ⟨rb, 2, none⟩ (.int .i64 nn)).setCell ⟨rb, 3, none⟩ (.string ⟨#[]⟩)).setCell ⟨rb, 4, none⟩ (.slice none 0 0)).setCell ⟨rb, 5, none⟩ (.slice none 0 0)) rb 30 #[(.int .i64 kk), (.bool ff), (.int .i64 nn), (.string ⟨#[]⟩), (.slice none 0 0), (.slice none 0 0)]) := hId ((((((HR.out.set 0 (.int .i64 kk)).set 1 (.bool ff)).set 2 (.int .i64 nn)).set 3 (.string ⟨#[]⟩)).set 4 (.slice none 0 0)).set 5 (.slice none 0 0))
            clear r0 r1 r2 r3 r4 r5 rf rl
            generalize ((((((w3.setCell ⟨rb, 0, none⟩ (.int .i64 kk)).setCell ⟨rb, 1, none⟩ (.bool ff)).setCell ⟨rb, 2, none⟩ (.int .i64 nn)).setCell ⟨rb, 3, none⟩ (.string ⟨#[]⟩)).setCell ⟨rb, 4, none⟩ (.slice none 0 0)).setCell ⟨rb, 5, none⟩ (.slice none 0 0)) = w9 at *
            have r0 := HR9.out.cell 0
            have r1 := HR9.out.cell 1
            have r2 := HR9.out.cell 2
            have r3 := HR9.out.cell 3
            have r4 := HR9.out.cell 4
            have r5 := HR9.out.cell 5
            have rf := HR9.out.frozen
            have rl := HR9.out.lt
            simp only [lqt, lqz, lqs] at r0 r1 r2 r3 r4 r5
            refine bodyPost_ret (v := VA.val (⟨kk, ff, nn, ⟨#[]⟩, none, 0, 0, none, 0, 0⟩ : VA)) (by simp [results, Tryz.results19, go_sem, r0, r1, r2, r3, r4, r5, rf, rl, VA.val]) rfl ?_
            have hob : Only b w w9 := HM3.out.step HW9.out (fun k hk e => by have h5 : k = rb := e; have := HPE.out; omega)
            have hcase := HCA.out
            cases rr with
            | none => exact HFIN.out _ _ ⟨hob, _, E, rfl, hEs, .inr ⟨K, hcase.mod HW9.out (by omega), fun st => by rw [HBEG.out st]; exact .refl _⟩⟩
            | some v =>
              obtain ⟨h1, h2⟩ := hcase
              exact HFIN.out _ _ ⟨hob, _, E, rfl, hEs, .inl ⟨v, by omega, h2.mod HW9.out (by omega), by rw [h1]; exact leafTree _ _ (by omega) _ _ _ _, fun st => by rw [HBEG.out st]; exact .refl _⟩⟩
          | false =>
            have HBEG : Hid (∀ st, begK L st K = .bad K) := hId (fun st => by
              unfold begK
              rw [HC.out, if_neg h34, if_neg (by rw [HSB.out]; simp), if_neg h91, if_neg h123])
            have HSX : Hid (∀ W, New w2 W → W.cell? ⟨pb, 0, none⟩ = some (.pointer (some ⟨b, 0, none⟩)) ∧ W.cell? ⟨b, 1, none⟩ = some (.int .i64 (K : Int)) ∧ pb < W.heap.size ∧ b < W.heap.size) := hId (fun W hW => by
              have h1 := HPB2.out.mod hW (fun e => e)
              have h2 := HB2.out.mod hW (fun e => e)
              exact ⟨(h1.cell 0).trans rfl, (h2.cell 1).trans rfl, h1.lt, h2.lt⟩)
            have hwr := fun W (hW : New w2 W) => ref_wrong s K (-1) K b W (HB2.out.mod hW (fun e => e))
            clear p0 pl
            go_upto_region 15 with (fail)
            refine wp_region_held_ord (New w2) [] [0, 1, 2, 3, 4] (by kernel_rfl) (by kernel_rfl) (fun _ _ d _ _ h => by cases d <;> exact h) (by with_reducible (repeat (first | exact Mod.refl _ _ | refine Mod.drewN ?_ _ | refine Mod.drew ?_ | refine Mod.alloc ?_ _))) (fun hHeld => ?_)
            simp only [List.length_cons, List.length_nil, List.drop_succ_cons, List.drop_zero]
            refine heldO_take ?_ (by rfl) (by rfl) (by rfl) (fun w hSw => ?_) ?_
            rotate_left
            · (have hq := HSX.out w hSw); go_simp; any_goals (with_reducible rfl)
            simp only [Act.put, lst, lsz, lss]
            refine heldO_take ?_ (by rfl) (by rfl) (by rfl) (fun w hSw => ?_) ?_
            rotate_left
            · (have hq := HSX.out w hSw); go_simp; any_goals (with_reducible rfl)
            simp only [Act.put, lst, lsz, lss]
            refine heldO_take ?_ (by rfl) (by rfl) (by rfl) (fun w hSw => ?_) ?_
            rotate_left
            · (have hq := HSX.out w hSw); go_simp; any_goals (with_reducible rfl)
            simp only [Act.put, lst, lsz, lss]
            refine heldO_take ?_ (by rfl) (by rfl) (by rfl) (fun w hSw => ?_) ?_
            rotate_left
            · (have hq := HSX.out w hSw); go_simp; any_goals (with_reducible rfl)
            simp only [Act.put, lst, lsz, lss]
            refine heldO_take ?_ (by rfl) (by rfl) (by rfl) (fun w hSw => ?_) ?_
            rotate_left
            · (have hq := HSX.out w hSw); go_simp; any_goals (with_reducible rfl)
            simp only [Act.put, lst, lsz, lss]
            refine heldO_nil ?_
            clear hHeld
            go_wp2_with fail
            refine (hwr _ (by with_reducible (repeat (first | exact Mod.refl _ _ | refine Mod.drewN ?_ _ | refine Mod.drew ?_ | refine Mod.alloc ?_ _)))).mono ?_
            clear hwr
            rintro e w3 ⟨rfl, hb3, hm3⟩
            rw [if_pos (by decide)] at hb3
            have HO3 : Hid (Only b w2 w3) := hId ((show Only b w2 _ from (by with_reducible (repeat (first | exact Mod.refl _ _ | refine Mod.drewN ?_ _ | refine Mod.drew ?_ | refine Mod.alloc ?_ _)))).trans hm3)
            have HB3 := hId hb3
            have HM3 := hId (HM2.out.trans HO3.out)
            have HR := hId (HR2.out.mod HO3.out (by omega))
            clear hb3 hm3
            have r0 := HR.out.cell 0
            have r1 := HR.out.cell 1
            have r2 := HR.out.cell 2
            have r3 := HR.out.cell 3
            have r4 := HR.out.cell 4
            have r5 := HR.out.cell 5
            have rf := HR.out.frozen
            have rl := HR.out.lt
            simp only [lqt, lqz, lqs] at r0 r1 r2 r3 r4 r5
            go_wp2_with fail
            have HW9 : Hid (Mod (fun k => k = rb) w3 ((((((w3.setCell ⟨rb, 0, none⟩ (.int .i64 0)).setCell ⟨rb, 1, none⟩ (.bool false)).setCell ⟨rb, 2, none⟩ (.int .i64 0)).setCell ⟨rb, 3, none⟩ (.string ⟨#[]⟩)).setCell ⟨rb, 4, none⟩ (.slice none 0 0)).setCell ⟨rb, 5, none⟩ (.slice none 0 0))) := hId (((((((Mod.refl (fun k => k = rb) w3).setCell (p := ⟨rb, 0, none⟩) (.inl rfl) _).setCell (p := ⟨rb, 1, none⟩) (.inl rfl) _).setCell (p := ⟨rb, 2, none⟩) (.inl rfl) _).setCell (p := ⟨rb, 3, none⟩) (.inl rfl) _).setCell (p := ⟨rb, 4, none⟩) (.inl rfl) _).setCell (p := ⟨rb, 5, none⟩) (.inl rfl) _)
            have HR9 : Hid (Blk ((((((w3.setCell ⟨rb, 0, none⟩ (.int .i64 0)).setCell ⟨rb, 1, none⟩ (.bool false)).setCell ⟨rb, 2, none⟩ (.int .i64 0)).setCell ⟨rb, 3, none⟩ (.string ⟨#[]⟩)).setCell ⟨rb, 4, none⟩ (.slice none 0 0)).setCell ⟨rb, 5, none⟩ (.slice none 0 0)) rb 30 #[(.int .i64 0), (.bool false), (.int .i64 0), (.string ⟨#[]⟩), (.slice none 0 0), (.slice none 0 0)]) := hId ((((((HR.out.set 0 (.int .i64 0)).set 1 (.bool false)).set 2 (.int .i64 0)).set 3 (.string ⟨#[]⟩)).set 4 (.slice none 0 0)).set 5 (.slice none 0 0))
            clear r0 r1 r2 r3 r4 r5 rf rl
            generalize ((((((w3.setCell ⟨rb, 0, none⟩ (.int .i64 0)).setCell ⟨rb, 1, none⟩ (.bool false)).setCell ⟨rb, 2, none⟩ (.int .i64 0)).setCell ⟨rb, 3, none⟩ (.string ⟨#[]⟩)).setCell ⟨rb, 4, none⟩ (.slice none 0 0)).setCell ⟨rb, 5, none⟩ (.slice none 0 0)) = w9 at *
            have r0 := HR9.out.cell 0
            have r1 := HR9.out.cell 1
            have r2 := HR9.out.cell 2
            have r3 := HR9.out.cell 3
            have r4 := HR9.out.cell 4
            have r5 := HR9.out.cell 5
            have rf := HR9.out.frozen
            have rl := HR9.out.lt
            simp only [lqt, lqz, lqs] at r0 r1 r2 r3 r4 r5
            refine bodyPost_ret (v := VA.val (⟨0, false, 0, ⟨#[]⟩, none, 0, 0, none, 0, 0⟩ : VA)) (by simp [results, Tryz.results19, go_sem, r0, r1, r2, r3, r4, r5, rf, rl, VA.val]) rfl ?_
            have hob : Only b w w9 := HM3.out.step HW9.out (fun k hk e => by have h5 : k = rb := e; have := HPE.out; omega)
            exact HFIN.out _ _ ⟨hob, _, K, rfl, hKs, .inr ⟨K, HB3.out.mod HW9.out (by omega), fun st => by rw [HBEG.out st]; exact .refl _⟩⟩
theorem ref_value (s : ByteArray) (hs : s.size ≤ 240000) (b : Nat) : ∀ (n i : Nat) (w : World), s.size + 1 - i ≤ n → i ≤ s.size → Blk w b 53 (RRc s i (-1)) → PowK b w →
    Calls Tryz.prog 19 #[.pointer (some ⟨b, 0, none⟩)] w (RVl s b i w)
  | 0, i, w, hn, hi, _, _ => by omega
  | n + 1, i, w, hn, hi, hb, hP => ref_value_step s hs i b w hi hb hP (fun W J hiJ hJ hb2 hP2 => ref_value s hs b n J W (by omega) hJ hb2 hP2)
end Go.Proofs.YtjmnkdkdjnmejaaGreatDoor
