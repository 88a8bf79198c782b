/- The law VisitsSpread, walked. Conditions: the argument is a slice of ints that can be read. -/
import Derived.Test.YtinnckbffblecaaGreatPost7
import Derived.Test.YtinnckbffblecaaGreatPost8
import Derived.Test.YtinnckbffblecaaGreatVisitsMake
import Derived.Test.YtinnckbffblecaaGreatLimited
import Derived.Test.YtinnckbffblecaaGreatLaw
namespace Go.Proofs.YtinnckbffblecaaGreat
open Go.RowKit Go.MapKept
set_option linter.unusedVariables false
set_option linter.unusedSimpArgs false

theorem equal_bools (zs : List Bool) (A1 A2 : Option Addr) (n c1 c2 : Nat) (w : World) (h1 : Sl w 4 1 boolEnc A1 n zs) (h2 : Sl w 4 1 boolEnc A2 n zs) (hn : n ≤ 1000000) :
    Calls Tryz.prog 17 #[.slice A1 n c1, .slice A2 n c2] w fun e w' => e = .returned (.bool true) ∧ ∃ q, w' = w.drewN q := by
  have hlen := h1.1
  have H1 := Lib.hid h1
  have H2 := Lib.hid h2
  clear h1 h2
  go_enter Tryz.func17, Tryz.ntmps17
  go_wp2_with fail
  go_loopw [5, 13] (fun _ i wr => ∃ k : Nat, k ≤ n ∧ i = .int .i64 k ∧ ∃ q, wr = w.drewN q) (fun _ i _ => n - (intOf i).toNat)
  case atStart => exact ⟨0, Nat.zero_le _, rfl, 0, rfl⟩
  case round =>
    obtain ⟨k, hk, rfl, q, rfl⟩ := hrel
    by_cases hlt : k < n
    · obtain ⟨g1, o1, hA1, t1, k1⟩ := H1.out.2 (by omega)
      obtain ⟨g2, o2, hA2, t2, k2⟩ := H2.out.2 (by omega)
      subst hA1 hA2
      have a0 := k1 k (by omega) 0 (by omega)
      have b0 := k2 k (by omega) 0 (by omega)
      simp only [boolEnc, Nat.add_zero, Nat.mul_one] at a0 b0
      have l1 := t1.lt
      have l2 := t2.lt
      have hb1 : (0 : Int) ≤ k := by omega
      have hb2 : (k : Int) < n := by omega
      clear k1 k2
      generalize zs[k] = z at *
      go_wp2_with fail
      go_quiet (fail)
      go_wp2_with fail
      exact ⟨⟨k + 1, by omega, by go_num, _, rfl⟩, by simp [intOf]; omega⟩
    · obtain rfl : k = n := by omega
      go_wp2_with fail
      go_ret
      exact ⟨rfl, _, rfl⟩

set_option maxRecDepth 100000 in
set_option maxHeartbeats 1500000 in
theorem visits_walk (A : Option Addr) (n c : Nat) (w : World) (h : InInts w A n) :
    Calls Tryz.prog 3 #[.slice A n c] w fun e w' => e = .returned (.bool true) ∧ New w w' := by
  have hs := SInv.start (c := c) h
  go_enter Tryz.func3, Tryz.ntmps3
  go_wp2_with fail
  have T0 := SStep.refl hs
  have hpick := pick_any [1, 3, 5, 9] w.heap.size 0 (w.heap.size + 1) 4 _ (T0.alloc _).inv (by omega) (Blk.new' _ _ (by simp)) rfl (by omega) (by omega)
  refine hpick.mono ?_
  clear hpick
  rintro e w1 ⟨most, rfl, m1, h1⟩
  have T1 := (T0.alloc _).trans h1
  have hmost : 1 ≤ most ∧ most ≤ 9 := by simp at m1; omega
  clear T0 h1 m1
  generalize hW0 : w.alloc (.cells #[.slice A n c, .int .i64 0] 25) = W0 at *
  have hW0s : W0.heap.size = w.heap.size + 1 := by rw [← hW0]; simp
  have hnews : ∀ w' k, SStep w.heap.size W0 w' k → New w w' := fun w' k hh => by rw [← hW0] at hh; exact hh.news
  have HN := Lib.hid hnews
  have HW0s := Lib.hid hW0s
  clear hnews hW0 hW0s hs
  go_wp2_with fail
  refine (pick_any [20, 50, 100] w.heap.size 1 w1.heap.size 3 _ (T1.alloc _).inv (by omega) (Blk.new _ _ _) rfl (by omega) (by omega)).mono ?_
  rintro e w2 ⟨per, rfl, m2, h2⟩
  have T2 := (T1.alloc _).trans h2
  have hper : 1 ≤ per ∧ per ≤ 100 := by simp at m2; omega
  have hz2 : w.heap.size < w2.heap.size := by have := T2.only.size; rw [HW0s.out] at this; omega
  clear T1 h2 m2
  go_upto_if 22 with (first | (go_at_call 7; refine (flip_any _ _ _ _ (T2.alloc _).inv (by omega) (by omega) (by omega)).mono ?_; rintro e w3 ⟨m, rfl, h3⟩))
  have T3 := (T2.alloc _).trans h3
  obtain ⟨o3, z3, n3⟩ := h3.only.pre
  have B3 : Blk w3 w2.heap.size 28 _ := n3 (by omega)
  clear n3 h3 o3 T2
  go_cut [] (fun wx => ∃ (key : ByteArray) (kind most per burst : Int), key.size ≤ 1 ∧ Blk wx w2.heap.size 28 #[.string key, .int .i64 kind, .int .i64 most, .int .i64 per, .int .i64 burst] ∧ SStep w.heap.size W0 wx 9)
  case first =>
    cases m
    · go_wp2_with fail
      go_meet
      exact ⟨_, _, _, _, _, by decide, B3, T3.more (by omega)⟩
    · go_wp2_with fail
      refine (some_any [⟨#[119]⟩, ⟨#[65]⟩] w.heap.size 3 w3.heap.size 2 _ (T3.alloc _).inv (by omega) (Blk.new _ _ _) rfl (by omega) (by omega)).mono ?_
      rintro e w4 ⟨key, rfl, mk, h4⟩
      have hkey : key.size ≤ 1 := by simp at mk; rcases mk with rfl | rfl <;> decide
      have B4 := B3.mod h4.only.pre.1 (by omega)
      have T4 := (T3.alloc _).trans h4
      clear h4 T3 B3
      go_wp2_with fail
      refine (rightLimit_any key w.heap.size _ _ T4.inv (by omega)).mono ?_
      rintro e w5 ⟨l, rfl, hlk, hls, h5⟩
      obtain ⟨key', kind, most', per', burst⟩ := l
      simp only at hlk
      subst hlk
      simp only [Lim.val]
      have B5 := B4.mod h5.only (by omega)
      have T5 := T4.trans h5
      have c0 := B5.cell 0
      have c1 := B5.cell 1
      have c2 := B5.cell 2
      have c3 := B5.cell 3
      have c4 := B5.cell 4
      have f0 := B5.frozen 0
      have f1 := B5.frozen 1
      have f2 := B5.frozen 2
      have f3 := B5.frozen 3
      have f4 := B5.frozen 4
      simp at c0 c1 c2 c3 c4
      go_wp2_with fail
      go_meet
      refine ⟨key', kind, most', per', burst, hkey, by simpa using ((((B5.set 0 (.string key')).set 1 (.int .i64 kind)).set 2 (.int .i64 most')).set 3 (.int .i64 per')).set 4 (.int .i64 burst), ?_⟩
      refine SStep.set (SStep.set (SStep.set (SStep.set (SStep.set (T5.more (by omega)) ?_ _) ?_ _) ?_ _) ?_ _) ?_ _ <;> (rw [HW0s.out]; simp; omega)
  case rest =>
    clear T3 B3 hmost hper
    obtain ⟨key, kind, most', per', burst, hkey, BX, TX⟩ := hcut
    go_wp2_with fail
    refine (pick_any [1, 2, 3, 10, 0] w.heap.size _ wc.heap.size 5 _ (TX.alloc _).inv (by omega) (Blk.new _ _ _) rfl (by omega) (by omega)).mono ?_
    rintro e w6 ⟨batch, rfl, m6, h6⟩
    have B6 := BX.mod h6.only.pre.1 (by omega)
    have T6 := (TX.alloc _).trans h6
    clear h6 BX TX m6
    go_wp2_with fail
    refine (pick_any [0, 1, 5, 10, 30, 70, -1] w.heap.size _ w6.heap.size 7 _ (T6.alloc _).inv (by omega) (Blk.new _ _ _) rfl (by omega) (by omega)).mono ?_
    rintro e w7 ⟨delay, rfl, m7, h7⟩
    have B7 := B6.mod h7.only.pre.1 (by omega)
    have T7 := (T6.alloc _).trans h7
    clear h7 B6 T6 m7
    go_wp2_with fail
    refine (range_any _ _ _ _ _ T7.inv (by omega) (by omega) (by omega) (by omega)).mono ?_
    rintro e w8 ⟨nn, rfl, hnn0, hnn1, h8⟩
    obtain ⟨nn, rfl⟩ := Int.eq_ofNat_of_zero_le hnn0
    have B8 := B7.mod h8.only (by omega)
    have T8 := T7.trans h8
    clear h8 B7 T7 hnn0
    go_wp2_with fail
    refine (stream_visits _ _ nn _ T8.inv (by omega) (by omega)).mono ?_
    rintro e w9 ⟨Av, cv, vs, rfl, hvr, hvg, h9⟩
    have B9 := B8.mod h9.only (by omega)
    have T9 := T8.trans h9
    clear h9 B8 T8
    obtain rfl : nn = vs.length := hvr.1.symm
    have hvg' : ∀ v ∈ vs, v.gate.size ≤ maxLen := fun v hv => by have := hvg v hv; unfold maxLen; omega
    generalize hL : (⟨key, kind, most', per', burst⟩ : Lim) = L at *
    have hLv : L.val = .agg #[.string key, .int .i64 kind, .int .i64 most', .int .i64 per', .int .i64 burst] := by rw [← hL]; rfl
    have hargs : SpreadArgs w9 L vs Av vs.length := ⟨hvr, by omega, hvg', by rw [← hL]; unfold maxLen; simp only; omega⟩
    have hsp := limit_Spread w9 L batch delay vs Av vs.length cv hargs
    rw [hLv] at hsp
    have c0 := B9.cell 0
    have c1 := B9.cell 1
    have c2 := B9.cell 2
    have c3 := B9.cell 3
    have c4 := B9.cell 4
    simp at c0 c1 c2 c3 c4
    go_upto_region 6 with (fail)
    go_wp2_with fail
    refine hsp.mono ?_
    clear hsp
    rintro e w10 ⟨hor, m10⟩
    have hcv := limit_checkVisits vs Av vs.length cv w10 (hvr.new m10) (by omega) hvg'
    have hks : L.key.size ≤ maxLen := hargs.2.2.2
    have hsf := fun (w' : World) (hm : New w9 w') => ref_SpreadFault w' L batch delay vs Av vs.length cv ⟨hvr.new hm, by omega, hvg', hks⟩
    rw [hLv] at hsf
    have hrf := fun (w' : World) (hm : New w9 w') => ref_visitsFault vs Av vs.length cv w' (hvr.new hm) (by omega) hvg'
    have HVR := Lib.hid hvr
    have HVG := Lib.hid hvg'
    have HB9 := Lib.hid B9
    clear hvr hvg hvg' c0 c1 c2 c3 c4 B9 hargs
    rcases hor with ⟨hne, rfl⟩ | ⟨h0, A1, c1, rfl, hown⟩
    · have hne' : (spreadF L batch delay vs != 0) = true := by simpa using hne
      clear hne
      generalize spreadF L batch delay vs = F at *
      go_upto_region 7 with (fail)
      generalize visitsFault vs = G at *
      go_upto_region 9 with (first | (go_at_call 13; refine hcv.mono ?_; clear hcv; rintro e w11 ⟨rfl, m11⟩; have hrf := hrf w11 (m10.trans m11)) | (go_at_call 14; refine hrf.mono ?_; clear hrf; rintro e w12 ⟨rfl, m12⟩))
      have m12' : New w9 w12 := (m10.trans m11).trans m12
      have B12 := HB9.out.mod m12' (fun e => e)
      have c0 := B12.cell 0
      have c1 := B12.cell 1
      have c2 := B12.cell 2
      have c3 := B12.cell 3
      have c4 := B12.cell 4
      simp at c0 c1 c2 c3 c4
      have hsf := hsf w12 m12'
      go_wp2_with (first | (go_at_call 15; refine hsf.mono ?_; clear hsf; rintro e w13 ⟨rfl, m13⟩) | (go_at_call 16; refine (limited_true _).mono ?_; rintro e w14 ⟨rfl, m14⟩))
      go_ret
      exact ⟨rfl, HN.out _ _ (T9.new ((m12'.trans m13).trans m14))⟩
    · have HS0 := Lib.hid h0
      generalize hvF : visitsFault vs = G at *
      rw [h0] at hsf
      go_upto_region 9 with (first | (go_at_call 13; refine hcv.mono ?_; clear hcv; rintro e w11 ⟨rfl, m11⟩; have hrf := hrf w11 (m10.trans m11)) | (go_at_call 14; refine hrf.mono ?_; clear hrf; rintro e w12 ⟨rfl, m12⟩))
      have m12' : New w9 w12 := (m10.trans m11).trans m12
      have B12 := HB9.out.mod m12' (fun e => e)
      have c0 := B12.cell 0
      have c1' := B12.cell 1
      have c2 := B12.cell 2
      have c3 := B12.cell 3
      have c4 := B12.cell 4
      simp at c0 c1' c2 c3 c4
      have hsf := hsf w12 m12'
      have HOW := Lib.hid hown
      clear hown h0
      go_upto_region 12 with (first | (go_at_call 15; refine hsf.mono ?_; clear hsf; rintro e w13 ⟨rfl, m13⟩))
      clear c0 c1' c2 c3 c4
      have m13' : New w9 w13 := m12'.trans m13
      have B13 := HB9.out.mod m13' (fun e => e)
      have c0 := B13.cell 0
      have c1' := B13.cell 1
      have c2 := B13.cell 2
      have c3 := B13.cell 3
      have c4 := B13.cell 4
      simp at c0 c1' c2 c3 c4
      have hf := HS0.out
      unfold spreadF at hf
      have hwF : winF L = 0 := by
        by_cases e : winF L = 0
        · exact e
        · rw [if_pos e] at hf; exact absurd hf e
      rw [if_neg (by simp [hwF])] at hf
      have hin : inR batch 1 1000000000 = true ∧ inR delay 0 8640000000 = true := by
        cases e1 : inR batch 1 1000000000 <;> cases e2 : inR delay 0 8640000000 <;> simp [e1, e2] at hf ⊢
      rw [hin.1, hin.2] at hf
      have hvF0 : visitsFault vs = 0 := by
        by_cases e : visitsFault vs = 0
        · exact e
        · simp [e] at hf
      have hbt : 1 ≤ batch ∧ batch ≤ 1000000000 := by have := hin.1; unfold inR at this; simpa using this
      have hDt : 0 ≤ delay ∧ delay ≤ 8640000000 := by have := hin.2; unfold inR at this; simpa using this
      have hwl := WLim.of_fault hwF
      obtain ⟨hsim, _, _⟩ := sims hwl hDt.1 hbt hvF0 vs.length (Nat.le_refl _)
      have hso := ref_SpreadOf w13 L batch delay vs Av vs.length cv ⟨HVR.out.new m13', by omega, HVG.out, hks⟩ hwl hbt hDt hvF0
      rw [hLv] at hso
      have HOW2 : Hid (Sl w13 4 1 boolEnc A1 vs.length (outP L batch delay vs vs.length)) := Lib.hid (HOW.out.new ((m11.trans m12).trans m13)).sl
      have hso2 := hso.mono (R' := fun e w' => ∃ A c, e = .returned (.slice A vs.length c) ∧ BoolOwn w' w13.heap.size A vs.length c (outP L batch delay vs vs.length) ∧ New w13 w') (by rintro e w' ⟨A2, c2, he, ho, hm⟩; exact ⟨A2, c2, he, by rw [hsim]; exact ho, hm⟩)
      clear hf hin hvF0 HOW hsim hso
      generalize outP L batch delay vs vs.length = zs at *
      have hvl : vs.length ≤ 1000000 := by omega
      go_wp2_with fail
      refine hso2.mono ?_
      clear hso2
      rintro e w14 ⟨A2, c2', rfl, hown2, m14⟩
      have s1 := HOW2.out.new m14
      have s2 := hown2.sl
      have heq := equal_bools zs A1 A2 vs.length c1 c2' w14 s1 s2 hvl
      clear s1 s2 hown2 c0 c1' c2 c3 c4
      go_wp2_with fail
      refine heq.mono ?_
      clear heq
      rintro e w15 ⟨rfl, q15, rfl⟩
      go_wp2_with fail
      refine (limited_true _).mono ?_
      rintro e w16 ⟨rfl, m16⟩
      go_wp2_with fail
      go_ret
      exact ⟨rfl, HN.out _ _ (T9.new (((m13'.trans m14).drewN q15).trans m16))⟩

end Go.Proofs.YtinnckbffblecaaGreat
