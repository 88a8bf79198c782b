/- Fair shares: the reference. Conditions: numbers that were checked. -/
import Derived.Test.YtinnckbffblecaaFair2
namespace Go.Proofs.Ytinnckbffblecaa
open Go.RowKit



set_option maxHeartbeats 4000000 in
theorem ref_fairOf (most : Int) (xs ys : List Int) (A1 A2 : Option Addr) (n c1 c2 : Nat) (w : World) (h1 : IntSl w A1 n xs) (h2 : IntSl w A2 n ys) (hn1 : n ≤ 1000000) (hf : fairFault most xs ys = 0) :
    Calls Try.prog 19 #[.int .i64 most, .slice A1 n c1, .slice A2 n c2] w (RInts w n (fairL most xs ys)) := by
  obtain ⟨hg, hm0, hm1⟩ := Good.of hf
  have HFF := Lib.hid hf
  have l1 := h1.1
  have l2 := h2.1
  have hn := hg.2.1
  clear hf
  go_enter Try.func19, Try.ntmps19
  go_wp2_with fail
  have hbx1 : Blk ((w.alloc (.cells #[.slice A1 n c1] 22)).alloc (.cells #[.slice A2 n c2] 22)) w.heap.size 22 #[.slice A1 n c1] := (Blk.new _ _ _).mod ((Mod.refl (fun _ => False) _).alloc _) (fun h => h)
  have hbx2 : Blk ((w.alloc (.cells #[.slice A1 n c1] 22)).alloc (.cells #[.slice A2 n c2] 22)) (w.heap.size + 1) 22 #[.slice A2 n c2] := Blk.new' _ _ (by simp)
  have hm00 : New w ((w.alloc (.cells #[.slice A1 n c1] 22)).alloc (.cells #[.slice A2 n c2] 22)) := ((Mod.refl _ _).alloc _).alloc _
  refine (ref_fairAt xs ys 1000000000 A1 A2 n c1 c2 _ _ _ (h1.new hm00) (h2.new hm00) hg (by omega) (by omega) hbx1 hbx2).mono ?_
  rintro e w1 ⟨A, c, rfl, hown, hnn⟩
  have hown := hown.less hm00.size
  have hn1 := hm00.trans hnn
  have hbx1 := hbx1.mod hnn (fun h => h)
  have hbx2 := hbx2.mod hnn (fun h => h)
  clear hm00 hnn
  by_cases hall : (shareL xs ys 1000000000).sum ≤ most
  · go_wp2_with fail
    go_ret
    exact ⟨A, c, rfl, by unfold fairL; rw [if_pos hall]; exact hown, hn1⟩
  · have hall' : ¬ (shareL xs ys 1000000000).sum ≤ most := hall
    go_wp2_with fail
    have hfin : fairL most xs ys = (tu most xs ys (shareL xs ys (fairLevel most xs ys)) (shareL xs ys (fairLevel most xs ys)).sum n).1 := by unfold fairL; rw [if_neg (by omega), l1]
    have HFIN := Lib.hid hfin
    clear hfin hall hown
    go_loopw [10, 11, 12, 13, 14] (fun lo_ hi_ _ _ _ wr => ∃ (lo hi : Int) (f : Nat), lo_ = .int .i64 lo ∧ hi_ = .int .i64 hi ∧ 0 ≤ lo ∧ lo < hi ∧ hi ≤ 1000000000 ∧ (hi - lo).toNat ≤ f ∧
      srch (fun t => decide ((shareL xs ys t).sum ≤ most)) f lo hi = fairLevel most xs ys ∧ (shareL xs ys lo).sum ≤ most ∧ New w wr ∧ Blk wr w.heap.size 22 #[.slice A1 n c1] ∧ Blk wr (w.heap.size + 1) 22 #[.slice A2 n c2]) (fun lo hi _ _ _ _ => (intOf hi - intOf lo).toNat)
    case atStart => exact ⟨0, 1000000000, 1000000000, rfl, rfl, by omega, by omega, by omega, by omega, rfl, by rw [share_zero hg]; omega, hn1, hbx1, hbx2⟩
    case round =>
      clear hbx1 hbx2
      obtain ⟨lo, hi, f, rfl, rfl, hlo, hlh, hhi, hff, hsr, hps, hm, hbx1, hbx2⟩ := hrel
      have HF := Lib.hid hff
      have HSR := Lib.hid hsr
      have HPS := Lib.hid hps
      clear hff hsr hps
      by_cases hgo : 1 < hi - lo
      · go_wp2_with fail
        refine (ref_fairAt xs ys ((lo + hi) / 2) A1 A2 n c1 c2 _ _ _ (h1.new hm) (h2.new hm) hg (by omega) (by omega) hbx1 hbx2).mono ?_
        rintro e w2 ⟨A, c, rfl, -, hn2⟩
        have hm2 := hm.trans hn2
        have hbx1 := hbx1.mod hn2 (fun h => h)
        have hbx2 := hbx2.mod hn2 (fun h => h)
        by_cases hp : (shareL xs ys ((lo + hi) / 2)).sum ≤ most
        · obtain ⟨f', hf', hsr'⟩ := srch_yes (fun t => decide ((shareL xs ys t).sum ≤ most)) f lo hi hgo HF.out (by simpa using hp)
          have HSR' := Lib.hid hsr'
          clear hsr'
          go_wp2_with fail
          go_roundw
          case rel => exact ⟨(lo + hi) / 2, hi, f', rfl, rfl, by omega, by omega, by omega, hf', HSR'.out.trans HSR.out, hp, hm2, hbx1, hbx2⟩
          case measure => simp [intOf]; omega
        · obtain ⟨f', hf', hsr'⟩ := srch_no (fun t => decide ((shareL xs ys t).sum ≤ most)) f lo hi hgo HF.out (by simpa using hp)
          have HSR' := Lib.hid hsr'
          clear hsr'
          go_wp2_with fail
          go_roundw
          case rel => exact ⟨lo, (lo + hi) / 2, f', rfl, rfl, by omega, by omega, by omega, hf', HSR'.out.trans HSR.out, HPS.out, hm2, hbx1, hbx2⟩
          case measure => simp [intOf]; omega
      · have hlev : fairLevel most xs ys = lo := by rw [← HSR.out, srch_end _ _ _ _ hgo]
        have HFIN' := Lib.hid (show fairL most xs ys = (tu most xs ys (shareL xs ys lo) (shareL xs ys lo).sum n).1 by rw [HFIN.out, hlev])
        clear hlev HSR HF HFIN
        go_wp2_with fail
        refine (ref_fairAt xs ys lo A1 A2 n c1 c2 _ _ _ (h1.new hm) (h2.new hm) hg (by omega) (by omega) hbx1 hbx2).mono ?_
        rintro e w2 ⟨A, c, rfl, hown, hn2⟩
        have hm2 := hm.trans hn2
        have hbd := share_bd hg lo (by omega) (by omega) n (by omega)
        rw [List.take_of_length_le (by omega), List.take_of_length_le (by omega)] at hbd
        have hps := HPS.out
        have hown := hown.less hm.size
        have hbx1 := hbx1.mod hn2 (fun h => h)
        have hbx2 := hbx2.mod hn2 (fun h => h)
        have cx1 := hbx1.cell 0
        simp at cx1
        have HT := Lib.hid (tu_bd (most := most) (out := shareL xs ys lo) hg (shareL_length hg lo) hbd.1 hps (fun i hi => shareL_get hg lo (by omega) i hi))
        have hAne : blkOf A ≠ some (w.heap.size + 1) := by
          rcases hown.blk with ⟨rfl, _⟩ | ⟨g, rfl, _, htb⟩
          · simp [blkOf]
          · have := htb.ne hbx2.tb (by decide)
            simpa [blkOf] using this
        clear hbx1
        go_wp2_with fail
        go_loopw [16, 17, 18, 19, 57] (fun s _ _ _ i wr => ∃ k : Nat, k ≤ n ∧ i = .int .i64 k ∧ s = .int .i64 (tu most xs ys (shareL xs ys lo) (shareL xs ys lo).sum k).2 ∧
          IntOwn wr w.heap.size A n c (tu most xs ys (shareL xs ys lo) (shareL xs ys lo).sum k).1 ∧ New w wr ∧ wr.cell? ⟨w.heap.size + 1, 0, none⟩ = some (.slice A2 n c2) ∧ (blkOf A ≠ some (w.heap.size + 1))) (fun _ _ _ _ i _ => n - (intOf i).toNat)
        case atStart => exact ⟨0, Nat.zero_le _, rfl, rfl, hown, hm2, by simpa using hbx2.cell 0, hAne⟩
        case round =>
          clear hbx2
          obtain ⟨k, hk, rfl, rfl, hownk, hmk, cx2, hAne⟩ := hrel
          have hT := HT.out k (by omega)
          by_cases hlt : k < n
          · obtain ⟨g1, o1, rfl, hg1, c1⟩ := IntSl.at (h1.new hmk) hlt
            obtain ⟨g2, o2, rfl, hg2, c2⟩ := IntSl.at (h2.new hmk) hlt
            obtain ⟨g3, rfl, hB3, hg3, hc3⟩ := hownk.form (by omega)
            have hlen3 := hownk.1
            have c3 := hownk.sl.2 (by omega)
            obtain ⟨g3', o3', hA3, -, c3⟩ := c3
            have c3 := c3 k (by omega) 0 (by omega)
            injection hA3 with hA3
            injection hA3 with hA3 hA4
            subst hA3 hA4
            have f3 := hownk.2.frozenAt k
            have hAne' : g3 ≠ w.heap.size + 1 := by simpa [blkOf] using hAne
            rw [getD_at (by omega)] at c1 c2 c3
            have hT4 := hT.2.2.2 k (by omega) (by omega)
            have hx := hg.2.2.1 (xs[k]'(by omega)) (List.getElem_mem _)
            have hy := hg.2.2.2 (ys[k]'(by omega)) (List.getElem_mem _)
            rw [getD_at (by omega)] at hx hy
            have hsu : tu most xs ys (shareL xs ys lo) (shareL xs ys lo).sum (k + 1) = ((tu most xs ys (shareL xs ys lo) (shareL xs ys lo).sum k).1.set k ((tu most xs ys (shareL xs ys lo) (shareL xs ys lo).sum k).1.getD k 0 + min (xs.getD k 0 - (tu most xs ys (shareL xs ys lo) (shareL xs ys lo).sum k).1.getD k 0) (min (ys.getD k 0) (most - (tu most xs ys (shareL xs ys lo) (shareL xs ys lo).sum k).2))), (tu most xs ys (shareL xs ys lo) (shareL xs ys lo).sum k).2 + min (xs.getD k 0 - (tu most xs ys (shareL xs ys lo) (shareL xs ys lo).sum k).1.getD k 0) (min (ys.getD k 0) (most - (tu most xs ys (shareL xs ys lo) (shareL xs ys lo).sum k).2))) := rfl
            have HSU := Lib.hid hsu
            clear hsu
            have hT2 := hT.2.1
            have hT3 := hT.2.2.1
            clear hT
            generalize tu most xs ys (shareL xs ys lo) (shareL xs ys lo).sum k = T at *
            generalize xs.getD k 0 = x at *
            generalize ys.getD k 0 = y at *
            simp only [Nat.zero_add, Nat.mul_one, Nat.add_zero, intEnc] at c3
            generalize T.1.getD k 0 = z at *
            have hq1 : (0 : Int) ≤ k := by omega
            have hq2 : (k : Int) < n := by omega
            have e1 : IntKind.i64.wrap (x - z) = x - z := IntWalk.i64_in _ (by omega)
            have e2 : IntKind.i64.wrap (most - T.2) = most - T.2 := IntWalk.i64_in _ (by omega)
            have e3 : (if most - T.2 < (if y < x - z then y else x - z) then most - T.2 else (if y < x - z then y else x - z)) = min (x - z) (min y (most - T.2)) := by omega
            go_wp2_with fail
            go_quiet (fail)
            clear e1 e2 e3
            have hmn : -1000000000000 ≤ min (x - z) (min y (most - T.2)) ∧ min (x - z) (min y (most - T.2)) ≤ 1000000000 := by omega
            go_wp2_with fail
            refine ⟨⟨k + 1, by omega, by go_num, by rw [HSU.out], ?_, ?_, ?_, hAne⟩, by simp [intOf]; omega⟩
            · rw [HSU.out]
              exact IntOwn.set (hownk.drewN _) k _
            · exact (hmk.drewN _).setCell (p := ⟨g3, k, none⟩) (.inr hB3) _
            · rw [World.cell?_setCell_other _ _ _ _ (by intro e; injection e; omega)]; exact cx2
          · obtain rfl : k = n := by omega
            go_wp2_with fail
            go_ret
            exact ⟨A, c, rfl, by rw [HFIN'.out]; exact hownk, hmk⟩

end Go.Proofs.Ytinnckbffblecaa
