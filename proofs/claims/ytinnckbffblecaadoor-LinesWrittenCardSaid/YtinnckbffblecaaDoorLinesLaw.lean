/- The law LinesWritten, walked. Conditions: the argument is a slice of ints that can be read; strconv's table lies as its initialiser lays it. -/
import Derived.Test.YtinnckbffblecaaDoorLines3
namespace Go.Proofs.YtinnckbffblecaaDoor
open Go.RowKit
set_option linter.unusedVariables false
set_option linter.unusedSimpArgs false

theorem equal_headers (zs : List HdD) (A1 A2 : Option Addr) (n c1 c2 : Nat) (w : World) (h1 : Sl w 41 2 HdD.enc A1 n zs) (h2 : Sl w 41 2 HdD.enc A2 n zs) (hn : n ≤ 1000000) :
    Calls Tryd.prog 12 #[.slice A1 n c1, .slice A2 n c2] w fun e w' => e = .returned (.bool true) ∧ ∃ q, w' = w.drewN q := by
  have hlen := h1.1
  have H1 := Lib.hid h1
  have H2 := Lib.hid h2
  clear h1 h2
  go_enter Tryd.func12, Tryd.ntmps12
  go_wp2_with fail
  go_loopw [5, 13] (fun _ i wr => ∃ k : Nat, k ≤ n ∧ i = .int .i64 k ∧ ∃ q, wr = w.drewN q) (fun _ i _ => n - (intOf i).toNat)
  case atStart => exact ⟨0, Nat.zero_le _, rfl, 0, rfl⟩
  case round =>
    obtain ⟨k, hk, rfl, q, rfl⟩ := hrel
    by_cases hlt : k < n
    · obtain ⟨g1, o1, hA1, t1, k1⟩ := H1.out.2 (by omega)
      obtain ⟨g2, o2, hA2, t2, k2⟩ := H2.out.2 (by omega)
      subst hA1 hA2
      have a0 := k1 k (by omega) 0 (by omega)
      have a1 := k1 k (by omega) 1 (by omega)
      have b0 := k2 k (by omega) 0 (by omega)
      have b1 := k2 k (by omega) 1 (by omega)
      simp only [HdD.enc, Nat.add_zero] at a0 a1 b0 b1
      have l1 := t1.lt
      have l2 := t2.lt
      have hb1 : (0 : Int) ≤ k := by omega
      have hb2 : (k : Int) < n := by omega
      clear k1 k2
      generalize zs[k] = z at *
      go_wp2_with fail
      go_quiet (fail)
      go_wp2_with fail
      exact ⟨⟨k + 1, by omega, by go_num, _, rfl⟩, by simp [intOf]; omega⟩
    · obtain rfl : k = n := by omega
      go_wp2_with fail
      go_ret
      exact ⟨rfl, _, rfl⟩

theorem Sl.stream {α : Type} {w w' : World} {t : TypeId} {sz : Nat} {enc : α → Nat → Value} {A : Option Addr} {n b k : Nat} {xs : List α} (h : Sl w t sz enc A n xs) (hs : SInv b w k) (ht : t ≠ 25) (hm : Only b w w') : Sl w' t sz enc A n xs :=
  h.mod hm (fun g hg e => by
    subst e
    obtain ⟨_, _, _, _, _, hb, _⟩ := hs
    exact hg.ne hb.tb ht rfl)

set_option maxRecDepth 100000 in
set_option maxHeartbeats 2000000 in
theorem lines_walk (A : Option Addr) (n c : Nat) (w : World) (h : InInts w A n) (ht : Pow10 w) :
    Calls Tryd.prog 3 #[.slice A n c] w fun e w' => e = .returned (.bool true) ∧ New w w' := by
  have hs := SInv.start (c := c) h
  have HT := Lib.hid ht
  clear ht
  go_enter Tryd.func3, Tryd.ntmps3
  go_wp2_with fail
  have T0 := SStep.refl hs
  refine (stream_limits _ _ _ hs (by omega)).mono ?_
  rintro e w1 ⟨Al, nl, cl, ls, rfl, hlr, hnl, hfi, h1⟩
  have T1 := T0.trans h1
  clear T0 h1
  generalize hW0 : w.alloc (.cells #[.slice A n c, .int .i64 0] 25) = W0 at *
  have hW0s : W0.heap.size = w.heap.size + 1 := by rw [← hW0]; simp
  have hnews : ∀ w' k, SStep w.heap.size W0 w' k → New w w' := fun w' k hh => by rw [← hW0] at hh; exact hh.news
  have HN := Lib.hid hnews
  have HW0s := Lib.hid hW0s
  clear hnews hW0 hW0s hs
  have HFI := Lib.hid hfi
  clear hfi
  go_wp2_with fail
  refine (some_any [⟨#[108, 97]⟩, ⟨#[108, 98]⟩, ⟨#[108, 99]⟩, ⟨#[122, 122]⟩, ⟨#[]⟩] w.heap.size _ w1.heap.size 5 _ (T1.alloc _).inv (by omega) (Blk.new _ _ _) rfl (by omega) (by omega)).mono ?_
  rintro e w2 ⟨by_, rfl, mb, h2⟩
  have hby : by_.size ≤ 2 := by simp at mb; rcases mb with rfl | rfl | rfl | rfl | rfl <;> decide
  have T2 := (T1.alloc _).trans h2
  have L2 := (hlr.new ((Mod.refl _ w1).alloc _)).stream (T1.alloc _).inv (by decide) h2.only
  clear h2 mb T1 hlr
  go_wp2_with fail
  refine (pick_any [-1, 0, 1, 999, 1000, 1001, -2, 345686400000, 345686400001] w.heap.size _ w2.heap.size 9 _ (T2.alloc _).inv (by omega) (Blk.new _ _ _) rfl (by omega) (by omega)).mono ?_
  rintro e w3 ⟨wait, rfl, mw, h3⟩
  have T3 := (T2.alloc _).trans h3
  have L3 := (L2.new ((Mod.refl _ w2).alloc _)).stream (T2.alloc _).inv (by decide) h3.only
  have hz3 : w.heap.size < w3.heap.size := by have := T3.only.size; rw [HW0s.out] at this; omega
  clear h3 mw T2 L2
  go_upto_if 24 with (first | (go_at_call 7; refine (flip_any _ _ _ _ (T3.alloc _).inv (by omega) (by omega) (by omega)).mono ?_; rintro e w4 ⟨m, rfl, h4⟩))
  have T4 := (T3.alloc _).trans h4
  have L4 := (L3.new ((Mod.refl _ w3).alloc _)).stream (T3.alloc _).inv (by decide) h4.only
  obtain ⟨o4, z4, n4⟩ := h4.only.pre
  have B4 : Blk w4 w3.heap.size 31 _ := n4 (by omega)
  clear n4 h4 o4 T3 L3
  go_cut [] (fun wx => ∃ v : VerdictD, v.by_.size ≤ 2 ∧ Blk wx w3.heap.size 31 #[.bool v.ok, .string v.by_, .int .i64 v.wait] ∧ SStep w.heap.size W0 wx 40 ∧ LimRows wx Al nl ls)
  case first =>
    cases m
    · go_wp2_with fail
      go_meet
      exact ⟨⟨false, by_, wait⟩, hby, B4, T4.more (by omega), L4⟩
    · go_wp2_with fail
      refine (some_any [⟨#[]⟩, ⟨#[]⟩, ⟨#[108, 97]⟩] w.heap.size _ w4.heap.size 3 _ (T4.alloc _).inv (by omega) (Blk.new _ _ _) rfl (by omega) (by omega)).mono ?_
      rintro e w5 ⟨by2, rfl, mb, h5⟩
      have hby2 : by2.size ≤ 2 := by simp at mb; rcases mb with rfl | rfl <;> decide
      have T5 := (T4.alloc _).trans h5
      have L5 := (L4.new ((Mod.refl _ w4).alloc _)).stream (T4.alloc _).inv (by decide) h5.only
      have B5 := B4.mod h5.only.pre.1 (by omega)
      clear h5 mb T4 L4 B4
      go_wp2_with fail
      refine (pick_any [0, 0, 1] w.heap.size _ w5.heap.size 3 _ (T5.alloc _).inv (by omega) (Blk.new _ _ _) rfl (by omega) (by omega)).mono ?_
      rintro e w6 ⟨wait2, rfl, mw, h6⟩
      have T6 := (T5.alloc _).trans h6
      have L6 := (L5.new ((Mod.refl _ w5).alloc _)).stream (T5.alloc _).inv (by decide) h6.only
      have B6 := B5.mod h6.only.pre.1 (by omega)
      clear h6 mw T5 L5 B5
      have c0 := B6.cell 0
      have c1 := B6.cell 1
      have c2 := B6.cell 2
      have f0 := B6.frozen 0
      have f1 := B6.frozen 1
      have f2 := B6.frozen 2
      have lt6 := B6.lt
      simp at c0 c1 c2
      have hb : ∀ g, TB w6 g 45 → g ≠ w3.heap.size := fun g hg => hg.ne B6.tb (by decide)
      have HB := Lib.hid hb
      clear hb
      go_wp2_with fail
      go_meet
      refine ⟨⟨true, by2, wait2⟩, hby2, by simpa using ((B6.set 0 (.bool true)).set 1 (.string by2)).set 2 (.int .i64 wait2), ?_, ?_⟩
      · refine SStep.set (SStep.set (SStep.set (T6.more (by omega)) ?_ _) ?_ _) ?_ _ <;> (rw [HW0s.out]; simp; omega)
      · exact L6.mod (((Only.cell1' w6 w3.heap.size 0 (.bool true)).trans (Only.cell1' _ w3.heap.size 1 (.string by2))).trans (Only.cell1' _ w3.heap.size 2 (.int .i64 wait2))) (fun g hg => HB.out g hg)
  case rest =>
    clear T4 L4 B4
    obtain ⟨v, hvs, BX, TX, LX⟩ := hcut
    have c0 := BX.cell 0
    have c1 := BX.cell 1
    have c2 := BX.cell 2
    simp at c0 c1 c2
    have htx := HT.out.new (HN.out _ _ TX)
    have hli := limit_Lines wc ls Al nl cl v LX hnl HFI.out hvs htx
    have hks : ∀ l ∈ ls, l.key.size ≤ maxLen := fun l hl => by have := (HFI.out l hl).1; unfold maxLen; omega
    have hlf := fun (w' : World) (hm : New wc w') => ref_limitsFault ls Al nl cl w' (LX.new hm) (by omega) hks
    have hlo := fun (w' : World) (hm : New wc w') (h0 : limsFault ls = 0) => ref_LinesOf w' ls Al nl cl v (LX.new hm) hnl HFI.out hvs (htx.new hm) h0
    have HBX := Lib.hid BX
    have HLX := Lib.hid LX
    clear BX LX hks htx
    unfold VerdictD.val at hli hlo
    go_upto_region 6 with (fail)
    go_wp2_with fail
    refine hli.mono ?_
    clear hli c0 c1 c2
    rintro e w7 ⟨hor, m7⟩
    have hlf := hlf w7 m7
    rcases hor with ⟨hne, rfl⟩ | ⟨h0, A1, n1, c1, rfl, hown⟩
    · by_cases hf : limsFault ls = 0
      · have hle : linesF ls v = linesE ls v := by unfold linesF; rw [if_neg (by simp [hf])]
        rw [hf] at hlf
        rw [hle] at hne ⊢
        have HNE := Lib.hid hne
        have HF0 := Lib.hid hf
        clear hne hf hle
        go_upto_region 10 with (first | (go_at_call 9; refine hlf.mono ?_; clear hlf; rintro e w8 ⟨rfl, m8⟩))
        have B8 := HBX.out.mod (m7.trans m8) (fun e => e)
        have c0 := B8.cell 0
        have c1 := B8.cell 1
        have c2 := B8.cell 2
        simp at c0 c1 c2
        have hlo := hlo w8 (m7.trans m8) HF0.out
        go_wp2_with fail
        refine hlo.mono ?_
        clear hlo
        rintro e w9 ⟨hor2, m9⟩
        rcases hor2 with ⟨hne2, rfl⟩ | ⟨h02, _⟩
        · generalize linesE ls v = E at *
          have heq := equal_headers [] none none 0 0 0 w9 Sl.nil Sl.nil (by omega)
          go_wp2_with (first | (go_at_call 12; refine heq.mono ?_; clear heq; rintro e w10 ⟨rfl, q10, rfl⟩) | (go_at_call 10; refine (limited_true _).mono ?_; rintro e w11 ⟨rfl, m11⟩))
          go_ret
          exact ⟨rfl, HN.out _ _ (TX.new ((((m7.trans m8).trans m9).drewN q10).trans m11))⟩
        · exact absurd h02 HNE.out
      · have hle : linesF ls v = limsFault ls := by unfold linesF; rw [if_pos hf]
        have hf' : (limsFault ls != 0) = true := by simpa using hf
        rw [hle]
        generalize limsFault ls = F at *
        clear hne hf hle
        go_wp2_with (first | (go_at_call 9; refine hlf.mono ?_; clear hlf; rintro e w8 ⟨rfl, m8⟩) | (go_at_call 10; refine (limited_true _).mono ?_; rintro e w11 ⟨rfl, m11⟩))
        go_ret
        exact ⟨rfl, HN.out _ _ (TX.new ((m7.trans m8).trans m11))⟩
    · have hf : limsFault ls = 0 := by
        unfold linesF at h0
        by_cases e : limsFault ls = 0
        · exact e
        · rw [if_pos e] at h0; exact absurd h0 e
      have hle : linesF ls v = linesE ls v := by unfold linesF; rw [if_neg (by simp [hf])]
      rw [hle] at h0
      rw [hf] at hlf
      have H0 := Lib.hid h0
      have HF0 := Lib.hid hf
      have HOW := Lib.hid hown
      clear h0 hf hle hown
      go_upto_region 10 with (first | (go_at_call 9; refine hlf.mono ?_; clear hlf; rintro e w8 ⟨rfl, m8⟩))
      have B8 := HBX.out.mod (m7.trans m8) (fun e => e)
      have c0 := B8.cell 0
      have c1' := B8.cell 1
      have c2 := B8.cell 2
      simp at c0 c1' c2
      have hlo := hlo w8 (m7.trans m8) HF0.out
      go_wp2_with fail
      refine hlo.mono ?_
      clear hlo
      rintro e w9 ⟨hor2, m9⟩
      rcases hor2 with ⟨hne2, _⟩ | ⟨h02, A2, n2, c2', rfl, hown2⟩
      · exact absurd H0.out hne2
      · have s1 := (HOW.out.new (m8.trans m9)).sl
        have s2 := hown2.sl
        have hn12 : n1 = n2 := s1.1.symm.trans s2.1
        subst hn12
        have hnb : n1 ≤ 1000000 := by
          have h1 := s1.1
          have h2 := HLX.out.1
          unfold linesL tailH at h1
          rw [List.length_append, List.length_map] at h1
          split at h1 <;> simp at h1 <;> omega
        have heq := equal_headers _ A1 A2 n1 c1 c2' w9 s1 s2 hnb
        clear s1 s2 hown2 HOW c0 c1' c2
        go_wp2_with (first | (go_at_call 12; refine heq.mono ?_; clear heq; rintro e w10 ⟨rfl, q10, rfl⟩) | (go_at_call 10; refine (limited_true _).mono ?_; rintro e w11 ⟨rfl, m11⟩))
        go_ret
        exact ⟨rfl, HN.out _ _ (TX.new ((((m7.trans m8).trans m9).drewN q10).trans m11))⟩

end Go.Proofs.YtinnckbffblecaaDoor
