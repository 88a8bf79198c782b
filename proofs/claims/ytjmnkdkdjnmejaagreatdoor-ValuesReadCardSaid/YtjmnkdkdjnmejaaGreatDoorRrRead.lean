/- Reading values: gateref1.ValueRead. Conditions: a text of at most 240000 bytes; the tables of strconv and unicode/utf8 lie as they should. -/
import Derived.Test.YtjmnkdkdjnmejaaGreatDoorRrVal
namespace Go.Proofs.YtjmnkdkdjnmejaaGreatDoor
open Go.RowKit
set_option linter.unusedVariables false
set_option linter.unusedSimpArgs false
theorem finS_fin {L : List UInt8} {v : VT} {i : Nat} : finS L (.fin v i) = if spanAt blankB L i < L.length then .bad (spanAt blankB L i) else .fin v (spanAt blankB L i) := rfl
set_option maxHeartbeats 1500000
set_option maxRecDepth 100000 in
theorem ref_valueRead (s : ByteArray) (w : World) (hs : s.size ≤ 240000) (hU : Utf8T w) (hP : Pow10 w) : Calls Tryz.prog 6 #[.string s] w (RRead s w) := by
  have HU := hId hU
  have HP0 := hId hP
  have hR := Blk.new w 30 #[.int .i64 0, .bool false, .int .i64 0, .string ⟨#[]⟩, .slice none 0 0, .slice none 0 0]
  have hm1 : New w (w.alloc (.cells #[.int .i64 0, .bool false, .int .i64 0, .string ⟨#[]⟩, .slice none 0 0, .slice none 0 0] 30)) := (Mod.refl _ _).alloc _
  clear hU hP
  go_enter Tryz.func6, Tryz.ntmps6
  go_upto_region 1 with (fail)
  generalize w.alloc (.cells #[.int .i64 0, .bool false, .int .i64 0, .string ⟨#[]⟩, .slice none 0 0, .slice none 0 0] 30) = w1 at *
  generalize hrb : w.heap.size = rb at *
  have HRB := hId hrb
  have HR := hId hR
  have HM1 := hId hm1
  clear hrb hR hm1
  by_cases hbig : 200000 < s.size
  · have hd : decide ((200000 : Int) < (s.size : Int)) = true := by simp; omega
    have r0 := HR.out.cell 0
    have r1 := HR.out.cell 1
    have r2 := HR.out.cell 2
    have r3 := HR.out.cell 3
    have r4 := HR.out.cell 4
    have r5 := HR.out.cell 5
    have rf := HR.out.frozen
    have rl := HR.out.lt
    simp only [lqt, lqz, lqs] at r0 r1 r2 r3 r4 r5
    go_wp2_with fail
    have HW9 : Hid (Mod (fun k => k = rb) w1 ((((((w1.setCell ⟨rb, 0, none⟩ (.int .i64 0)).setCell ⟨rb, 1, none⟩ (.bool false)).setCell ⟨rb, 2, none⟩ (.int .i64 0)).setCell ⟨rb, 3, none⟩ (.string ⟨#[]⟩)).setCell ⟨rb, 4, none⟩ (.slice none 0 0)).setCell ⟨rb, 5, none⟩ (.slice none 0 0))) := hId (((((((Mod.refl (fun k => k = rb) w1).setCell (p := ⟨rb, 0, none⟩) (.inl rfl) _).setCell (p := ⟨rb, 1, none⟩) (.inl rfl) _).setCell (p := ⟨rb, 2, none⟩) (.inl rfl) _).setCell (p := ⟨rb, 3, none⟩) (.inl rfl) _).setCell (p := ⟨rb, 4, none⟩) (.inl rfl) _).setCell (p := ⟨rb, 5, none⟩) (.inl rfl) _)
    have HR9 : Hid (Blk ((((((w1.setCell ⟨rb, 0, none⟩ (.int .i64 0)).setCell ⟨rb, 1, none⟩ (.bool false)).setCell ⟨rb, 2, none⟩ (.int .i64 0)).setCell ⟨rb, 3, none⟩ (.string ⟨#[]⟩)).setCell ⟨rb, 4, none⟩ (.slice none 0 0)).setCell ⟨rb, 5, none⟩ (.slice none 0 0)) rb 30 #[(.int .i64 0), (.bool false), (.int .i64 0), (.string ⟨#[]⟩), (.slice none 0 0), (.slice none 0 0)]) := hId ((((((HR.out.set 0 (.int .i64 0)).set 1 (.bool false)).set 2 (.int .i64 0)).set 3 (.string ⟨#[]⟩)).set 4 (.slice none 0 0)).set 5 (.slice none 0 0))
    clear r0 r1 r2 r3 r4 r5 rf rl
    generalize ((((((w1.setCell ⟨rb, 0, none⟩ (.int .i64 0)).setCell ⟨rb, 1, none⟩ (.bool false)).setCell ⟨rb, 2, none⟩ (.int .i64 0)).setCell ⟨rb, 3, none⟩ (.string ⟨#[]⟩)).setCell ⟨rb, 4, none⟩ (.slice none 0 0)).setCell ⟨rb, 5, none⟩ (.slice none 0 0)) = w9 at *
    have r0 := HR9.out.cell 0
    have r1 := HR9.out.cell 1
    have r2 := HR9.out.cell 2
    have r3 := HR9.out.cell 3
    have r4 := HR9.out.cell 4
    have r5 := HR9.out.cell 5
    have rf := HR9.out.frozen
    have rl := HR9.out.lt
    simp only [lqt, lqz, lqs] at r0 r1 r2 r3 r4 r5
    refine bodyPost_ret (v := .tuple #[VA.val zeroA, .int .i64 0, .int .i64 2]) (by simp [results, Tryz.results6, go_sem, r0, r1, r2, r3, r4, r5, rf, rl, VA.val, zeroA]) rfl ?_
    exact ⟨HM1.out.step HW9.out (fun k hk e => by have := HRB.out; omega), _, zeroV, _, _, rfl, by unfold RdRes; rw [if_pos hbig]; exact ⟨rfl, rfl, rfl⟩, leafTree _ _ (by omega) _ _ _ _, zero_fit _⟩
  · have hd : decide ((200000 : Int) < (s.size : Int)) = false := by simp; omega
    have hrd1 : Blk (w1.alloc (.cells #[.string s, .int .i64 0, .int .i64 (-1)] 53)) w1.heap.size 53 (RRc s 0 (-1)) := Blk.new w1 _ _
    have hm2 : New w1 (w1.alloc (.cells #[.string s, .int .i64 0, .int .i64 (-1)] 53)) := (Mod.refl _ _).alloc _
    go_upto_region 4 with (fail)
    generalize w1.alloc (.cells #[.string s, .int .i64 0, .int .i64 (-1)] 53) = w2 at *
    obtain ⟨b, hb⟩ : ∃ b, w1.heap.size = b := ⟨_, rfl⟩
    rw [hb] at hrd1
    simp only [hb]
    have HB := hId hb
    have HM2 := hId hm2
    have hpk : PowK b w2 := ⟨w, HP0.out, by rw [← hb]; exact HM1.out.size, HP0.out.new (HM1.out.trans hm2)⟩
    have hva := ref_value s hs b (s.size + 1) 0 w2 (by omega) (Nat.zero_le _) hrd1 hpk
    clear hrd1 hm2 hb hpk
    go_wp2_with fail
    refine hva.mono ?_
    clear hva
    rintro e w3 ⟨hm3, A, j, rfl, hj, hor⟩
    obtain ⟨xk, xf, xn, xw, xla, xln, xlc, xma, xmn, xmc⟩ := A
    have hrbb : rb < b := by have := HR.out.lt; have := HB.out; omega
    have HM3 : Hid (New w w3) := hId ((HM1.out.trans HM2.out).step hm3 (fun k hk e => by have h1 : k = b := e; have := HB.out; have := HM1.out.size; omega))
    have HR := hId ((HR.out.mod HM2.out (fun e => e)).mod hm3 (by omega))
    have hw2 : b ≤ w2.heap.size := by have := HB.out; have := HM2.out.size; omega
    have HOR : Hid ((∃ v, Blk w3 b 53 (RRc s j (-1)) ∧ Tree w3 (fun g => b ≤ g) j ⟨xk, xf, xn, xw, xla, xln, xlc, xma, xmn, xmc⟩ v ∧ Leads s.data.toList (.run true [] 0) (.fin v j)) ∨ (∃ p : Nat, Blk w3 b 53 (RRc s j (p : Int)) ∧ Leads s.data.toList (.run true [] 0) (.bad p))) := hId (by
      rcases hor with ⟨v, h1, h2, h3, h4⟩ | ⟨p, h2, h4⟩
      · exact .inl ⟨v, h2, Tree.imp (fun g hg _ => Nat.le_trans hw2 hg) _ _ _ h3, h4 []⟩
      · exact .inr ⟨p, h2, h4 []⟩)
    clear hm3 hor HM2
    simp only [VA.val]
    go_upto_region 5 with (fail)
    have hxb0 := Blk.new w3 30 #[.int .i64 xk, .bool xf, .int .i64 xn, .string xw, .slice xla xln xlc, .slice xma xmn xmc]
    have hn4 : New w3 (w3.alloc (.cells #[.int .i64 xk, .bool xf, .int .i64 xn, .string xw, .slice xla xln xlc, .slice xma xmn xmc] 30)) := (Mod.refl _ _).alloc _
    generalize w3.alloc (.cells #[.int .i64 xk, .bool xf, .int .i64 xn, .string xw, .slice xla xln xlc, .slice xma xmn xmc] 30) = w4 at *
    generalize hxbe : w3.heap.size = xb at *
    have HXB := hId hxb0
    have HM4 := hId (HM3.out.trans hn4)
    have HR := hId (HR.out.mod hn4 (fun e => e))
    have HOK0 : Hid (OkM s.data.toList.length (.run true [] 0)) := hId ⟨Nat.zero_le _, fun D => Nat.zero_le _, fun f hf => absurd hf (by simp), Nat.zero_le _⟩
    rcases HOR.out with ⟨v, hb4, ht4, hld⟩ | ⟨p, hb4, hld⟩
    · have HB4 := hId (hb4.mod hn4 (fun e => e))
      have HT4 := hId (ht4.new hn4)
      have HLD := hId hld
      have hok := hld.ok (show s.data.toList.length ≤ 240000 from hs) HOK0.out
      have HFT := hId (fun d => fin_fit hok (by omega) d)
      clear hb4 ht4 hld hok hxb0 hn4 hxbe HOR HM3
      have hnx := ref_next s j b (-1) w4 (by omega) hj HB4.out
      obtain ⟨K, hK⟩ : ∃ K, spanAt blankB s.data.toList j = K := ⟨_, rfl⟩
      have HK := hId hK
      have hKs : K ≤ s.size := by rw [← hK]; exact spanL_size _ _ hj
      have hKj : j ≤ K := by rw [← hK]; exact spanAt_ge _ _ _
      simp only [hK] at hnx
      clear hK
      obtain ⟨c, hc⟩ : ∃ c, topAt s.data.toList K = c := ⟨_, rfl⟩
      simp only [hc] at hnx
      have HC := hId hc
      clear hc
      have c1 := HB4.out.cell 1
      have c2 := HB4.out.cell 2
      have bl := HB4.out.lt
      simp only [RRc, at0, lqt, lqz, lqs] at c1 c2
      by_cases hlk : K < s.size
      · have HY : Hid (finS s.data.toList (.fin v j) = .bad K) := hId (by rw [finS_fin, HK.out, if_pos (show K < s.data.toList.length from hlk)])
        have hkk : decide ((K : Int) < (s.size : Int)) = true := by simp; omega
        have HRES : Hid (RdRes s zeroV K 9) := hId (by unfold RdRes; rw [if_neg hbig]; exact ⟨_, HLD.out, rfl, by rw [HY.out]; exact outS_bad K⟩)
        obtain ⟨q, hq⟩ : ∃ q, ((c.toNat : Int) != 0) = q := ⟨_, rfl⟩
        go_wp2_with fail
        refine hnx.mono ?_
        clear hnx c1 c2 bl
        rintro e w5 ⟨rfl, hb5, hm5⟩
        have HB5 := hId hb5
        have HR := hId (HR.out.mod hm5 (by omega))
        have HM5 : Hid (New w w5) := hId (HM4.out.step hm5 (fun k hk e => by have h1 : k = b := e; have := HB.out; have := HM1.out.size; omega))
        clear hb5 hm5
        have hwr := ref_wrong s K (-1) K b w5 HB5.out
        have c1 := HB5.out.cell 1
        have bl := HB5.out.lt
        simp only [RRc, at0, lqt, lqz, lqs] at c1
        cases q
        · go_wp2_with fail
          refine hwr.mono ?_
          clear hwr c1 bl
          rintro e w6 ⟨rfl, hb6, hm6⟩
          rw [if_pos (by decide)] at hb6
          have HB6 := hId hb6
          have HR := hId (HR.out.mod hm6 (by omega))
          have HM6 : Hid (New w w6) := hId (HM5.out.step hm6 (fun k hk e => by have h1 : k = b := e; have := HB.out; have := HM1.out.size; omega))
          clear hb6 hm6
          have hpz2 : (0 : Int) ≤ (K : Int) := by omega
          have c2 := HB6.out.cell 2
          have bl := HB6.out.lt
          simp only [RRc, at0, lqt, lqz, lqs] at c2
          go_upto_region 8 with (fail)
          have hne : b ≠ rb := by omega
          have HSX : Hid (∀ W, Mod (fun k => k = rb) w6 W → W.cell? ⟨b, 2, none⟩ = some (.int .i64 (K : Int)) ∧ b < W.heap.size) := hId (fun W hW => by
            have h1 := HB6.out.mod hW hne
            exact ⟨(h1.cell 2).trans rfl, h1.lt⟩)
          clear c2 bl
          refine wp_region_held_drew (S := Mod (fun k => k = rb) w6) (by kernel_rfl) (by with_reducible (repeat (first | exact Mod.refl _ _ | refine Mod.drewN ?_ _ | refine Mod.drew ?_ | refine Mod.alloc ?_ _))) (fun hHeld => ?_)
          simp only [List.size_toArray, List.length_cons, List.length_nil, Nat.reduceAdd]
          refine wpAnyH_take (i := 0) (v := ?_) rfl (by kernel_rfl) (by kernel_rfl) (by kernel_rfl) (fun _ _ _ h => h) (Or.inl ⟨by rfl, fun W hSw => ?_⟩) (by assumption) ?_
          rotate_left
          · (have hq := HSX.out W hSw); (try simp only [lgt, lgz, lgs]); go_simp; any_goals (with_reducible rfl)
          simp only [Act.put, lgt, lgz, lgs, lst, lsz, lss]
          refine wpAnyH_take (i := 1) (v := ?_) rfl (by kernel_rfl) (by kernel_rfl) (by kernel_rfl) (fun _ _ _ h => h) (Or.inl ⟨by rfl, fun W hSw => ?_⟩) (by assumption) ?_
          rotate_left
          · (have hq := HSX.out W hSw); (try simp only [lgt, lgz, lgs]); go_simp; any_goals (with_reducible rfl)
          simp only [Act.put, lgt, lgz, lgs, lst, lsz, lss]
          refine wpAnyH_take (i := 2) (v := ?_) rfl (by kernel_rfl) (by kernel_rfl) (by kernel_rfl) (fun _ _ _ h => h) (Or.inl ⟨by rfl, fun W hSw => ?_⟩) (by assumption) ?_
          rotate_left
          · (have hq := HSX.out W hSw); (try simp only [lgt, lgz, lgs]); go_simp; any_goals (with_reducible rfl)
          simp only [Act.put, lgt, lgz, lgs, lst, lsz, lss]
          refine wpAnyH_take (i := 3) (v := ?_) rfl (by kernel_rfl) (by kernel_rfl) (by kernel_rfl) (fun _ _ _ h => h) (Or.inl ⟨by rfl, fun W hSw => ?_⟩) (by assumption) ?_
          rotate_left
          · (have hq := HSX.out W hSw); (try simp only [lgt, lgz, lgs]); go_simp; any_goals (with_reducible rfl)
          simp only [Act.put, lgt, lgz, lgs, lst, lsz, lss]
          refine wpAnyH_take (i := 4) (v := ?_) rfl (by kernel_rfl) (by kernel_rfl) (by kernel_rfl) (fun _ _ _ h => h) (Or.inl ⟨by rfl, fun W hSw => ?_⟩) (by assumption) ?_
          rotate_left
          · (have hq := HSX.out W hSw); (try simp only [lgt, lgz, lgs]); go_simp; any_goals (with_reducible rfl)
          simp only [Act.put, lgt, lgz, lgs, lst, lsz, lss]
          have r0 := HR.out.cell 0
          have r1 := HR.out.cell 1
          have r2 := HR.out.cell 2
          have r3 := HR.out.cell 3
          have r4 := HR.out.cell 4
          have r5 := HR.out.cell 5
          have rf := HR.out.frozen
          have rl := HR.out.lt
          simp only [lqt, lqz, lqs] at r0 r1 r2 r3 r4 r5
          refine wpAnyH_ready (rs := [5]) (by kernel_rfl) (by simp) ?_
          refine AllReadyH.cons rfl (fun Kz hK => ?_) AllReadyH.nil
          (try simp only [lgt, lgz, lgs])
          go_simp
          have HM8 : Hid (Mod (fun k => k = rb) w6 ((((((w6.setCell ⟨rb, 0, none⟩ (.int .i64 0)).setCell ⟨rb, 1, none⟩ (.bool false)).setCell ⟨rb, 2, none⟩ (.int .i64 0)).setCell ⟨rb, 3, none⟩ (.string ⟨#[]⟩)).setCell ⟨rb, 4, none⟩ (.slice none 0 0)).setCell ⟨rb, 5, none⟩ (.slice none 0 0)).drew) := hId (Mod.drew (((((((Mod.refl (fun k => k = rb) w6).setCell (p := ⟨rb, 0, none⟩) (.inl rfl) _).setCell (p := ⟨rb, 1, none⟩) (.inl rfl) _).setCell (p := ⟨rb, 2, none⟩) (.inl rfl) _).setCell (p := ⟨rb, 3, none⟩) (.inl rfl) _).setCell (p := ⟨rb, 4, none⟩) (.inl rfl) _).setCell (p := ⟨rb, 5, none⟩) (.inl rfl) _))
          have HR8 : Hid (Blk ((((((w6.setCell ⟨rb, 0, none⟩ (.int .i64 0)).setCell ⟨rb, 1, none⟩ (.bool false)).setCell ⟨rb, 2, none⟩ (.int .i64 0)).setCell ⟨rb, 3, none⟩ (.string ⟨#[]⟩)).setCell ⟨rb, 4, none⟩ (.slice none 0 0)).setCell ⟨rb, 5, none⟩ (.slice none 0 0)).drew rb 30 #[.int .i64 0, .bool false, .int .i64 0, .string ⟨#[]⟩, .slice none 0 0, .slice none 0 0]) := hId (((((((HR.out.set 0 (.int .i64 0)).set 1 (.bool false)).set 2 (.int .i64 0)).set 3 (.string ⟨#[]⟩)).set 4 (.slice none 0 0)).set 5 (.slice none 0 0)).mod ((Mod.refl (fun _ => False) _).drew) (fun e => e))
          clear r0 r1 r2 r3 r4 r5 rf rl
          generalize ((((((w6.setCell ⟨rb, 0, none⟩ (.int .i64 0)).setCell ⟨rb, 1, none⟩ (.bool false)).setCell ⟨rb, 2, none⟩ (.int .i64 0)).setCell ⟨rb, 3, none⟩ (.string ⟨#[]⟩)).setCell ⟨rb, 4, none⟩ (.slice none 0 0)).setCell ⟨rb, 5, none⟩ (.slice none 0 0)).drew = w8 at *
          refine hK.out _ _ HM8.out (fun hHeld => ?_)
          clear hK
          (try simp only [Act.put, lgt, lgz, lgs, lst, lsz, lss])
          refine wpAnyH_take (i := 6) (v := ?_) rfl (by kernel_rfl) (by kernel_rfl) (by kernel_rfl) (fun _ _ _ h => h) (Or.inl ⟨by rfl, fun W hSw => ?_⟩) (by assumption) ?_
          rotate_left
          · (have hq := HSX.out W hSw); (try simp only [lgt, lgz, lgs]); go_simp; any_goals (with_reducible rfl)
          simp only [Act.put, lgt, lgz, lgs, lst, lsz, lss]
          refine wpAnyH_take (i := 7) (v := ?_) rfl (by kernel_rfl) (by kernel_rfl) (by kernel_rfl) (fun _ _ _ h => h) (Or.inl ⟨by rfl, fun W hSw => ?_⟩) (by assumption) ?_
          rotate_left
          · (have hq := HSX.out W hSw); (try simp only [lgt, lgz, lgs]); go_simp; any_goals (with_reducible rfl)
          simp only [Act.put, lgt, lgz, lgs, lst, lsz, lss]
          refine wpAnyH_done (by kernel_rfl) ?_ _
          clear hHeld
          go_wp2_with fail
          have r0 := HR8.out.cell 0
          have r1 := HR8.out.cell 1
          have r2 := HR8.out.cell 2
          have r3 := HR8.out.cell 3
          have r4 := HR8.out.cell 4
          have r5 := HR8.out.cell 5
          have rf := HR8.out.frozen
          have rl := HR8.out.lt
          simp only [lqt, lqz, lqs] at r0 r1 r2 r3 r4 r5
          refine bodyPost_ret (v := .tuple #[VA.val zeroA, .int .i64 (K : Int), .int .i64 9]) (by simp [results, Tryz.results6, go_sem, r0, r1, r2, r3, r4, r5, rf, rl, VA.val, zeroA]) rfl ?_
          exact ⟨HM6.out.step HM8.out (fun k hk e => by have := HRB.out; omega), _, zeroV, _, _, rfl, HRES.out, leafTree _ _ (by omega) _ _ _ _, zero_fit _⟩
        · go_wp2_with fail
          refine hwr.mono ?_
          clear hwr c1 bl
          rintro e w6 ⟨rfl, hb6, hm6⟩
          rw [if_pos (by decide)] at hb6
          have HB6 := hId hb6
          have HR := hId (HR.out.mod hm6 (by omega))
          have HM6 : Hid (New w w6) := hId (HM5.out.step hm6 (fun k hk e => by have h1 : k = b := e; have := HB.out; have := HM1.out.size; omega))
          clear hb6 hm6
          have hpz2 : (0 : Int) ≤ (K : Int) := by omega
          have c2 := HB6.out.cell 2
          have bl := HB6.out.lt
          simp only [RRc, at0, lqt, lqz, lqs] at c2
          go_upto_region 8 with (fail)
          have hne : b ≠ rb := by omega
          have HSX : Hid (∀ W, Mod (fun k => k = rb) w6 W → W.cell? ⟨b, 2, none⟩ = some (.int .i64 (K : Int)) ∧ b < W.heap.size) := hId (fun W hW => by
            have h1 := HB6.out.mod hW hne
            exact ⟨(h1.cell 2).trans rfl, h1.lt⟩)
          clear c2 bl
          refine wp_region_held_drew (S := Mod (fun k => k = rb) w6) (by kernel_rfl) (by with_reducible (repeat (first | exact Mod.refl _ _ | refine Mod.drewN ?_ _ | refine Mod.drew ?_ | refine Mod.alloc ?_ _))) (fun hHeld => ?_)
          simp only [List.size_toArray, List.length_cons, List.length_nil, Nat.reduceAdd]
          refine wpAnyH_take (i := 0) (v := ?_) rfl (by kernel_rfl) (by kernel_rfl) (by kernel_rfl) (fun _ _ _ h => h) (Or.inl ⟨by rfl, fun W hSw => ?_⟩) (by assumption) ?_
          rotate_left
          · (have hq := HSX.out W hSw); (try simp only [lgt, lgz, lgs]); go_simp; any_goals (with_reducible rfl)
          simp only [Act.put, lgt, lgz, lgs, lst, lsz, lss]
          refine wpAnyH_take (i := 1) (v := ?_) rfl (by kernel_rfl) (by kernel_rfl) (by kernel_rfl) (fun _ _ _ h => h) (Or.inl ⟨by rfl, fun W hSw => ?_⟩) (by assumption) ?_
          rotate_left
          · (have hq := HSX.out W hSw); (try simp only [lgt, lgz, lgs]); go_simp; any_goals (with_reducible rfl)
          simp only [Act.put, lgt, lgz, lgs, lst, lsz, lss]
          refine wpAnyH_take (i := 2) (v := ?_) rfl (by kernel_rfl) (by kernel_rfl) (by kernel_rfl) (fun _ _ _ h => h) (Or.inl ⟨by rfl, fun W hSw => ?_⟩) (by assumption) ?_
          rotate_left
          · (have hq := HSX.out W hSw); (try simp only [lgt, lgz, lgs]); go_simp; any_goals (with_reducible rfl)
          simp only [Act.put, lgt, lgz, lgs, lst, lsz, lss]
          refine wpAnyH_take (i := 3) (v := ?_) rfl (by kernel_rfl) (by kernel_rfl) (by kernel_rfl) (fun _ _ _ h => h) (Or.inl ⟨by rfl, fun W hSw => ?_⟩) (by assumption) ?_
          rotate_left
          · (have hq := HSX.out W hSw); (try simp only [lgt, lgz, lgs]); go_simp; any_goals (with_reducible rfl)
          simp only [Act.put, lgt, lgz, lgs, lst, lsz, lss]
          refine wpAnyH_take (i := 4) (v := ?_) rfl (by kernel_rfl) (by kernel_rfl) (by kernel_rfl) (fun _ _ _ h => h) (Or.inl ⟨by rfl, fun W hSw => ?_⟩) (by assumption) ?_
          rotate_left
          · (have hq := HSX.out W hSw); (try simp only [lgt, lgz, lgs]); go_simp; any_goals (with_reducible rfl)
          simp only [Act.put, lgt, lgz, lgs, lst, lsz, lss]
          have r0 := HR.out.cell 0
          have r1 := HR.out.cell 1
          have r2 := HR.out.cell 2
          have r3 := HR.out.cell 3
          have r4 := HR.out.cell 4
          have r5 := HR.out.cell 5
          have rf := HR.out.frozen
          have rl := HR.out.lt
          simp only [lqt, lqz, lqs] at r0 r1 r2 r3 r4 r5
          refine wpAnyH_ready (rs := [5]) (by kernel_rfl) (by simp) ?_
          refine AllReadyH.cons rfl (fun Kz hK => ?_) AllReadyH.nil
          (try simp only [lgt, lgz, lgs])
          go_simp
          have HM8 : Hid (Mod (fun k => k = rb) w6 ((((((w6.setCell ⟨rb, 0, none⟩ (.int .i64 0)).setCell ⟨rb, 1, none⟩ (.bool false)).setCell ⟨rb, 2, none⟩ (.int .i64 0)).setCell ⟨rb, 3, none⟩ (.string ⟨#[]⟩)).setCell ⟨rb, 4, none⟩ (.slice none 0 0)).setCell ⟨rb, 5, none⟩ (.slice none 0 0)).drew) := hId (Mod.drew (((((((Mod.refl (fun k => k = rb) w6).setCell (p := ⟨rb, 0, none⟩) (.inl rfl) _).setCell (p := ⟨rb, 1, none⟩) (.inl rfl) _).setCell (p := ⟨rb, 2, none⟩) (.inl rfl) _).setCell (p := ⟨rb, 3, none⟩) (.inl rfl) _).setCell (p := ⟨rb, 4, none⟩) (.inl rfl) _).setCell (p := ⟨rb, 5, none⟩) (.inl rfl) _))
          have HR8 : Hid (Blk ((((((w6.setCell ⟨rb, 0, none⟩ (.int .i64 0)).setCell ⟨rb, 1, none⟩ (.bool false)).setCell ⟨rb, 2, none⟩ (.int .i64 0)).setCell ⟨rb, 3, none⟩ (.string ⟨#[]⟩)).setCell ⟨rb, 4, none⟩ (.slice none 0 0)).setCell ⟨rb, 5, none⟩ (.slice none 0 0)).drew rb 30 #[.int .i64 0, .bool false, .int .i64 0, .string ⟨#[]⟩, .slice none 0 0, .slice none 0 0]) := hId (((((((HR.out.set 0 (.int .i64 0)).set 1 (.bool false)).set 2 (.int .i64 0)).set 3 (.string ⟨#[]⟩)).set 4 (.slice none 0 0)).set 5 (.slice none 0 0)).mod ((Mod.refl (fun _ => False) _).drew) (fun e => e))
          clear r0 r1 r2 r3 r4 r5 rf rl
          generalize ((((((w6.setCell ⟨rb, 0, none⟩ (.int .i64 0)).setCell ⟨rb, 1, none⟩ (.bool false)).setCell ⟨rb, 2, none⟩ (.int .i64 0)).setCell ⟨rb, 3, none⟩ (.string ⟨#[]⟩)).setCell ⟨rb, 4, none⟩ (.slice none 0 0)).setCell ⟨rb, 5, none⟩ (.slice none 0 0)).drew = w8 at *
          refine hK.out _ _ HM8.out (fun hHeld => ?_)
          clear hK
          (try simp only [Act.put, lgt, lgz, lgs, lst, lsz, lss])
          refine wpAnyH_take (i := 6) (v := ?_) rfl (by kernel_rfl) (by kernel_rfl) (by kernel_rfl) (fun _ _ _ h => h) (Or.inl ⟨by rfl, fun W hSw => ?_⟩) (by assumption) ?_
          rotate_left
          · (have hq := HSX.out W hSw); (try simp only [lgt, lgz, lgs]); go_simp; any_goals (with_reducible rfl)
          simp only [Act.put, lgt, lgz, lgs, lst, lsz, lss]
          refine wpAnyH_take (i := 7) (v := ?_) rfl (by kernel_rfl) (by kernel_rfl) (by kernel_rfl) (fun _ _ _ h => h) (Or.inl ⟨by rfl, fun W hSw => ?_⟩) (by assumption) ?_
          rotate_left
          · (have hq := HSX.out W hSw); (try simp only [lgt, lgz, lgs]); go_simp; any_goals (with_reducible rfl)
          simp only [Act.put, lgt, lgz, lgs, lst, lsz, lss]
          refine wpAnyH_done (by kernel_rfl) ?_ _
          clear hHeld
          go_wp2_with fail
          have r0 := HR8.out.cell 0
          have r1 := HR8.out.cell 1
          have r2 := HR8.out.cell 2
          have r3 := HR8.out.cell 3
          have r4 := HR8.out.cell 4
          have r5 := HR8.out.cell 5
          have rf := HR8.out.frozen
          have rl := HR8.out.lt
          simp only [lqt, lqz, lqs] at r0 r1 r2 r3 r4 r5
          refine bodyPost_ret (v := .tuple #[VA.val zeroA, .int .i64 (K : Int), .int .i64 9]) (by simp [results, Tryz.results6, go_sem, r0, r1, r2, r3, r4, r5, rf, rl, VA.val, zeroA]) rfl ?_
          exact ⟨HM6.out.step HM8.out (fun k hk e => by have := HRB.out; omega), _, zeroV, _, _, rfl, HRES.out, leafTree _ _ (by omega) _ _ _ _, zero_fit _⟩
      · have hks : K = s.size := by omega
        have hc0 : c = 0 := by rw [← HC.out]; exact topAt_end (by rw [hks]; exact Nat.le_refl _)
        have HY : Hid (finS s.data.toList (.fin v j) = .fin v K) := hId (by rw [finS_fin, HK.out, if_neg (show ¬ K < s.data.toList.length from hlk)])
        have hkk : decide ((K : Int) < (s.size : Int)) = false := by simp; omega
        have hq : ((c.toNat : Int) != 0) = false := by rw [hc0]; rfl
        clear hks hc0
        have HOUT : Hid (∀ v2 p f, outS (.fin v K) v2 p f → RdRes s v2 p f) := hId (fun v2 p f h => by
          unfold RdRes
          rw [if_neg hbig]
          exact ⟨_, HLD.out, rfl, by rw [HY.out]; exact h⟩)
        go_wp2_with fail
        refine hnx.mono ?_
        clear hnx c1 c2 bl
        rintro e w5 ⟨rfl, hb5, hm5⟩
        have HB5 := hId hb5
        have HR := hId (HR.out.mod hm5 (by omega))
        have HM5 : Hid (New w w5) := hId (HM4.out.step hm5 (fun k hk e => by have h1 : k = b := e; have := HB.out; have := HM1.out.size; omega))
        have HXB5 := hId (HXB.out.mod hm5 (fun e => by have h1 := HXB.out.ne HB4.out (by decide); exact h1 e))
        have HT5 := hId (Tree.upto hKj (Tree.mod hm5 (fun g _ ht e => by
          subst e
          rcases ht with ht | ht
          · exact ht.ne HB4.out.tb (by decide) rfl
          · exact ht.ne HB4.out.tb (by decide) rfl) _ _ _ HT4.out))
        clear hb5 hm5
        have hvf := valueFault_v K ⟨xk, xf, xn, xw, xla, xln, xlc, xma, xmn, xmc⟩ v (fun g => b ≤ g) w5 HT5.out (HFT.out K) (by omega) (HU.out.new HM5.out)
        simp only [VA.val] at hvf
        have c1 := HB5.out.cell 1
        have c2 := HB5.out.cell 2
        have bl := HB5.out.lt
        simp only [RRc, at0, lqt, lqz, lqs] at c1 c2
        have x0 := HXB5.out.cell 0
        have x1 := HXB5.out.cell 1
        have x2 := HXB5.out.cell 2
        have x3 := HXB5.out.cell 3
        have x4 := HXB5.out.cell 4
        have x5 := HXB5.out.cell 5
        have xl := HXB5.out.lt
        simp only [lqt, lqz, lqs] at x0 x1 x2 x3 x4 x5
        go_wp2_with fail
        refine hvf.mono ?_
        clear hvf c1 c2 bl x0 x1 x2 x3 x4 x5 xl
        rintro e w6 ⟨rfl, hm6⟩
        have HR := hId (HR.out.mod hm6 (fun e => e))
        have HM6 : Hid (New w w6) := hId (HM5.out.trans hm6)
        have HXB6 := hId (HXB5.out.mod hm6 (fun e => e))
        have HT6 := hId (HT5.out.new hm6)
        clear hm6
        have x0 := HXB6.out.cell 0
        have x1 := HXB6.out.cell 1
        have x2 := HXB6.out.cell 2
        have x3 := HXB6.out.cell 3
        have x4 := HXB6.out.cell 4
        have x5 := HXB6.out.cell 5
        have xl := HXB6.out.lt
        simp only [lqt, lqz, lqs] at x0 x1 x2 x3 x4 x5
        have r0 := HR.out.cell 0
        have r1 := HR.out.cell 1
        have r2 := HR.out.cell 2
        have r3 := HR.out.cell 3
        have r4 := HR.out.cell 4
        have r5 := HR.out.cell 5
        have rf := HR.out.frozen
        have rl := HR.out.lt
        simp only [lqt, lqz, lqs] at r0 r1 r2 r3 r4 r5
        by_cases hvc : vCheck K v = 0
        · have hvb : ((vCheck K v) != 0) = false := by simp [hvc]
          have HV : Hid (outS (.fin v K) v 0 0) := hId (outS_ok hvc)
          clear hvc
          generalize vCheck K v = ck at *
          go_wp2_with fail
          clear x0 x1 x2 x3 x4 x5 xl
          have HW9 : Hid (Mod (fun k => k = rb) w6 ((((((w6.setCell ⟨rb, 0, none⟩ (.int .i64 xk)).setCell ⟨rb, 1, none⟩ (.bool xf)).setCell ⟨rb, 2, none⟩ (.int .i64 xn)).setCell ⟨rb, 3, none⟩ (.string xw)).setCell ⟨rb, 4, none⟩ (.slice xla xln xlc)).setCell ⟨rb, 5, none⟩ (.slice xma xmn xmc))) := hId (((((((Mod.refl (fun k => k = rb) w6).setCell (p := ⟨rb, 0, none⟩) (.inl rfl) _).setCell (p := ⟨rb, 1, none⟩) (.inl rfl) _).setCell (p := ⟨rb, 2, none⟩) (.inl rfl) _).setCell (p := ⟨rb, 3, none⟩) (.inl rfl) _).setCell (p := ⟨rb, 4, none⟩) (.inl rfl) _).setCell (p := ⟨rb, 5, none⟩) (.inl rfl) _)
          have HR9 : Hid (Blk ((((((w6.setCell ⟨rb, 0, none⟩ (.int .i64 xk)).setCell ⟨rb, 1, none⟩ (.bool xf)).setCell ⟨rb, 2, none⟩ (.int .i64 xn)).setCell ⟨rb, 3, none⟩ (.string xw)).setCell ⟨rb, 4, none⟩ (.slice xla xln xlc)).setCell ⟨rb, 5, none⟩ (.slice xma xmn xmc)) rb 30 #[(.int .i64 xk), (.bool xf), (.int .i64 xn), (.string xw), (.slice xla xln xlc), (.slice xma xmn xmc)]) := hId ((((((HR.out.set 0 (.int .i64 xk)).set 1 (.bool xf)).set 2 (.int .i64 xn)).set 3 (.string xw)).set 4 (.slice xla xln xlc)).set 5 (.slice xma xmn xmc))
          clear r0 r1 r2 r3 r4 r5 rf rl
          generalize ((((((w6.setCell ⟨rb, 0, none⟩ (.int .i64 xk)).setCell ⟨rb, 1, none⟩ (.bool xf)).setCell ⟨rb, 2, none⟩ (.int .i64 xn)).setCell ⟨rb, 3, none⟩ (.string xw)).setCell ⟨rb, 4, none⟩ (.slice xla xln xlc)).setCell ⟨rb, 5, none⟩ (.slice xma xmn xmc)) = w9 at *
          have r0 := HR9.out.cell 0
          have r1 := HR9.out.cell 1
          have r2 := HR9.out.cell 2
          have r3 := HR9.out.cell 3
          have r4 := HR9.out.cell 4
          have r5 := HR9.out.cell 5
          have rf := HR9.out.frozen
          have rl := HR9.out.lt
          simp only [lqt, lqz, lqs] at r0 r1 r2 r3 r4 r5
          refine bodyPost_ret (v := .tuple #[VA.val (⟨xk, xf, xn, xw, xla, xln, xlc, xma, xmn, xmc⟩ : VA), .int .i64 0, .int .i64 0]) (by simp [results, Tryz.results6, go_sem, r0, r1, r2, r3, r4, r5, rf, rl, VA.val, zeroA]) rfl ?_
          exact ⟨HM6.out.step HW9.out (fun k hk e => by have := HRB.out; omega), _, _, _, _, rfl, HOUT.out _ _ _ HV.out, Tree.imp (fun _ _ _ => trivial) _ _ _ (Tree.upto (show K ≤ 240001 by omega) (Tree.mod HW9.out (fun g hg _ e => by have h1 : b ≤ g := hg; omega) _ _ _ HT6.out)), HFT.out _⟩
        · have hvb : ((vCheck K v) != 0) = true := by simp [hvc]
          have HV : Hid (outS (.fin v K) zeroV 0 (vCheck K v)) := hId (outS_no hvc)
          clear hvc
          generalize vCheck K v = ck at *
          go_wp2_with fail
          clear x0 x1 x2 x3 x4 x5 xl
          have HW9 : Hid (Mod (fun k => k = rb) w6 ((((((w6.setCell ⟨rb, 0, none⟩ (.int .i64 0)).setCell ⟨rb, 1, none⟩ (.bool false)).setCell ⟨rb, 2, none⟩ (.int .i64 0)).setCell ⟨rb, 3, none⟩ (.string ⟨#[]⟩)).setCell ⟨rb, 4, none⟩ (.slice none 0 0)).setCell ⟨rb, 5, none⟩ (.slice none 0 0))) := hId (((((((Mod.refl (fun k => k = rb) w6).setCell (p := ⟨rb, 0, none⟩) (.inl rfl) _).setCell (p := ⟨rb, 1, none⟩) (.inl rfl) _).setCell (p := ⟨rb, 2, none⟩) (.inl rfl) _).setCell (p := ⟨rb, 3, none⟩) (.inl rfl) _).setCell (p := ⟨rb, 4, none⟩) (.inl rfl) _).setCell (p := ⟨rb, 5, none⟩) (.inl rfl) _)
          have HR9 : Hid (Blk ((((((w6.setCell ⟨rb, 0, none⟩ (.int .i64 0)).setCell ⟨rb, 1, none⟩ (.bool false)).setCell ⟨rb, 2, none⟩ (.int .i64 0)).setCell ⟨rb, 3, none⟩ (.string ⟨#[]⟩)).setCell ⟨rb, 4, none⟩ (.slice none 0 0)).setCell ⟨rb, 5, none⟩ (.slice none 0 0)) rb 30 #[(.int .i64 0), (.bool false), (.int .i64 0), (.string ⟨#[]⟩), (.slice none 0 0), (.slice none 0 0)]) := hId ((((((HR.out.set 0 (.int .i64 0)).set 1 (.bool false)).set 2 (.int .i64 0)).set 3 (.string ⟨#[]⟩)).set 4 (.slice none 0 0)).set 5 (.slice none 0 0))
          clear r0 r1 r2 r3 r4 r5 rf rl
          generalize ((((((w6.setCell ⟨rb, 0, none⟩ (.int .i64 0)).setCell ⟨rb, 1, none⟩ (.bool false)).setCell ⟨rb, 2, none⟩ (.int .i64 0)).setCell ⟨rb, 3, none⟩ (.string ⟨#[]⟩)).setCell ⟨rb, 4, none⟩ (.slice none 0 0)).setCell ⟨rb, 5, none⟩ (.slice none 0 0)) = w9 at *
          have r0 := HR9.out.cell 0
          have r1 := HR9.out.cell 1
          have r2 := HR9.out.cell 2
          have r3 := HR9.out.cell 3
          have r4 := HR9.out.cell 4
          have r5 := HR9.out.cell 5
          have rf := HR9.out.frozen
          have rl := HR9.out.lt
          simp only [lqt, lqz, lqs] at r0 r1 r2 r3 r4 r5
          refine bodyPost_ret (v := .tuple #[VA.val zeroA, .int .i64 0, .int .i64 ck]) (by simp [results, Tryz.results6, go_sem, r0, r1, r2, r3, r4, r5, rf, rl, VA.val, zeroA]) rfl ?_
          exact ⟨HM6.out.step HW9.out (fun k hk e => by have := HRB.out; omega), _, zeroV, _, _, rfl, HOUT.out _ _ _ HV.out, leafTree _ _ (by omega) _ _ _ _, zero_fit _⟩
    · have HB6 := hId (hb4.mod hn4 (fun e => e))
      have HRES : Hid (RdRes s zeroV p 9) := hId (by unfold RdRes; rw [if_neg hbig]; exact ⟨_, hld, rfl, outS_bad p⟩)
      have HM6 := HM4
      clear hb4 hld hxb0 hn4 hxbe HOR HM3
      have hpz : decide ((p : Int) < 0) = false := by simp
      have hpz2 : (0 : Int) ≤ (p : Int) := by omega
      have hpz3 : ¬ (p : Int) < 0 := by omega
      have c2 := HB6.out.cell 2
      have bl := HB6.out.lt
      simp only [RRc, at0, lqt, lqz, lqs] at c2
      go_upto_region 8 with (fail)
      have hne : b ≠ rb := by omega
      have HSX : Hid (∀ W, Mod (fun k => k = rb) w4 W → W.cell? ⟨b, 2, none⟩ = some (.int .i64 (p : Int)) ∧ b < W.heap.size) := hId (fun W hW => by
        have h1 := HB6.out.mod hW hne
        exact ⟨(h1.cell 2).trans rfl, h1.lt⟩)
      clear c2 bl
      refine wp_region_held_drew (S := Mod (fun k => k = rb) w4) (by kernel_rfl) (by with_reducible (repeat (first | exact Mod.refl _ _ | refine Mod.drewN ?_ _ | refine Mod.drew ?_ | refine Mod.alloc ?_ _))) (fun hHeld => ?_)
      simp only [List.size_toArray, List.length_cons, List.length_nil, Nat.reduceAdd]
      refine wpAnyH_take (i := 0) (v := ?_) rfl (by kernel_rfl) (by kernel_rfl) (by kernel_rfl) (fun _ _ _ h => h) (Or.inl ⟨by rfl, fun W hSw => ?_⟩) (by assumption) ?_
      rotate_left
      · (have hq := HSX.out W hSw); (try simp only [lgt, lgz, lgs]); go_simp; any_goals (with_reducible rfl)
      simp only [Act.put, lgt, lgz, lgs, lst, lsz, lss]
      refine wpAnyH_take (i := 1) (v := ?_) rfl (by kernel_rfl) (by kernel_rfl) (by kernel_rfl) (fun _ _ _ h => h) (Or.inl ⟨by rfl, fun W hSw => ?_⟩) (by assumption) ?_
      rotate_left
      · (have hq := HSX.out W hSw); (try simp only [lgt, lgz, lgs]); go_simp; any_goals (with_reducible rfl)
      simp only [Act.put, lgt, lgz, lgs, lst, lsz, lss]
      refine wpAnyH_take (i := 2) (v := ?_) rfl (by kernel_rfl) (by kernel_rfl) (by kernel_rfl) (fun _ _ _ h => h) (Or.inl ⟨by rfl, fun W hSw => ?_⟩) (by assumption) ?_
      rotate_left
      · (have hq := HSX.out W hSw); (try simp only [lgt, lgz, lgs]); go_simp; any_goals (with_reducible rfl)
      simp only [Act.put, lgt, lgz, lgs, lst, lsz, lss]
      refine wpAnyH_take (i := 3) (v := ?_) rfl (by kernel_rfl) (by kernel_rfl) (by kernel_rfl) (fun _ _ _ h => h) (Or.inl ⟨by rfl, fun W hSw => ?_⟩) (by assumption) ?_
      rotate_left
      · (have hq := HSX.out W hSw); (try simp only [lgt, lgz, lgs]); go_simp; any_goals (with_reducible rfl)
      simp only [Act.put, lgt, lgz, lgs, lst, lsz, lss]
      refine wpAnyH_take (i := 4) (v := ?_) rfl (by kernel_rfl) (by kernel_rfl) (by kernel_rfl) (fun _ _ _ h => h) (Or.inl ⟨by rfl, fun W hSw => ?_⟩) (by assumption) ?_
      rotate_left
      · (have hq := HSX.out W hSw); (try simp only [lgt, lgz, lgs]); go_simp; any_goals (with_reducible rfl)
      simp only [Act.put, lgt, lgz, lgs, lst, lsz, lss]
      have r0 := HR.out.cell 0
      have r1 := HR.out.cell 1
      have r2 := HR.out.cell 2
      have r3 := HR.out.cell 3
      have r4 := HR.out.cell 4
      have r5 := HR.out.cell 5
      have rf := HR.out.frozen
      have rl := HR.out.lt
      simp only [lqt, lqz, lqs] at r0 r1 r2 r3 r4 r5
      refine wpAnyH_ready (rs := [5]) (by kernel_rfl) (by simp) ?_
      refine AllReadyH.cons rfl (fun Kz hK => ?_) AllReadyH.nil
      (try simp only [lgt, lgz, lgs])
      go_simp
      have HM8 : Hid (Mod (fun k => k = rb) w4 ((((((w4.setCell ⟨rb, 0, none⟩ (.int .i64 0)).setCell ⟨rb, 1, none⟩ (.bool false)).setCell ⟨rb, 2, none⟩ (.int .i64 0)).setCell ⟨rb, 3, none⟩ (.string ⟨#[]⟩)).setCell ⟨rb, 4, none⟩ (.slice none 0 0)).setCell ⟨rb, 5, none⟩ (.slice none 0 0)).drew) := hId (Mod.drew (((((((Mod.refl (fun k => k = rb) w4).setCell (p := ⟨rb, 0, none⟩) (.inl rfl) _).setCell (p := ⟨rb, 1, none⟩) (.inl rfl) _).setCell (p := ⟨rb, 2, none⟩) (.inl rfl) _).setCell (p := ⟨rb, 3, none⟩) (.inl rfl) _).setCell (p := ⟨rb, 4, none⟩) (.inl rfl) _).setCell (p := ⟨rb, 5, none⟩) (.inl rfl) _))
      have HR8 : Hid (Blk ((((((w4.setCell ⟨rb, 0, none⟩ (.int .i64 0)).setCell ⟨rb, 1, none⟩ (.bool false)).setCell ⟨rb, 2, none⟩ (.int .i64 0)).setCell ⟨rb, 3, none⟩ (.string ⟨#[]⟩)).setCell ⟨rb, 4, none⟩ (.slice none 0 0)).setCell ⟨rb, 5, none⟩ (.slice none 0 0)).drew rb 30 #[.int .i64 0, .bool false, .int .i64 0, .string ⟨#[]⟩, .slice none 0 0, .slice none 0 0]) := hId (((((((HR.out.set 0 (.int .i64 0)).set 1 (.bool false)).set 2 (.int .i64 0)).set 3 (.string ⟨#[]⟩)).set 4 (.slice none 0 0)).set 5 (.slice none 0 0)).mod ((Mod.refl (fun _ => False) _).drew) (fun e => e))
      clear r0 r1 r2 r3 r4 r5 rf rl
      generalize ((((((w4.setCell ⟨rb, 0, none⟩ (.int .i64 0)).setCell ⟨rb, 1, none⟩ (.bool false)).setCell ⟨rb, 2, none⟩ (.int .i64 0)).setCell ⟨rb, 3, none⟩ (.string ⟨#[]⟩)).setCell ⟨rb, 4, none⟩ (.slice none 0 0)).setCell ⟨rb, 5, none⟩ (.slice none 0 0)).drew = w8 at *
      refine hK.out _ _ HM8.out (fun hHeld => ?_)
      clear hK
      (try simp only [Act.put, lgt, lgz, lgs, lst, lsz, lss])
      refine wpAnyH_take (i := 6) (v := ?_) rfl (by kernel_rfl) (by kernel_rfl) (by kernel_rfl) (fun _ _ _ h => h) (Or.inl ⟨by rfl, fun W hSw => ?_⟩) (by assumption) ?_
      rotate_left
      · (have hq := HSX.out W hSw); (try simp only [lgt, lgz, lgs]); go_simp; any_goals (with_reducible rfl)
      simp only [Act.put, lgt, lgz, lgs, lst, lsz, lss]
      refine wpAnyH_take (i := 7) (v := ?_) rfl (by kernel_rfl) (by kernel_rfl) (by kernel_rfl) (fun _ _ _ h => h) (Or.inl ⟨by rfl, fun W hSw => ?_⟩) (by assumption) ?_
      rotate_left
      · (have hq := HSX.out W hSw); (try simp only [lgt, lgz, lgs]); go_simp; any_goals (with_reducible rfl)
      simp only [Act.put, lgt, lgz, lgs, lst, lsz, lss]
      refine wpAnyH_done (by kernel_rfl) ?_ _
      clear hHeld
      go_wp2_with fail
      have r0 := HR8.out.cell 0
      have r1 := HR8.out.cell 1
      have r2 := HR8.out.cell 2
      have r3 := HR8.out.cell 3
      have r4 := HR8.out.cell 4
      have r5 := HR8.out.cell 5
      have rf := HR8.out.frozen
      have rl := HR8.out.lt
      simp only [lqt, lqz, lqs] at r0 r1 r2 r3 r4 r5
      refine bodyPost_ret (v := .tuple #[VA.val zeroA, .int .i64 (p : Int), .int .i64 9]) (by simp [results, Tryz.results6, go_sem, r0, r1, r2, r3, r4, r5, rf, rl, VA.val, zeroA]) rfl ?_
      exact ⟨HM6.out.step HM8.out (fun k hk e => by have := HRB.out; omega), _, zeroV, _, _, rfl, HRES.out, leafTree _ _ (by omega) _ _ _ _, zero_fit _⟩
end Go.Proofs.YtjmnkdkdjnmejaaGreatDoor
