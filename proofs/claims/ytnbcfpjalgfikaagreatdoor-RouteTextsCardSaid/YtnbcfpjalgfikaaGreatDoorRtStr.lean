/- Stream.RouteString: a string of modest size. Conditions: those of the stream; the library's variable on searching is an int. -/
import Derived.Test.YtnbcfpjalgfikaaGreatDoorRtMk4Grp
import Derived.Test.YtnbcfpjalgfikaaGreatDoorRtStr0
import Derived.Test.YtnbcfpjalgfikaaGreatDoorRtLines
import Derived.Test.YtnbcfpjalgfikaaGreatDoorChng
namespace Go.Proofs.YtnbcfpjalgfikaaGreatDoor
open Go.RowKit
set_option linter.unusedVariables false
set_option linter.unusedSimpArgs false

theorem strCs_swap (a b2 : ByteArray) (r : List ByteArray) : ((strCs (a :: b2 :: r)).setIfInBounds 0 (.string b2)).setIfInBounds 1 (.string a) = strCs (b2 :: a :: r) := by
  unfold strCs
  simp
set_option maxRecDepth 100000 in
set_option maxHeartbeats 1000000 in
theorem routeString_any (b k : Nat) (w : World) (hs : SInv b w k) (hk : k < 4611686018423000000) (hx : MaxB b w) :
    Calls Tryz.prog 8 #[.pointer (some ⟨b, 0, none⟩)] w (RStr fun m w' => m.size ≤ 9000 ∧ SStep b w w' (k + 250)) := by
  have hbl := hs.lt
  have hrr := rightRoutes_any b k 3 w hs (by omega) hx (by omega)
  have HX0 := Lib.hid hx
  clear hs hx
  go_enter Tryz.func8, Tryz.ntmps8
  go_wp2_with fail
  refine hrr.mono ?_
  clear hrr
  rintro e w1 ⟨A, m, c, xs, rs, rfl, ho, ha, hmi, hmm, T⟩
  have hrl : RtRows w1 A m rs := ⟨xs, ho.sl, ha⟩
  have hll := ref_routeLines rs A m c w1 hrl (by omega) (fun r hr => (hmi r hr).short)
  have htl := routesR_mini hmi
  have hrm := hrl.len
  have HTL : Hid ((⟨(routesR rs).toArray⟩ : ByteArray).size ≤ 3300) := Lib.hid (by
    have : (⟨(routesR rs).toArray⟩ : ByteArray).size = (routesR rs).length := by simp [ByteArray.size]
    omega)
  have HX1 := Lib.hid (HX0.out.stream T)
  clear htl hrl hrm ho ha hmi HX0
  generalize (⟨(routesR rs).toArray⟩ : ByteArray) = t at *
  go_wp2_with fail
  refine hll.mono ?_
  clear hll
  rintro e w3 ⟨rfl, m3⟩
  have T3 := T.new m3
  have HX3 := Lib.hid (HX1.out.mod m3 (fun e => e))
  have hts := HTL.out
  clear T m3 HTL HX1
  go_wp2_with fail
  refine (pick_any [0, 0, 1, 2] b _ w3.heap.size 4 _ (T3.alloc _).inv (by omega) (Blk.new _ _ _) rfl (by omega) (by omega)).mono ?_
  rintro e w4 ⟨n, rfl, mn, h4⟩
  have hn : 0 ≤ n ∧ n ≤ 2 := by simp at mn; omega
  obtain ⟨n, rfl⟩ := Int.eq_ofNat_of_zero_le hn.1
  have T4 := (T3.alloc (.cells #[.int .i64 0, .int .i64 0, .int .i64 1, .int .i64 2] 3)).trans h4
  have HX4 := Lib.hid ((HX3.out.mod ((Mod.refl (fun _ => False) _).alloc (.cells #[.int .i64 0, .int .i64 0, .int .i64 1, .int .i64 2] 3)) (fun e => e)).stream h4)
  clear T3 h4 mn HX3
  go_wp2_with fail
  go_loopw [3, 11] (fun s i wr => ∃ (j : Nat) (t : ByteArray), j ≤ n ∧ i = .int .i64 j ∧ s = .string t ∧ t.size ≤ 3300 + 16 * j ∧ Hid (SStep b w wr (k + 181 + 3 * j)) ∧ Hid (MaxB b wr)) (fun _ i _ => n - (intOf i).toNat)
  case atStart => exact ⟨0, t, Nat.zero_le _, rfl, rfl, by omega, Lib.hid (T4.more (by omega)), HX4⟩
  case round =>
    rename World => wr
    obtain ⟨j, t', hj, rfl, rfl, hsz, HST, HX⟩ := hrel
    by_cases hlt : j < n
    · have hch := changed_with b _ t' wr HST.out.inv (by omega) (by omega) ⟨#[32, 10, 47, 123, 125, 42, 97, 71]⟩ (by decide) (by decide)
      go_wp2_with fail
      refine hch.mono ?_
      clear hch
      rintro e w5 ⟨m, rfl, hm, h5⟩
      have hm' : m.size ≤ t'.size + 16 := by have e : (⟨#[32, 10, 47, 123, 125, 42, 97, 71]⟩ : ByteArray).size = 8 := rfl; omega
      have HS5 := Lib.hid ((HST.out.trans h5).more (show k + 181 + 3 * j + 3 ≤ k + 181 + 3 * (j + 1) by omega))
      have HX5 := Lib.hid (HX.out.stream h5)
      clear h5 hm
      go_wp2_with fail
      exact ⟨⟨j + 1, m, by omega, by go_num, rfl, by omega, HS5, HX5⟩, by simp [intOf]; omega⟩
    · obtain rfl : j = n := by omega
      have hfl := flip_any b _ 6 wr HST.out.inv (by omega) (by omega) (by omega)
      go_wp2_with fail
      refine hfl.mono ?_
      clear hfl
      rintro e w5 ⟨q, rfl, h5⟩
      have T5 := HST.out.trans h5
      have HX5 := Lib.hid (HX.out.stream h5)
      clear h5 HST HX
      cases q
      · go_wp2_with fail
        go_ret
        exact ⟨t', rfl, by omega, T5.more (by omega)⟩
      · have hsp := split_any t' 10 w5 (by omega) HX5.out.1
        have hpz := pieces_lens t' 10
        have hne : pieces t' ⟨#[10]⟩ ≠ [] := pieces_ne (Nat.le_refl _)
        generalize pieces t' ⟨#[10]⟩ = P at *
        have hjo : ∀ (Q : List ByteArray) (W : World) (cap : Nat), Q.length ≤ cap → Q.length = P.length → Lib.lens (Q.map (·.data.toList)) + Q.length ≤ t'.size + 1 → Blk W w5.heap.size 9 (strCs Q) → Calls Tryz.prog 26 #[.slice (some ⟨w5.heap.size, 0, none⟩) P.length cap, .string ⟨#[10]⟩] W fun e w' => (∃ z : ByteArray, e = .returned (.string z) ∧ z.size ≤ 9000) ∧ New W w' := fun Q W cap h1 h2 h3 h4 => by
          have hle : (Lib.join (Q.map (·.data.toList)) (⟨#[10]⟩ : ByteArray).data.toList).length ≤ 9000 := by
            have := join_len1 (Q.map (·.data.toList)) 10
            rw [List.length_map] at this
            exact Nat.le_trans this (by omega)
          rw [← h2]
          refine (Tryz.strings_Join w5.heap.size 0 cap Q ⟨#[10]⟩ W (fun i x hx => by
            have hi : i < Q.length := by
              rcases Nat.lt_or_ge i Q.length with h | h
              · exact h
              · rw [List.getElem?_eq_none h] at hx; cases hx
            rw [List.getElem?_eq_getElem hi] at hx
            injection hx with hx
            subst hx
            rw [Nat.zero_add, strs_at h4 i hi, List.getD_eq_getElem?_getD, List.getElem?_eq_getElem hi]
            rfl) h4.lt (by omega) h1 (by omega)).mono ?_
          rintro e w' ⟨rfl, hm⟩
          exact ⟨⟨_, rfl, by show (List.toArray _).size ≤ _; simpa using hle⟩, Mod.of_below hm⟩
        obtain ⟨N, hN⟩ : ∃ N, P.length = N := ⟨_, rfl⟩
        have hN9 : N ≤ 5000 := by rw [← hN]; omega
        rw [hN] at hsp hjo
        have HJO := Lib.hid hjo
        have HN := Lib.hid hN
        have HPZ := Lib.hid hpz
        clear hjo hN hpz
        go_wp2_with fail
        refine hsp.mono ?_
        clear hsp
        rintro e w6 ⟨rfl, hw6⟩
        have m6 : New w5 w6 := by rw [hw6]; exact (Mod.refl _ _).alloc _
        have T6 := T5.new m6
        have HB6 : Hid (Blk w6 w5.heap.size 9 (strCs P)) := Lib.hid (by rw [hw6]; exact Blk.new _ _ _)
        have hwz := T5.only.size
        have HPB : Hid (w.heap.size ≤ w5.heap.size) := Lib.hid hwz
        clear hw6 m6 T5 HX5 hwz
        by_cases h2 : 2 < N
        · obtain _ | ⟨a, _ | ⟨b2, P⟩⟩ := P
          · exact absurd rfl hne
          · have := HN.out; simp at this; omega
          have h2i : (2 : Int) < N := by omega
          have h1i : (1 : Int) < N := by omega
          have h0i : (0 : Int) < N := by omega
          have h1n : 1 < N := by omega
          have h0n : 0 < N := by omega
          generalize w5.heap.size = pb at *
          have HSC : Hid (∀ W, New w6 W → W.cell? ⟨pb, 0, none⟩ = some (.string a) ∧ W.cell? ⟨pb, 1, none⟩ = some (.string b2) ∧ pb < W.heap.size) := Lib.hid (fun W h => by
            have hb := HB6.out.mod h (fun e => e)
            exact ⟨(hb.cell 0).trans (by unfold strCs; rfl), (hb.cell 1).trans (by unfold strCs; rfl), hb.lt⟩)
          have HFZ : Hid (∀ i, w6.frozen? ⟨pb, i, none⟩ = false) := Lib.hid HB6.out.frozen
          clear hne
          go_upto_region 9 with fail
          refine wp_region_any (by kernel_rfl) ?_
          change wpAny _ _ _ _ _ _ _ (World.drew _)
          have m6 : New w6 w6.drew := (Mod.refl _ _).drew
          have HB7 := Lib.hid (HB6.out.mod m6 (fun e => e))
          have T7 := T6.new m6
          have hsw := ((HB7.out.set 0 (.string b2)).set 1 (.string a))
          rw [strCs_swap] at hsw
          have HB8 := Lib.hid hsw
          have T8 := (T7.set (p := ⟨pb, 0, none⟩) HPB.out (.string b2)).set (p := ⟨pb, 1, none⟩) HPB.out (.string a)
          have hjo := HJO.out (b2 :: a :: P) _ N (by have := HN.out; simp at this ⊢; omega) (by have := HN.out; simp at this ⊢; omega) (by
            have h1 := HPZ.out
            simp only [List.map_cons, lens_swap] at h1 ⊢
            simpa using h1) HB8.out
          have r0 := (HB7.out.cell 0).trans (by unfold strCs; rfl : (strCs (a :: b2 :: P))[0]? = some (.string a))
          have r1 := (HB7.out.cell 1).trans (by unfold strCs; rfl : (strCs (a :: b2 :: P))[1]? = some (.string b2))
          have rf := HB7.out.frozen
          have rl := HB7.out.lt
          clear hsw T6 HB6 HJO m6 T7 HSC HFZ
          generalize w6.drew = w7 at *
          refine wpAny_take (i := 0) (v := .slice (some ⟨pb, 0, none⟩) N N) rfl (by kernel_rfl) (by kernel_rfl) (by kernel_rfl) (fun _ _ _ h => h) (Or.inl ⟨rfl, fun w => by go_simp⟩) ?_
          refine wpAny_take (i := 1) (v := .slice (some ⟨pb, 0, none⟩) N N) rfl (by kernel_rfl) (by kernel_rfl) (by kernel_rfl) (fun _ _ _ h => h) (Or.inl ⟨rfl, fun w => by go_simp⟩) ?_
          refine wpAny_take (i := 2) (v := .slice (some ⟨pb, 0, none⟩) N N) rfl (by kernel_rfl) (by kernel_rfl) (by kernel_rfl) (fun _ _ _ h => h) (Or.inl ⟨rfl, fun w => by go_simp⟩) ?_
          refine wpAny_take (i := 3) (v := .pointer (some ⟨pb, 1, none⟩)) rfl (by kernel_rfl) (by kernel_rfl) (by kernel_rfl) (fun _ _ _ h => h) (Or.inl ⟨rfl, fun w => by go_simp⟩) ?_
          refine wpAny_take (i := 5) (v := .slice (some ⟨pb, 0, none⟩) N N) rfl (by kernel_rfl) (by kernel_rfl) (by kernel_rfl) (fun _ _ _ h => h) (Or.inl ⟨rfl, fun w => by go_simp⟩) ?_
          refine wpAny_take (i := 6) (v := .pointer (some ⟨pb, 0, none⟩)) rfl (by kernel_rfl) (by kernel_rfl) (by kernel_rfl) (fun _ _ _ h => h) (Or.inl ⟨rfl, fun w => by go_simp⟩) ?_
          refine wpAny_ready (rs := [4, 7]) (by kernel_rfl) (by simp) ?_
          refine AllReady.cons rfl (fun K hK => ?_) ?_
          · go_simp
            refine hK _ _ ?_
            clear hK K
            refine wpAny_ready (rs := [7]) (by kernel_rfl) (by simp) ?_
            refine AllReady.cons rfl (fun K hK => ?_) ?_
            · go_simp
              refine hK _ _ ?_
              clear hK K
              refine wpAny_take (i := 8) (v := .pointer (some ⟨pb, 0, none⟩)) rfl (by kernel_rfl) (by kernel_rfl) (by kernel_rfl) (fun _ _ _ h => h) (Or.inl ⟨rfl, fun w => by go_simp⟩) ?_
              refine wpAny_ready (rs := [9]) (by kernel_rfl) (by simp) ?_
              refine AllReady.cons rfl (fun K hK => ?_) ?_
              · go_simp
                refine hK _ _ ?_
                clear hK K
                refine wpAny_take (i := 10) (v := .pointer (some ⟨pb, 1, none⟩)) rfl (by kernel_rfl) (by kernel_rfl) (by kernel_rfl) (fun _ _ _ h => h) (Or.inl ⟨rfl, fun w => by go_simp⟩) ?_
                refine wpAny_ready (rs := [11]) (by kernel_rfl) (by simp) ?_
                refine AllReady.cons rfl (fun K hK => ?_) ?_
                · go_simp
                  refine hK _ _ ?_
                  clear hK K
                  refine wpAny_done (by kernel_rfl) ?_ _
                  clear r0 r1 rf rl
                  generalize (w7.setCell ⟨pb, 0, none⟩ (.string b2)).setCell ⟨pb, 1, none⟩ (.string a) = w8 at *
                  go_wp2_with fail
                  refine hjo.mono ?_
                  clear hjo
                  rintro e w9 ⟨⟨z, rfl, hz⟩, m7⟩
                  go_wp2_with fail
                  go_ret
                  exact ⟨z, rfl, hz, (T8.new m7).more (by omega)⟩
                · exact AllReady.nil
              · exact AllReady.nil
            · exact AllReady.nil
          · refine AllReady.cons rfl (fun K hK => ?_) ?_
            · go_simp
              refine hK _ _ ?_
              clear hK K
              refine wpAny_ready (rs := [4]) (by kernel_rfl) (by simp) ?_
              refine AllReady.cons rfl (fun K hK => ?_) ?_
              · go_simp
                refine hK _ _ ?_
                clear hK K
                refine wpAny_take (i := 8) (v := .pointer (some ⟨pb, 0, none⟩)) rfl (by kernel_rfl) (by kernel_rfl) (by kernel_rfl) (fun _ _ _ h => h) (Or.inl ⟨rfl, fun w => by go_simp⟩) ?_
                refine wpAny_ready (rs := [9]) (by kernel_rfl) (by simp) ?_
                refine AllReady.cons rfl (fun K hK => ?_) ?_
                · go_simp
                  refine hK _ _ ?_
                  clear hK K
                  refine wpAny_take (i := 10) (v := .pointer (some ⟨pb, 1, none⟩)) rfl (by kernel_rfl) (by kernel_rfl) (by kernel_rfl) (fun _ _ _ h => h) (Or.inl ⟨rfl, fun w => by go_simp⟩) ?_
                  refine wpAny_ready (rs := [11]) (by kernel_rfl) (by simp) ?_
                  refine AllReady.cons rfl (fun K hK => ?_) ?_
                  · go_simp
                    refine hK _ _ ?_
                    clear hK K
                    refine wpAny_done (by kernel_rfl) ?_ _
                    clear r0 r1 rf rl
                    generalize (w7.setCell ⟨pb, 0, none⟩ (.string b2)).setCell ⟨pb, 1, none⟩ (.string a) = w8 at *
                    go_wp2_with fail
                    refine hjo.mono ?_
                    clear hjo
                    rintro e w9 ⟨⟨z, rfl, hz⟩, m7⟩
                    go_wp2_with fail
                    go_ret
                    exact ⟨z, rfl, hz, (T8.new m7).more (by omega)⟩
                  · exact AllReady.nil
                · exact AllReady.nil
              · exact AllReady.nil
            · exact AllReady.nil
        · have h2i : ¬ (2 : Int) < N := by omega
          have hjo := HJO.out P w6 N (by have := HN.out; omega) (by have := HN.out; omega) HPZ.out HB6.out
          clear HJO
          go_wp2_with fail
          refine hjo.mono ?_
          clear hjo
          rintro e w7 ⟨⟨z, rfl, hz⟩, m7⟩
          go_wp2_with fail
          go_ret
          exact ⟨z, rfl, hz, (T6.new m7).more (by omega)⟩
end Go.Proofs.YtnbcfpjalgfikaaGreatDoor
