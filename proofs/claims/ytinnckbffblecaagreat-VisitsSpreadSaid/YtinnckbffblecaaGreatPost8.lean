/- The reference's SpreadFault, and slices.Equal of bools. Conditions: slices that can be read. -/
import Derived.Test.YtinnckbffblecaaGreatSpread8
namespace Go.Proofs.YtinnckbffblecaaGreat
open Go.RowKit Go.MapKept
set_option linter.unusedVariables false
set_option linter.unusedSimpArgs false

theorem spreadF_winF {l : Lim} : winF l = if limsFault [l] ≠ 0 then limsFault [l] else if l.kind ≠ 1 then 10 else 0 := by
  rw [← winF_or]
  simp only [orL, whenE]
  split
  · rename_i h; simp [h]
  · rename_i h; simp [h]


set_option maxRecDepth 100000 in
set_option maxHeartbeats 2000000 in
theorem ref_SpreadFault (w : World) (l : Lim) (batch D : Int) (vs : List VisD) (A : Option Addr) (n c : Nat) (h : SpreadArgs w l vs A n) :
    Calls Tryz.prog 15 #[l.val, .int .i64 batch, .int .i64 D, .slice A n c] w fun e w' => e = .returned (.int .i64 (spreadF l batch D vs)) ∧ New w w' := by
  obtain ⟨hv, hn, hsz, hks⟩ := h
  have hlen := hv.1
  have hA1 := (Mod.refl (fun _ => False) w).alloc (.cells #[.string l.key, .int .i64 l.kind, .int .i64 l.most, .int .i64 l.per, .int .i64 l.burst] 28)
  have hx1 := Blk.new w 28 #[.string l.key, .int .i64 l.kind, .int .i64 l.most, .int .i64 l.per, .int .i64 l.burst]
  have HV := Lib.hid hv
  have HX := Lib.hid hx1
  have HSZ := Lib.hid hsz
  have HLN := Lib.hid hlen
  have hmm := @run_makeMap Tryz.prog
  unfold Lim.val
  clear hv hx1 hsz hlen
  go_enter Tryz.func15, Tryz.ntmps15
  go_upto_region 1 with (fail)
  generalize hxb : w.heap.size = lb at *
  clear hxb
  generalize w.alloc (.cells #[.string l.key, .int .i64 l.kind, .int .i64 l.most, .int .i64 l.per, .int .i64 l.burst] 28) = w1 at *
  go_wp2_with fail
  have hmp0 : MapOf strKeys (w1.alloc (.map #[] 0)) w1.heap.size [] := MapOf.made (heap_alloc_new w1 _)
  have hn10 : New w1 (w1.alloc (.map #[] 0)) := (Mod.refl _ w1).alloc _
  generalize hgm : w1.heap.size = gm at *
  generalize w1.alloc (.map #[] 0) = w4 at *
  go_loopw [11, 16] (fun _ i wr => ∃ k : Nat, k ≤ n ∧ i = .int .i64 k ∧ Hid (MapOf strKeys wr gm (gatesM vs k)) ∧ New w1 wr) (fun _ i _ => n - (intOf i).toNat)
  case atStart => exact ⟨0, Nat.zero_le _, rfl, Lib.hid hmp0, hn10⟩
  case round =>
    rename World => wr
    obtain ⟨k, hk, rfl, HMP, hnw⟩ := hrel
    have hlen := HLN.out
    by_cases hlt : k < n
    · obtain ⟨g, o, hA, hg, hc⟩ := (HV.out.new (hA1.trans hnw)).2 (by omega)
      subst hA
      have hgl := hg.lt
      have hx : vs[k]? = some vs[k] := by simp
      have c0 := hc k (by omega) 0 (by omega)
      have c1 := hc k (by omega) 1 (by omega)
      have c2 := hc k (by omega) 2 (by omega)
      simp only [VisD.enc, Nat.add_zero] at c0 c1 c2
      have HG := Lib.hid (gatesM_succ hx)
      have hb1 : (0 : Int) ≤ k := by omega
      have hb2 : (k : Int) < n := by omega
      have hmpn := fun o : Obj => HMP.out.mod ((Mod.refl (fun _ => False) wr).alloc o) (fun e => e)
      generalize vs[k] = v at *
      clear hc hx
      go_wp2_with (at_mapUpdate; refine wpList_mapPut (K := strKeys) rfl _ _ _ _ rfl Tryz.underlying80 Tryz.underlying9 rfl (hmpn _) v.gate rfl _ rfl ?_; intro w5 hmap5 ho5 hz5; clear hmpn)
      refine ⟨⟨k + 1, by omega, by go_num, Lib.hid (by rw [HG.out]; exact hmap5), ?_⟩, by simp [intOf]; omega⟩
      exact (hnw.alloc _).step ho5 (fun i hi e => by omega)
    · obtain rfl : k = n := by omega
      have hnw2 : New w wr := hA1.trans hnw
      have hx5 := HX.out.mod hnw (fun e => e)
      have v0 := hx5.cell 0
      have v1 := hx5.cell 1
      have v2 := hx5.cell 2
      have v3 := hx5.cell 3
      have v4 := hx5.cell 4
      simp at v0 v1 v2 v3 v4
      have HX5 := Lib.hid hx5
      clear hx5
      have hsw : spreadF l batch D vs = if limsFault [l] ≠ 0 then limsFault [l] else if l.kind ≠ 1 then 10 else if !inR batch 1 1000000000 || !inR D 0 8640000000 then 1 else if visitsFault vs ≠ 0 then visitsFault vs else if 50 < (gatesM vs k).length then 12 else 0 := by
        unfold spreadF
        rw [spreadF_winF, hlen]
        by_cases h1 : limsFault [l] = 0
        · by_cases h2 : l.kind = 1 <;> simp [h1, h2]
        · simp [h1]
      have HSW := Lib.hid hsw
      clear hsw
      go_upto_region 8 with (go_at_call 23; refine (ref_limitsFault [l] _ 1 _ _ (LimRows.one _ l (by exact Blk.new _ _ _)) (by omega) (by simpa using hks)).mono ?_; rintro e w6 ⟨rfl, hm6⟩)
      have hn6 : New w w6 := (hnw2.alloc _).trans hm6
      have hx6 := (HX5.out.mod ((Mod.refl (fun _ => False) wr).alloc (.cells #[.string l.key, .int .i64 l.kind, .int .i64 l.most, .int .i64 l.per, .int .i64 l.burst] 28)) (fun e => e)).mod hm6 (fun e => e)
      have HMP6 : Hid (MapOf strKeys w6 gm (gatesM vs k)) := Lib.hid ((HMP.out.mod ((Mod.refl (fun _ => False) wr).alloc (.cells #[.string l.key, .int .i64 l.kind, .int .i64 l.most, .int .i64 l.per, .int .i64 l.burst] 28)) (fun e => e)).mod hm6 (fun e => e))
      have z1 := hx6.cell 1
      simp at z1
      clear v0 v1 v2 v3 v4 hm6 hnw2 hx6 HX5 HMP
      by_cases f1 : limsFault [l] = 0
      case neg =>
        have HF : Hid (spreadF l batch D vs = limsFault [l]) := Lib.hid (by rw [HSW.out, if_pos f1])
        have f1' : (limsFault [l] != 0) = true := by simpa using f1
        clear f1
        go_wp2_with fail
        go_ret
        exact ⟨by rw [HF.out]; rfl, hn6⟩
      case pos =>
      rw [f1]
      by_cases f2 : l.kind = 1
      case neg =>
        have HF : Hid (spreadF l batch D vs = 10) := Lib.hid (by rw [HSW.out, if_neg (by simp [f1]), if_pos f2])
        have f2' : (l.kind != 1) = true := by simpa using f2
        clear f1 f2
        go_wp2_with fail
        go_ret
        exact ⟨by rw [HF.out]; rfl, hn6⟩
      case pos =>
      have f2' : (l.kind != 1) = false := by simpa using f2
      have hib := ref1_in batch 1 1000000000
      have hid := ref1_in D 0 8640000000
      have e1 : (decide (1 ≤ batch) && decide (batch ≤ 1000000000)) = inR batch 1 1000000000 := rfl
      have e2 : (decide (0 ≤ D) && decide (D ≤ 8640000000)) = inR D 0 8640000000 := rfl
      rw [e1] at hib
      rw [e2] at hid
      clear e1 e2
      have hsw2 := HSW.out
      rw [if_neg (by simp [f1]), if_neg (by simp [f2])] at hsw2
      clear HSW f1 f2
      cases hb : inR batch 1 1000000000 with
      | false =>
        have HF : Hid (spreadF l batch D vs = 1) := Lib.hid (by rw [hsw2, hb]; rfl)
        rw [hb] at hib
        clear hsw2 hb
        go_wp2_with (first | (go_at_call 49; refine (hib _).mono ?_; clear hib; rintro e w7 ⟨rfl, rfl⟩))
        go_ret
        exact ⟨by rw [HF.out]; rfl, hn6⟩
      | true =>
      cases hd : inR D 0 8640000000 with
      | false =>
        have HF : Hid (spreadF l batch D vs = 1) := Lib.hid (by rw [hsw2, hb, hd]; rfl)
        rw [hb] at hib
        rw [hd] at hid
        clear hsw2 hb hd
        go_wp2_with (first | (go_at_call 49; with_reducible refine (hib _).mono ?_; clear hib; rintro e w7 ⟨rfl, rfl⟩) | (go_at_call 49; with_reducible refine (hid _).mono ?_; clear hid; rintro e w7 ⟨rfl, rfl⟩))
        go_ret
        exact ⟨by rw [HF.out]; rfl, hn6⟩
      | true =>
      rw [hb, hd] at hsw2
      have hsw3 : spreadF l batch D vs = if visitsFault vs ≠ 0 then visitsFault vs else if 50 < (gatesM vs k).length then 12 else 0 := hsw2
      rw [hb] at hib
      rw [hd] at hid
      have HSW := Lib.hid hsw3
      clear hsw2 hsw3 hb hd
      have hcv := ref_visitsFault vs A k c w6 (HV.out.new hn6) (by omega) HSZ.out
      go_upto_region 14 with (first | (go_at_call 49; with_reducible refine (hib _).mono ?_; clear hib; rintro e w7 ⟨rfl, rfl⟩) | (go_at_call 49; with_reducible refine (hid _).mono ?_; clear hid; rintro e w7 ⟨rfl, rfl⟩))
      by_cases f3 : visitsFault vs = 0
      case neg =>
        have HF : Hid (spreadF l batch D vs = visitsFault vs) := Lib.hid (by rw [HSW.out, if_pos f3])
        have f3' : (visitsFault vs != 0) = true := by simpa using f3
        clear f3 HSW
        go_wp2_with (first | (go_at_call 14; with_reducible refine hcv.mono ?_; clear hcv; rintro e w7 ⟨rfl, hm7⟩; have hcv2 := ref_visitsFault vs A k c w7 (HV.out.new (hn6.trans hm7)) (by omega) HSZ.out) | (go_at_call 14; refine hcv2.mono ?_; clear hcv2; rintro e w8 ⟨rfl, hm8⟩))
        go_ret
        exact ⟨by rw [HF.out]; rfl, (hn6.trans hm7).trans hm8⟩
      case pos =>
      have hsw4 := HSW.out
      rw [if_neg (by simp [f3])] at hsw4
      rw [f3] at hcv
      clear HSW
      have hlnm : ∀ (w' : World), New w6 w' → ∀ ty, (Builtin.len_ #[80] ty #[.map (some gm)]).run Tryz.prog w' = .ok (.int .i64 ((gatesM vs k).length : Int)) w' := fun w' hw' ty => run_len_map (K := strKeys) (P := Tryz.prog) 80 ty Tryz.underlying80 (HMP6.out.mod hw' (fun e => e))
      by_cases f4 : 50 < (gatesM vs k).length
      · have HF : Hid (spreadF l batch D vs = 12) := Lib.hid (by rw [hsw4, if_pos f4])
        have f4' : (50 : Int) < ((gatesM vs k).length : Int) := by omega
        clear hsw4 f3
        go_wp2_with (first | (go_at_call 14; refine hcv.mono ?_; clear hcv; rintro e w7 ⟨rfl, hm7⟩; have hlnm := hlnm w7 hm7))
        go_ret
        exact ⟨by rw [HF.out]; rfl, hn6.trans hm7⟩
      · have HF : Hid (spreadF l batch D vs = 0) := Lib.hid (by rw [hsw4, if_neg f4])
        have f4' : ¬ (50 : Int) < ((gatesM vs k).length : Int) := by omega
        clear hsw4 f3
        go_wp2_with (first | (go_at_call 14; refine hcv.mono ?_; clear hcv; rintro e w7 ⟨rfl, hm7⟩; have hlnm := hlnm w7 hm7))
        go_ret
        exact ⟨by rw [HF.out]; rfl, hn6.trans hm7⟩

end Go.Proofs.YtinnckbffblecaaGreat
