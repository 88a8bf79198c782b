/- The reference's meter: how long something waits at a limit that is no bucket. Conditions: limits were checked, what was let in was checked. -/
import Derived.Test.YtinnckbffblecaaGreatRefMeter4
import Derived.Test.YtinnckbffblecaaGreatLaw
namespace Go.Proofs.YtinnckbffblecaaGreat
open Go.RowKit
set_option linter.unusedVariables false
set_option linter.unusedSimpArgs false



set_option maxRecDepth 100000 in
set_option maxHeartbeats 4000000 in
theorem ref_waitFor2 (L : Lim) (hl : RLim' L) (p : List AskD) (A : Option Addr) (n c : Nat) (t cost : Int) (w : World) (h : AskRows w A n p) (hp : ∀ a ∈ p, RAskD a) (hc : PourC L p t) (hn : n ≤ 10000) (ht : 0 ≤ t ∧ t < 345686400000) (hco : 1 ≤ cost ∧ cost ≤ 1000000000)
    (hg : ¬ greatest L < cost) (h3 : L.kind ≠ 3) :
    Calls Tryz.prog 83 #[L.val, .slice A n c, .int .i64 t, .int .i64 cost] w fun e w' => e = .returned (.int .i64 (waitD L p t cost)) ∧ New w w' := by
  have hV : waitD L p t cost = firstM L p t cost (sortM (moments L p t)) := by unfold waitD waitR; rw [if_neg hg, if_neg h3]
  have hla := fun W (hW : New w W) (s : Int) (hs : t ≤ s) (hs2 : s ≤ 1000000000000) => ref_leftAt L hl p A n c s W (h.new hW) hp (hc.later hs) (by omega) ⟨by omega, hs2⟩
  have hmb := moments_bd hl hp (t := t) ⟨ht.1, by omega⟩
  have hlen := h.1
  have hkd := hl.kind
  have hper := hl.per
  unfold greatest at hg
  rw [if_neg h3] at hg
  have hmt := fun k (hk : k < p.length) => mpre_take L hk t
  have H := Lib.hid h
  have HP := Lib.hid hp
  have HLA := Lib.hid hla
  have HLEN := Lib.hid hlen
  have HMB := Lib.hid hmb
  have HMT := Lib.hid hmt
  rw [mpre_moments] at hV
  have HV := Lib.hid hV
  clear h hp hla hlen hmb hmt hV hc hl
  rw [show L.val = .agg #[.string L.key, .int .i64 L.kind, .int .i64 L.most, .int .i64 L.per, .int .i64 L.burst] from rfl] at *
  have HLV : Hid (L.val = .agg #[.string L.key, .int .i64 L.kind, .int .i64 L.most, .int .i64 L.per, .int .i64 L.burst]) := Lib.hid rfl
  have hk3 : (L.kind == 3) = false := by simpa using h3
  have hd : decide (L.most < cost) = false := by simpa using hg
  go_enter Tryz.func83, Tryz.ntmps83
  go_wp2_with fail
  have hA1 := (Mod.refl (fun _ => False) w).alloc (.cells #[.string L.key, .int .i64 L.kind, .int .i64 L.most, .int .i64 L.per, .int .i64 L.burst] 28)
  have bl := Blk.new w 28 #[.string L.key, .int .i64 L.kind, .int .i64 L.most, .int .i64 L.per, .int .i64 L.burst]
  have hz1 : (w.alloc (.cells #[.string L.key, .int .i64 L.kind, .int .i64 L.most, .int .i64 L.per, .int .i64 L.burst] 28)).heap.size = w.heap.size + 1 := by simp
  generalize w.alloc (.cells #[.string L.key, .int .i64 L.kind, .int .i64 L.most, .int .i64 L.per, .int .i64 L.burst] 28) = w1 at *
  have hown0 : IntOwn (w1.alloc (.cells #[.int .i64 t] 3)) (w.heap.size + 1) (some ⟨w.heap.size + 1, 0, none⟩) 1 1 [t] := Own.of_blk (Blk.new' _ _ hz1) (Nat.le_refl _) rfl (by omega)
  have HOWN0 := Lib.hid hown0
  have HA1 := Lib.hid hA1
  have HBL := Lib.hid bl
  have HZ1 := Lib.hid hz1
  have HN0 : Hid (New w1 (w1.alloc (.cells #[.int .i64 t] 3))) := Lib.hid (by with_reducible (repeat (first | exact Mod.refl _ _ | refine Mod.drewN ?_ _ | refine Mod.drew ?_ | refine Mod.alloc ?_ _)))
  clear hown0 hA1 bl hz1
  generalize w1.alloc (.cells #[.int .i64 t] 3) = wb at *
  go_loopw [11, 13, 51] (fun m _ i wr => ∃ (k g1 c1 : Nat) (zs : List Int), k ≤ n ∧ i = .int .i64 k ∧ m = .slice (some ⟨g1, 0, none⟩) zs.length c1 ∧ Hid (zs = mpre L (p.take k) t) ∧ Hid (IntOwn wr (w.heap.size + 1) (some ⟨g1, 0, none⟩) zs.length c1 zs) ∧ Hid (New w1 wr)) (fun _ _ i _ => n - (intOf i).toNat)
  case atStart => exact ⟨0, _, 1, [t], Nat.zero_le _, rfl, rfl, Lib.hid (by unfold mpre; simp), HOWN0, HN0⟩
  case round =>
    rename World => wr
    obtain ⟨k, g1, c1, zs, hk, rfl, rfl, HZS, HO, HM⟩ := hrel
    have bx := HBL.out.new'' HM.out
    have x1 := bx.cell 1
    have x3 := bx.cell 3
    have xl := bx.lt
    simp at x1 x3
    have hzl : zs.length ≤ 10001 := by
      have h1 := HZS.out
      have h2 := mpre_length L (p.take k) t
      rw [← h1, List.length_take] at h2
      have := HLEN.out
      omega
    clear bx
    by_cases hlt : k < n
    · obtain ⟨g, o, hA, hg', hcc⟩ := (H.out.new (HA1.out.trans HM.out)).2 (by omega)
      subst hA
      have hkl : k < p.length := by have := HLEN.out; omega
      have c0 := hcc k hkl 0 (by omega)
      have c1' := hcc k hkl 1 (by omega)
      have c2 := hcc k hkl 2 (by omega)
      have c3 := hcc k hkl 3 (by omega)
      simp only [AskD.enc, Nat.add_zero] at c0 c1' c2 c3
      have hgl := hg'.lt
      have HMK := Lib.hid (HMT.out k hkl)
      obtain ⟨⟨a1, a2⟩, ⟨a3, a4⟩, ⟨a5, a6⟩⟩ := HP.out p[k] (List.getElem_mem _)
      have hb1 : (0 : Int) ≤ k := by omega
      have hb2 : (k : Int) < n := by omega
      clear hcc
      generalize p[k] = y at *
      by_cases h2 : L.kind = 2
      · have hp' := hper (by omega)
        have hk2 : (L.kind == 2) = true := by simpa using h2
        have HNX : Hid (zs ++ [y.at_ + L.per] = mpre L (p.take (k + 1)) t) := Lib.hid (by rw [HMK.out, if_pos h2, HZS.out])
        have e8 : IntKind.i64.wrap (y.at_ + L.per) = y.at_ + L.per := IntWalk.i64_in _ (by omega)
        clear h2
        have ownA : IntOwn ((wr.alloc (.cells #[.int .i64 y.at_, .string y.who, .int .i64 y.cost, .int .i64 y.long] 70)).alloc (.cells #[.int .i64 (y.at_ + L.per)] 3)) (w.heap.size + 1) (some ⟨g1, 0, none⟩) zs.length c1 zs := (HO.out.alloc _).alloc _
        have blkA : Blk ((wr.alloc (.cells #[.int .i64 y.at_, .string y.who, .int .i64 y.cost, .int .i64 y.long] 70)).alloc (.cells #[.int .i64 (y.at_ + L.per)] 3)) (wr.heap.size + 1) 3 (encL 1 intEnc (y.at_ + L.per)).toArray := Blk.new' (w := wr.alloc (.cells #[.int .i64 y.at_, .string y.who, .int .i64 y.cost, .int .i64 y.long] 70)) _ _ (by simp)
        have hBB : w.heap.size + 1 ≤ ((wr.alloc (.cells #[.int .i64 y.at_, .string y.who, .int .i64 y.cost, .int .i64 y.long] 70)).alloc (.cells #[.int .i64 (y.at_ + L.per)] 3)).heap.size := by
          have h1 := HM.out.size
          have h2 := HZ1.out
          simp
          omega
        have HBB := Lib.hid hBB
        clear hBB
        go_wp2_with (at_builtin; refine wpList_push rfl _ _ _ rfl 8 Tryz.underlying22 einfo_int rfl ownA (y.at_ + L.per) (wr.heap.size + 1) rfl blkA (fun _ _ => rfl) (by omega) (by omega) HBB.out ?_; intro g2 cap w4 own4 hm4 hat4 hlt4)
        have hmw : New w1 w4 := Own.push_mod (a := w1) ownA ((HM.out.alloc _).alloc _) hm4 (by have := HZ1.out; omega)
        exact ⟨⟨k + 1, g2, cap, zs ++ [y.at_ + L.per], by omega, by go_num, by simp, HNX, Lib.hid (by simpa using own4), Lib.hid hmw⟩, by simp [intOf]; omega⟩
      · have hk2 : (L.kind == 2) = false := by simpa using h2
        by_cases h4 : L.kind = 4
        · have hk4 : (L.kind == 4) = true := by simpa using h4
          have HNX : Hid (zs ++ [y.at_ + y.long] = mpre L (p.take (k + 1)) t) := Lib.hid (by rw [HMK.out, if_neg h2, if_pos h4, HZS.out])
          clear h4
          have ownA : IntOwn ((wr.alloc (.cells #[.int .i64 y.at_, .string y.who, .int .i64 y.cost, .int .i64 y.long] 70)).alloc (.cells #[.int .i64 (y.at_ + y.long)] 3)) (w.heap.size + 1) (some ⟨g1, 0, none⟩) zs.length c1 zs := (HO.out.alloc _).alloc _
          have blkA : Blk ((wr.alloc (.cells #[.int .i64 y.at_, .string y.who, .int .i64 y.cost, .int .i64 y.long] 70)).alloc (.cells #[.int .i64 (y.at_ + y.long)] 3)) (wr.heap.size + 1) 3 (encL 1 intEnc (y.at_ + y.long)).toArray := Blk.new' (w := wr.alloc (.cells #[.int .i64 y.at_, .string y.who, .int .i64 y.cost, .int .i64 y.long] 70)) _ _ (by simp)
          have hBB : w.heap.size + 1 ≤ ((wr.alloc (.cells #[.int .i64 y.at_, .string y.who, .int .i64 y.cost, .int .i64 y.long] 70)).alloc (.cells #[.int .i64 (y.at_ + y.long)] 3)).heap.size := by
            have h1 := HM.out.size
            have h2 := HZ1.out
            simp
            omega
          have HBB := Lib.hid hBB
          clear hBB
          go_wp2_with (at_builtin; refine wpList_push rfl _ _ _ rfl 8 Tryz.underlying22 einfo_int rfl ownA (y.at_ + y.long) (wr.heap.size + 1) rfl blkA (fun _ _ => rfl) (by omega) (by omega) HBB.out ?_; intro g2 cap w4 own4 hm4 hat4 hlt4)
          have hmw : New w1 w4 := Own.push_mod (a := w1) ownA ((HM.out.alloc _).alloc _) hm4 (by have := HZ1.out; omega)
          exact ⟨⟨k + 1, g2, cap, zs ++ [y.at_ + y.long], by omega, by go_num, by simp, HNX, Lib.hid (by simpa using own4), Lib.hid hmw⟩, by simp [intOf]; omega⟩
        · have hk4 : (L.kind == 4) = false := by simpa using h4
          have HNX : Hid (zs = mpre L (p.take (k + 1)) t) := Lib.hid (by rw [HMK.out, if_neg h2, if_neg h4, List.append_nil, HZS.out])
          go_wp2_with fail
          exact ⟨⟨k + 1, g1, c1, zs, by omega, by go_num, rfl, HNX, Lib.hid (HO.out.alloc _), Lib.hid (HM.out.alloc _)⟩, by simp [intOf]; omega⟩
    · obtain rfl : k = n := by omega
      have hzp : zs = mpre L p t := by rw [HZS.out, List.take_of_length_le (by have := HLEN.out; omega)]
      by_cases h1 : L.kind = 1
      · have hk1 : (L.kind == 1) = true := by simpa using h1
        have hp' := hper (by omega)
        have hv := HV.out
        rw [if_pos h1, ← hzp] at hv
        have hmom : ∀ s ∈ zs ++ [(t / L.per + 1) * L.per], s ≤ 1000000000000 := fun s hs => HMB.out s (by rw [mpre_moments, ← hzp, if_pos h1]; exact hs)
        have hbig := hmom ((t / L.per + 1) * L.per) (by simp)
        have HMOM0 := Lib.hid hmom
        clear HV hzp h1 hmom
        have HV := Lib.hid hv
        clear hv HZS
        have hp0 : (L.per == 0) = false := by simp; omega
        have hpne : ¬ L.per = 0 := by omega
        have d3 := Int.ediv_le_self L.per ht.1
        have d4 := Int.ediv_nonneg ht.1 (show 0 ≤ L.per by omega)
        have d5 := Int.mul_nonneg (show 0 ≤ t / L.per + 1 by omega) (show 0 ≤ L.per by omega)
        have e3 : IntKind.i64.wrap (t / L.per) = t / L.per := IntWalk.i64_in _ (by omega)
        have e4 : t.tdiv L.per = t / L.per := Int.tdiv_eq_ediv_of_nonneg ht.1
        have e5 : IntKind.i64.wrap (t / L.per + 1) = t / L.per + 1 := IntWalk.i64_in _ (by omega)
        have e6 : IntKind.i64.wrap ((t / L.per + 1) * L.per) = (t / L.per + 1) * L.per := IntWalk.i64_in _ (by omega)
        have HXB : Hid ((t / L.per + 1) * L.per ≤ 1000000000000) := Lib.hid hbig
        go_wp2_with fail
        refine wp_region_held_ord (fun w' => w'.cell? ⟨w.heap.size, 3, none⟩ = some (.int .i64 L.per) ∧ w.heap.size < w'.heap.size) [9, 10] [0, 1, 2, 3, 4, 5, 6, 7, 8, 9, 10] (by kernel_rfl) (by kernel_rfl) (fun _ _ d _ _ h => by cases d <;> exact h) ?_ (fun hHeld => ?_)
        · exact ⟨x3, xl⟩
        simp only [List.length_cons, List.length_nil, List.drop_succ_cons, List.drop_zero]
        refine heldO_take ?_ (by rfl) (by rfl) (by rfl) (fun w hSw => ?_) ?_
        rotate_left
        · (try dsimp only at hSw); go_simp; any_goals (with_reducible rfl)
        simp only [Act.put, List.setIfInBounds_toArray, List.set_cons_zero, List.set_cons_succ]
        refine heldO_take ?_ (by rfl) (by rfl) (by rfl) (fun w hSw => ?_) ?_
        rotate_left
        · (try dsimp only at hSw); go_simp; any_goals (with_reducible rfl)
        simp only [Act.put, List.setIfInBounds_toArray, List.set_cons_zero, List.set_cons_succ]
        refine heldO_take ?_ (by rfl) (by rfl) (by rfl) (fun w hSw => ?_) ?_
        rotate_left
        · (try dsimp only at hSw); go_simp; any_goals (with_reducible rfl)
        simp only [Act.put, List.setIfInBounds_toArray, List.set_cons_zero, List.set_cons_succ]
        refine heldO_take ?_ (by rfl) (by rfl) (by rfl) (fun w hSw => ?_) ?_
        rotate_left
        · (try dsimp only at hSw); go_simp; any_goals (with_reducible rfl)
        simp only [Act.put, List.setIfInBounds_toArray, List.set_cons_zero, List.set_cons_succ]
        refine heldO_take ?_ (by rfl) (by rfl) (by rfl) (fun w hSw => ?_) ?_
        rotate_left
        · (try dsimp only at hSw); go_simp; any_goals (with_reducible rfl)
        simp only [Act.put, List.setIfInBounds_toArray, List.set_cons_zero, List.set_cons_succ]
        refine heldO_take ?_ (by rfl) (by rfl) (by rfl) (fun w hSw => ?_) ?_
        rotate_left
        · (try dsimp only at hSw); go_simp; any_goals (with_reducible rfl)
        simp only [Act.put, List.setIfInBounds_toArray, List.set_cons_zero, List.set_cons_succ]
        refine heldO_take ?_ (by rfl) (by rfl) (by rfl) (fun w hSw => ?_) ?_
        rotate_left
        · (try dsimp only at hSw); go_simp; any_goals (with_reducible rfl)
        simp only [Act.put, List.setIfInBounds_toArray, List.set_cons_zero, List.set_cons_succ]
        refine heldO_take ?_ (by rfl) (by rfl) (by rfl) (fun w hSw => ?_) ?_
        rotate_left
        · (try dsimp only at hSw); go_simp; any_goals (with_reducible rfl)
        simp only [Act.put, List.setIfInBounds_toArray, List.set_cons_zero, List.set_cons_succ]
        refine heldO_take ?_ (by rfl) (by rfl) (by rfl) (fun w hSw => ?_) ?_
        rotate_left
        · (try dsimp only at hSw); go_simp; any_goals (with_reducible rfl)
        simp only [Act.put, List.setIfInBounds_toArray, List.set_cons_zero, List.set_cons_succ]
        clear e3 e4 e5 e6
        generalize (t / L.per + 1) * L.per = X at *
        refine heldO_step (by rfl) (by rfl) (by rfl) (fun K hK => ?_)
        go_simp
        refine hK.out _ _ (by go_keep; omega) (fun hHeld => ?_)
        clear hK K
        try simp only [Act.put, List.setIfInBounds_toArray, List.set_cons_zero, List.set_cons_succ]
        have ownA : IntOwn ((wr.drewN 1).alloc (.cells #[.int .i64 X] 3)) (w.heap.size + 1) (some ⟨g1, 0, none⟩) zs.length c1 zs := (HO.out.drewN 1).alloc _
        have blkA : Blk ((wr.drewN 1).alloc (.cells #[.int .i64 X] 3)) wr.heap.size 3 (encL 1 intEnc X).toArray := Blk.new (wr.drewN 1) _ _
        have mA : New w1 ((wr.drewN 1).alloc (.cells #[.int .i64 X] 3)) := (HM.out.drewN 1).alloc _
        have bA := HBL.out.new'' mA
        refine heldO_step (by rfl) (by rfl) (by rfl) (fun K hK => ?_)
        refine wp_push (.tmp 81) (.tmp 90) _ rfl 8 Tryz.underlying22 einfo_int rfl (by exact ownA) X wr.heap.size rfl (by exact blkA) (fun _ _ => rfl) (by omega) (by omega) (by have h1 := HM.out.size; have h2 := HZ1.out; simp; omega) ?_
        intro g2 cap w4 own4 hm4 hat4 hlt4
        have hma : New w1 w4 := Own.push_mod (a := w1) ownA mA hm4 (by have := HZ1.out; omega)
        have b4 := HBL.out.new'' hma
        have k3 : w4.cell? ⟨w.heap.size, 3, none⟩ = some (.int .i64 L.per) := (b4.cell 3).trans rfl
        have kl := b4.lt
        refine hK.out _ _ ⟨k3, kl⟩ (fun hHeld => ?_)
        clear hK K
        try simp only [Act.put, List.setIfInBounds_toArray, List.set_cons_zero, List.set_cons_succ]
        refine heldO_nil ?_
        have howna : IntOwn w4 (w.heap.size + 1) (some ⟨g2, 0, none⟩) (zs ++ [X]).length cap (zs ++ [X]) := by
          rw [List.length_append]; exact own4
        have hmom := HMOM0.out
        have hzl2 : (zs ++ [X]).length ≤ 10002 := by rw [List.length_append]; simp; omega
        have hll : zs.length + 1 = (zs ++ [X]).length := by simp
        rw [hll]
        clear own4 hm4 hat4 ownA blkA mA bA b4 HO HM x1 x3 k3 hll
        generalize zs ++ [X] = MM at *
        -- w4: the world where the moments lie as the list MM in a row of our own at g2
        have hso := sort_own w4 (w.heap.size + 1) g2 _ cap MM howna (by omega)
        have HMOM := Lib.hid hmom
        have HMA := Lib.hid hma
        have hgw : w.heap.size + 1 ≤ g2 := (Own.far howna g2 rfl).1
        clear howna hmom hma
        go_wp2_with fail
        refine hso.mono ?_
        clear hso
        rintro e ws ⟨rfl, owns, hms⟩
        have HOWN := Lib.hid owns
        have hmw : New w1 ws := HMA.out.step hms (fun x hx e => by have := HZ1.out; omega)
        have HMW := Lib.hid hmw
        have hmsl : (sortM MM).length = MM.length := (sortM_perm _).length_eq
        have HMSL := Lib.hid hmsl
        have HMEM : Hid (∀ s ∈ sortM MM, s ≤ 1000000000000) := Lib.hid (fun s hs => HMOM.out s ((sortM_perm _).mem_iff.1 hs))
        clear owns hmw hmsl hms
        generalize sortM MM = ms at *
        generalize MM.length = ml at *
        go_wp2_with fail
        go_loopw [15, 96] (fun _ i wr => ∃ k : Nat, k ≤ ml ∧ i = .int .i64 k ∧ New ws wr ∧ Hid (firstM L p t cost ms = firstM L p t cost (ms.drop k))) (fun _ i _ => ml - (intOf i).toNat)
        case atStart => exact ⟨0, Nat.zero_le _, rfl, Mod.refl _ _, Lib.hid rfl⟩
        case round =>
          rename World => wr
          obtain ⟨k, hk, rfl, hmr, HFI⟩ := hrel
          by_cases hlt : k < ml
          · have hkl : k < ms.length := by have := HMSL.out; omega
            obtain ⟨g', o', hA', htb', hcc⟩ := (HOWN.out.new hmr).sl.2 (by omega)
            injection hA' with hA'
            injection hA' with hA1' hA2'
            subst hA1' hA2'
            have s0 := hcc k hkl 0 (by omega)
            simp only [intEnc, Nat.add_zero, Nat.mul_one, Nat.zero_add] at s0
            have hgs := htb'.lt
            have HDR := Lib.hid (HFI.out.trans (firstM_drop hkl))
            have hms1 := HMEM.out ms[k] (List.getElem_mem _)
            have hwr : New w wr := (HA1.out.trans HMW.out).trans hmr
            have hlc := fun hh : t ≤ ms[k] => HLA.out wr hwr ms[k] hh hms1
            have bx := (HBL.out.new'' HMW.out).new'' hmr
            have x0 := bx.cell 0
            have x1 := bx.cell 1
            have x2 := bx.cell 2
            have x3 := bx.cell 3
            have x4 := bx.cell 4
            have xl := bx.lt
            simp at x0 x1 x2 x3 x4
            have hb1 : (0 : Int) ≤ k := by omega
            have hb2 : (k : Int) < ml := by omega
            clear hcc bx
            generalize ms[k] = s at *
            by_cases hts : t ≤ s
            · have hd1 : decide (t ≤ s) = true := by simpa using hts
              have hlc := hlc hts
              by_cases hcl : cost ≤ leftR L p s
              · have hd2 : decide (cost ≤ leftR L p s) = true := by simpa using hcl
                have HE := HDR.out
                rw [if_pos ⟨hts, hcl⟩] at HE
                have HE2 := Lib.hid HE
                have e7 : IntKind.i64.wrap (s - t) = s - t := IntWalk.i64_in _ (by omega)
                clear HE hcl
                generalize leftR L p s = LF at *
                go_wp2_with (go_at_call 65; refine hlc.mono ?_; clear hlc; rintro e w5 ⟨rfl, hm5⟩)
                go_ret
                exact ⟨ret_int (by rw [HV.out, HE2.out]), hwr.trans hm5⟩
              · have hd2 : decide (cost ≤ leftR L p s) = false := by simpa using hcl
                have HE := HDR.out
                rw [if_neg (fun hh => hcl hh.2)] at HE
                have HE2 := Lib.hid HE
                clear HE hcl
                generalize leftR L p s = LF at *
                go_wp2_with (go_at_call 65; refine hlc.mono ?_; clear hlc; rintro e w5 ⟨rfl, hm5⟩)
                exact ⟨⟨k + 1, by omega, by go_num, hmr.trans hm5, HE2⟩, by simp [intOf]; omega⟩
            · have hd1 : decide (t ≤ s) = false := by simpa using hts
              have HE := HDR.out
              rw [if_neg (fun hh => hts hh.1)] at HE
              have HE2 := Lib.hid HE
              clear HE hlc
              go_wp2_with fail
              exact ⟨⟨k + 1, by omega, by go_num, hmr, HE2⟩, by simp [intOf]; omega⟩
          · obtain rfl : k = ml := by omega
            have HE := HFI.out
            rw [List.drop_of_length_le (by have := HMSL.out; omega), firstM] at HE
            have HE2 := Lib.hid HE
            clear HE
            go_wp2_with fail
            go_ret
            exact ⟨ret_int (by rw [HV.out, HE2.out]), (HA1.out.trans HMW.out).trans hmr⟩
      · have hk1 : (L.kind == 1) = false := by simpa using h1
        have hv := HV.out
        rw [if_neg h1, List.append_nil, ← hzp] at hv
        have hmom : ∀ s ∈ zs, s ≤ 1000000000000 := fun s hs => HMB.out s (by rw [mpre_moments, ← hzp]; exact List.mem_append_left _ hs)
        have howna := HO.out
        have hma := HM.out
        clear HV hzp h1
        have HV := Lib.hid hv
        clear hv HZS HO HM x3
        -- wr: the world where the moments lie as the list zs in a row of our own at g1
        have hso := sort_own wr (w.heap.size + 1) g1 _ c1 zs howna (by omega)
        have HMOM := Lib.hid hmom
        have HMA := Lib.hid hma
        have hgw : w.heap.size + 1 ≤ g1 := (Own.far howna g1 rfl).1
        clear howna hmom hma
        go_wp2_with fail
        refine hso.mono ?_
        clear hso
        rintro e ws ⟨rfl, owns, hms⟩
        have HOWN := Lib.hid owns
        have hmw : New w1 ws := HMA.out.step hms (fun x hx e => by have := HZ1.out; omega)
        have HMW := Lib.hid hmw
        have hmsl : (sortM zs).length = zs.length := (sortM_perm _).length_eq
        have HMSL := Lib.hid hmsl
        have HMEM : Hid (∀ s ∈ sortM zs, s ≤ 1000000000000) := Lib.hid (fun s hs => HMOM.out s ((sortM_perm _).mem_iff.1 hs))
        clear owns hmw hmsl hms
        generalize sortM zs = ms at *
        generalize zs.length = ml at *
        go_wp2_with fail
        go_loopw [15, 96] (fun _ i wr => ∃ k : Nat, k ≤ ml ∧ i = .int .i64 k ∧ New ws wr ∧ Hid (firstM L p t cost ms = firstM L p t cost (ms.drop k))) (fun _ i _ => ml - (intOf i).toNat)
        case atStart => exact ⟨0, Nat.zero_le _, rfl, Mod.refl _ _, Lib.hid rfl⟩
        case round =>
          rename World => wr
          obtain ⟨k, hk, rfl, hmr, HFI⟩ := hrel
          by_cases hlt : k < ml
          · have hkl : k < ms.length := by have := HMSL.out; omega
            obtain ⟨g', o', hA', htb', hcc⟩ := (HOWN.out.new hmr).sl.2 (by omega)
            injection hA' with hA'
            injection hA' with hA1' hA2'
            subst hA1' hA2'
            have s0 := hcc k hkl 0 (by omega)
            simp only [intEnc, Nat.add_zero, Nat.mul_one, Nat.zero_add] at s0
            have hgs := htb'.lt
            have HDR := Lib.hid (HFI.out.trans (firstM_drop hkl))
            have hms1 := HMEM.out ms[k] (List.getElem_mem _)
            have hwr : New w wr := (HA1.out.trans HMW.out).trans hmr
            have hlc := fun hh : t ≤ ms[k] => HLA.out wr hwr ms[k] hh hms1
            have bx := (HBL.out.new'' HMW.out).new'' hmr
            have x0 := bx.cell 0
            have x1 := bx.cell 1
            have x2 := bx.cell 2
            have x3 := bx.cell 3
            have x4 := bx.cell 4
            have xl := bx.lt
            simp at x0 x1 x2 x3 x4
            have hb1 : (0 : Int) ≤ k := by omega
            have hb2 : (k : Int) < ml := by omega
            clear hcc bx
            generalize ms[k] = s at *
            by_cases hts : t ≤ s
            · have hd1 : decide (t ≤ s) = true := by simpa using hts
              have hlc := hlc hts
              by_cases hcl : cost ≤ leftR L p s
              · have hd2 : decide (cost ≤ leftR L p s) = true := by simpa using hcl
                have HE := HDR.out
                rw [if_pos ⟨hts, hcl⟩] at HE
                have HE2 := Lib.hid HE
                have e7 : IntKind.i64.wrap (s - t) = s - t := IntWalk.i64_in _ (by omega)
                clear HE hcl
                generalize leftR L p s = LF at *
                go_wp2_with (go_at_call 65; refine hlc.mono ?_; clear hlc; rintro e w5 ⟨rfl, hm5⟩)
                go_ret
                exact ⟨ret_int (by rw [HV.out, HE2.out]), hwr.trans hm5⟩
              · have hd2 : decide (cost ≤ leftR L p s) = false := by simpa using hcl
                have HE := HDR.out
                rw [if_neg (fun hh => hcl hh.2)] at HE
                have HE2 := Lib.hid HE
                clear HE hcl
                generalize leftR L p s = LF at *
                go_wp2_with (go_at_call 65; refine hlc.mono ?_; clear hlc; rintro e w5 ⟨rfl, hm5⟩)
                exact ⟨⟨k + 1, by omega, by go_num, hmr.trans hm5, HE2⟩, by simp [intOf]; omega⟩
            · have hd1 : decide (t ≤ s) = false := by simpa using hts
              have HE := HDR.out
              rw [if_neg (fun hh => hts hh.1)] at HE
              have HE2 := Lib.hid HE
              clear HE hlc
              go_wp2_with fail
              exact ⟨⟨k + 1, by omega, by go_num, hmr, HE2⟩, by simp [intOf]; omega⟩
          · obtain rfl : k = ml := by omega
            have HE := HFI.out
            rw [List.drop_of_length_le (by have := HMSL.out; omega), firstM] at HE
            have HE2 := Lib.hid HE
            clear HE
            go_wp2_with fail
            go_ret
            exact ⟨ret_int (by rw [HV.out, HE2.out]), (HA1.out.trans HMW.out).trans hmr⟩

end Go.Proofs.YtinnckbffblecaaGreat
