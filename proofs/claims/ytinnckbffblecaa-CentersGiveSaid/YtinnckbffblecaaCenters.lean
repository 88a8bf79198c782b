/- The law CentersGive, walked. Conditions: the argument is a slice of ints that can be read. -/
import Derived.Test.YtinnckbffblecaaCenters0
namespace Go.Proofs.Ytinnckbffblecaa
open Go.RowKit Go.MapKept
set_option linter.unusedVariables false
set_option linter.unusedSimpArgs false

set_option maxRecDepth 100000 in
set_option maxHeartbeats 4000000 in
theorem centers_walk (A : Option Addr) (n c : Nat) (w : World) (h : InInts w A n) :
    Calls Try.prog 4 #[.slice A n c] w fun e w' => e = .returned (.bool true) ∧ New w w' := by
  have hs := SInv.start (c := c) h
  go_enter Try.func4, Try.ntmps4
  go_wp2_with fail
  have T0 := SStep.refl hs
  have hpick := pick_any [1, 3, 5, 9] w.heap.size 0 (w.heap.size + 1) 4 _ (T0.alloc _).inv (by omega) (Blk.new' _ _ (by simp)) rfl (by omega) (by omega)
  refine hpick.mono ?_
  clear hpick
  rintro e w1 ⟨most, rfl, m1, h1⟩
  have T1 := (T0.alloc _).trans h1
  have hmost : 1 ≤ most ∧ most ≤ 9 := by simp at m1; omega
  clear T0 h1 m1
  generalize hW0 : w.alloc (.cells #[.slice A n c, .int .i64 0] 25) = W0 at *
  have hW0s : W0.heap.size = w.heap.size + 1 := by rw [← hW0]; simp
  have hnews : ∀ w' k, SStep w.heap.size W0 w' k → New w w' := fun w' k hh => by rw [← hW0] at hh; exact hh.news
  have HN := Lib.hid hnews
  have HW0s := Lib.hid hW0s
  clear hnews hW0 hW0s hs
  go_wp2_with fail
  refine (pick_any [1, 10, 50] w.heap.size 1 w1.heap.size 3 _ (T1.alloc _).inv (by omega) (Blk.new _ _ _) rfl (by omega) (by omega)).mono ?_
  rintro e w2 ⟨per, rfl, m2, h2⟩
  have T2 := (T1.alloc _).trans h2
  have hper : 1 ≤ per ∧ per ≤ 50 := by simp at m2; omega
  have hz2 : w.heap.size < w2.heap.size := by have := T2.only.size; rw [HW0s.out] at this; omega
  clear T1 h2 m2
  go_upto_if 32 with (first | (go_at_call 6; refine (flip_any _ _ _ _ (T2.alloc _).inv (by omega) (by omega) (by omega)).mono ?_; rintro e w3 ⟨m, rfl, h3⟩))
  have T3 := (T2.alloc _).trans h3
  obtain ⟨o3, z3, n3⟩ := h3.only.pre
  have B3 : Blk w3 w2.heap.size 27 _ := n3 (by omega)
  clear n3 h3 o3 T2
  go_cut [] (fun wx => ∃ (key : ByteArray) (kind most per burst : Int), key.size ≤ 1 ∧ Blk wx w2.heap.size 27 #[.string key, .int .i64 kind, .int .i64 most, .int .i64 per, .int .i64 burst] ∧ SStep w.heap.size W0 wx 9)
  case first =>
    cases m
    · go_wp2_with fail
      go_meet
      exact ⟨_, _, _, _, _, by decide, B3, T3.more (by omega)⟩
    · go_wp2_with fail
      refine (some_any [⟨#[119]⟩, ⟨#[65]⟩] w.heap.size 3 w3.heap.size 2 _ (T3.alloc _).inv (by omega) (Blk.new _ _ _) rfl (by omega) (by omega)).mono ?_
      rintro e w4 ⟨key, rfl, mk, h4⟩
      have hkey : key.size ≤ 1 := by simp at mk; rcases mk with rfl | rfl <;> decide
      have B4 := B3.mod h4.only.pre.1 (by omega)
      have T4 := (T3.alloc _).trans h4
      clear h4 T3 B3
      go_wp2_with fail
      refine (rightLimit_any key w.heap.size _ _ T4.inv (by omega)).mono ?_
      rintro e w5 ⟨l, rfl, hlk, hls, h5⟩
      obtain ⟨key', kind, most', per', burst⟩ := l
      simp only at hlk
      subst hlk
      simp only [Lim.val]
      have B5 := B4.mod h5.only (by omega)
      have T5 := T4.trans h5
      have c0 := B5.cell 0
      have c1 := B5.cell 1
      have c2 := B5.cell 2
      have c3 := B5.cell 3
      have c4 := B5.cell 4
      have f0 := B5.frozen 0
      have f1 := B5.frozen 1
      have f2 := B5.frozen 2
      have f3 := B5.frozen 3
      have f4 := B5.frozen 4
      simp at c0 c1 c2 c3 c4
      go_wp2_with fail
      go_meet
      refine ⟨key', kind, most', per', burst, hkey, by simpa using ((((B5.set 0 (.string key')).set 1 (.int .i64 kind)).set 2 (.int .i64 most')).set 3 (.int .i64 per')).set 4 (.int .i64 burst), ?_⟩
      refine SStep.set (SStep.set (SStep.set (SStep.set (SStep.set (T5.more (by omega)) ?_ _) ?_ _) ?_ _) ?_ _) ?_ _ <;> (rw [HW0s.out]; simp; omega)
  case rest =>
    clear T3 B3 hmost hper
    obtain ⟨key, kind, most', per', burst, hkey, BX, TX⟩ := hcut
    have hx0 := BX.cell 0
    have hx1 := BX.cell 1
    have hx2 := BX.cell 2
    have hx3 := BX.cell 3
    have hx4 := BX.cell 4
    simp at hx0 hx1 hx2 hx3 hx4
    go_wp2_with fail
    refine (limit_NewCenter ⟨key, kind, most', per', burst⟩ wc (by unfold maxLen; simp only; omega)).mono ?_
    rintro e w6 ⟨p, rfl, hcen, m6⟩
    have HC := Lib.hid hcen
    have hzc := TX.only.size
    have T6 := TX.new m6
    have B6 := BX.mod m6 (fun h => h)
    clear hx0 hx1 hx2 hx3 hx4 TX BX hcen
    have hx0 := B6.cell 0
    have hx1 := B6.cell 1
    have hx2 := B6.cell 2
    have hx3 := B6.cell 3
    have hx4 := B6.cell 4
    simp at hx0 hx1 hx2 hx3 hx4
    have hfault := winF_or ⟨key, kind, most', per', burst⟩
    have HFA := Lib.hid hfault
    clear hfault
    go_upto_region 6 with (fail)
    go_cut [7] (fun s7 wx => s7 = .int .i64 (winF ⟨key, kind, most', per', burst⟩) ∧ New w6 wx)
    case first =>
      have l6 := B6.lt
      go_region_held3 (fun w' => w'.cell? ⟨w2.heap.size, 0, none⟩ = some (.string key) ∧ w'.cell? ⟨w2.heap.size, 1, none⟩ = some (.int .i64 kind) ∧ w'.cell? ⟨w2.heap.size, 2, none⟩ = some (.int .i64 most') ∧ w'.cell? ⟨w2.heap.size, 3, none⟩ = some (.int .i64 per') ∧ w'.cell? ⟨w2.heap.size, 4, none⟩ = some (.int .i64 burst)) (go_keep)
        (first
          | (go_at_call 11; refine (ref_limitsFault [⟨key, kind, most', per', burst⟩] _ 1 _ _ (LimRows.one _ _ (by exact Blk.new _ _ _)) (by omega) (by unfold maxLen; simp; omega)).mono ?_; rintro e wL ⟨rfl, hmL⟩; have BL := Blk.mod (Blk.mod (Blk.mod B6 ((Mod.refl (fun _ => False) _).alloc _) (fun h => h)) ((Mod.refl (fun _ => False) _).drew) (fun h => h)) hmL (fun h => h); have kL0 : wL.cell? ⟨w2.heap.size, 0, none⟩ = some (.string key) := (BL.cell 0).trans rfl; have kL1 : wL.cell? ⟨w2.heap.size, 1, none⟩ = some (.int .i64 kind) := (BL.cell 1).trans rfl; have kL2 : wL.cell? ⟨w2.heap.size, 2, none⟩ = some (.int .i64 most') := (BL.cell 2).trans rfl; have kL3 : wL.cell? ⟨w2.heap.size, 3, none⟩ = some (.int .i64 per') := (BL.cell 3).trans rfl; have kL4 : wL.cell? ⟨w2.heap.size, 4, none⟩ = some (.int .i64 burst) := (BL.cell 4).trans rfl; have lL := BL.lt)
          | (go_at_call 12; refine (when_any _ _ _).mono ?_; rintro e wW ⟨rfl, rfl⟩)
          | (go_at_call 10; refine (cmpOr_any [limsFault [⟨key, kind, most', per', burst⟩], _] _ 2 _ (by exact Blk.new _ _ _) rfl (by omega)).mono ?_; rintro e wO ⟨rfl, rfl⟩))
      all_goals go_wp2_with fail
      all_goals go_meet
      all_goals refine ⟨by rw [← HFA.out], ?_⟩
      all_goals refine Mod.trans (((Mod.refl _ _).alloc _).drew.trans hmL) (by with_reducible (repeat (first | exact Mod.refl _ _ | refine Mod.drewN ?_ _ | refine Mod.drew ?_ | refine Mod.alloc ?_ _)))
    case rest =>
      clear hx0 hx1 hx2 hx3 hx4 HFA
      obtain ⟨rfl, m7⟩ := hcut
      have T7 := T6.new m7
      have B7 := B6.mod m7 (fun h => h)
      rcases HC.out with ⟨hf, rfl⟩ | ⟨hf, gc, mc, rfl, hcen, hgc, hmc⟩
      · have hf' : (winF ⟨key, kind, most', per', burst⟩ != 0) = true := by simpa using hf
        go_wp2_with fail
        refine (limited_true _).mono ?_
        rintro e w8 ⟨rfl, m8⟩
        go_wp2_with fail
        go_ret
        exact ⟨rfl, HN.out _ _ (T7.new m8)⟩
      · have hcen7 : CenterAt wc gc mc ⟨key, kind, most', per', burst⟩ ⟨0, []⟩ := ⟨hcen.1.mod m7 (fun h => h), hcen.2.mod m7 (fun h => h)⟩
        have hwl := WLim.of_fault hf
        have hok0 : CS.Ok ⟨key, kind, most', per', burst⟩ ⟨0, []⟩ := ⟨by simp, by simp, by simp, by have := hwl.most; simp [isum]; simp only at this; omega, by simp⟩
        have hx0 := B7.cell 0
        have hx1 := B7.cell 1
        have hx2 := B7.cell 2
        have hx3 := B7.cell 3
        have hx4 := B7.cell 4
        simp at hx0 hx1 hx2 hx3 hx4
        have hgcl := hcen7.1.lt
        have hmcl := hcen7.2.lt
        have hW6 := m6.size
        rw [hf]
        clear hf hcen HC m6 m7 T6 B6
        go_wp2_with fail
        refine (ref_NewStore ⟨key, kind, most', per', burst⟩ wc).mono ?_
        rintro e w8 ⟨gs, ms, rfl, hst, hgs, hms, m8⟩
        have hcen8 : CenterAt w8 gc mc ⟨key, kind, most', per', burst⟩ ⟨0, []⟩ := ⟨hcen7.1.mod m8 (fun h => h), hcen7.2.mod m8 (fun h => h)⟩
        have T8 := T7.new m8
        clear hcen7 T7 B7 hx0 hx1 hx2 hx3 hx4
        have hz8 := T8.only.size
        go_wp2_with fail
        refine (next_any _ _ _ _ T8.inv (by omega) (by omega) (by omega)).mono ?_
        rintro e w9 ⟨at0, rfl, ha0, ha1, h9⟩
        have hpair : Pair w8 W0.heap.size gc mc ⟨0, []⟩ gs ms ⟨0, []⟩ ⟨key, kind, most', per', burst⟩ := ⟨hcen8, hst, by omega, by omega, by omega, by omega, by omega, by omega, by omega, by omega⟩
        have hb0 : w.heap.size < W0.heap.size := by rw [HW0s.out]; omega
        have hpair := hpair.mod h9.only (fun i e => by omega)
        have T9 := T8.trans h9
        clear hcen8 hst T8 h9 hgs hms hgc hmc hgcl hmcl m8
        go_wp2_with fail
        refine (range_any _ _ _ _ _ T9.inv (by omega) (by omega) (by omega) (by omega)).mono ?_
        rintro e w10 ⟨nn, rfl, hnn0, hnn1, h10⟩
        obtain ⟨nn, rfl⟩ := Int.eq_ofNat_of_zero_le hnn0
        have hpair := hpair.mod h10.only (fun i e => by omega)
        have T10 := T9.trans h10
        clear T9 h10 hnn0
        go_wp2_with fail
        go_loopw [9, 78] (fun t i wr => ∃ (k mc ms : Nat) (at_ : Int) (st : CS), k ≤ nn ∧ i = .int .i64 k ∧ t = .int .i64 at_ ∧ 0 ≤ at_ ∧ at_ ≤ 20 + 20 * k ∧ CS.Ok ⟨key, kind, most', per', burst⟩ st ∧
          Pair wr W0.heap.size gc mc st gs ms st ⟨key, kind, most', per', burst⟩ ∧ SStep w.heap.size W0 wr (11 + 6 * k)) (fun _ i _ => nn - (intOf i).toNat)
        case atStart => exact ⟨0, mc, ms, at0, ⟨0, []⟩, Nat.zero_le _, rfl, rfl, by omega, by omega, hok0, hpair, T10⟩
        case round =>
          rename_i wr
          clear T10 hpair hok0
          obtain ⟨k, mc, ms, at_, st, hk, rfl, rfl, hat0, hat1, hok, hpr, TK⟩ := hrel
          by_cases hlt : k < nn
          · go_wp2_with fail
            refine (some_any [⟨#[103, 97]⟩, ⟨#[103, 97]⟩, ⟨#[103, 98]⟩, ⟨#[65]⟩] w.heap.size _ wr.heap.size 4 _ (TK.alloc _).inv (by omega) (Blk.new _ _ _) rfl (by omega) (by omega)).mono ?_
            rintro e w11 ⟨gate, rfl, mg, h11⟩
            have hgate : gate.size ≤ maxLen := by
              unfold maxLen
              simp at mg
              rcases mg with rfl | rfl | rfl <;> decide
            have P11 := hpr.mod h11.only.pre.1 (fun i e => by omega)
            have T11 := (TK.alloc _).trans h11
            clear hpr TK h11 mg
            go_wp2_with fail
            refine (pick_any [1, 1, 2, 5, 0] w.heap.size _ w11.heap.size 5 _ (T11.alloc _).inv (by omega) (Blk.new _ _ _) rfl (by omega) (by omega)).mono ?_
            rintro e w12 ⟨many, rfl, m12, h12⟩
            have P12 := P11.mod h12.only.pre.1 (fun i e => by omega)
            have T12 := (T11.alloc _).trans h12
            clear P11 T11 h12 m12
            go_upto_if 88 with (first | (go_at_call 6; refine (flip_any _ _ _ _ T12.inv (by omega) (by omega) (by omega)).mono ?_; rintro e w13 ⟨m13, rfl, h13⟩))
            have P13 := P12.mod h13.only (fun i e => by omega)
            have T13 := T12.trans h13
            clear P12 T12 h13
            go_cut [10] (fun s wx => ∃ now : Int, s = .int .i64 now ∧ Pair wx W0.heap.size gc mc st gs ms st ⟨key, kind, most', per', burst⟩ ∧ SStep w.heap.size W0 wx (11 + 6 * k + 4))
            case first =>
              cases m13
              · go_wp2_with fail
                go_meet
                exact ⟨_, rfl, P13, T13.more (by omega)⟩
              · go_wp2_with fail
                refine (pick_any [-1, 0, 345686400000] w.heap.size _ w13.heap.size 3 _ (T13.alloc _).inv (by omega) (Blk.new _ _ _) rfl (by omega) (by omega)).mono ?_
                rintro e w14 ⟨now, rfl, m14, h14⟩
                go_wp2_with fail
                go_meet
                exact ⟨now, rfl, P13.mod h14.only.pre.1 (fun i e => by omega), ((T13.alloc _).trans h14).more (by omega)⟩
            case rest =>
              clear P13 T13
              obtain ⟨now, rfl, PX, TX⟩ := hcut
              go_wp2_with fail
              refine (next_any _ _ _ _ TX.inv (by omega) (by omega) (by omega)).mono ?_
              rintro e w15 ⟨d, rfl, hd0, hd1, h15⟩
              have P15 := PX.mod h15.only (fun i e => by omega)
              have T15 := TX.trans h15
              clear PX TX h15
              have hd : d = 0 ∨ d = 1 ∨ d = 2 ∨ d = 3 := by omega
              clear hd0 hd1
              rcases hd with rfl | rfl | rfl | rfl
              · go_wp2_with fail
                refine (center_Lease _ gc mc ⟨key, kind, most', per', burst⟩ st P15.cen hwl hok now gate many hgate).mono ?_
                rintro e w16 ⟨rfl, hc16⟩
                obtain ⟨mc1, P16, o16⟩ := P15.cstep hc16
                have T16 := T15.mod o16 (fun i e => e)
                clear hc16 P15 T15 o16
                go_wp2_with fail
                refine (store_Lease _ gs ms ⟨key, kind, most', per', burst⟩ st P16.sto hwl hok now gate many hgate).mono ?_
                rintro e w17 ⟨rfl, hd17⟩
                obtain ⟨ms1, P17, o17⟩ := P16.dstep hd17
                have T17 := T16.mod o17 (fun i e => e)
                clear hd17 P16 T16 o17
                have OK17 := leaseC_ok hok hwl now gate many
                go_wp2_with fail
                refine (pick_any [0, 0, 1, 5, 20] w.heap.size _ w17.heap.size 5 _ (T17.alloc _).inv (by omega) (Blk.new _ _ _) rfl (by omega) (by omega)).mono ?_
                rintro e w20 ⟨step, rfl, m20, h20⟩
                have hstep : 0 ≤ step ∧ step ≤ 20 := by simp at m20; omega
                have P20 := P17.mod h20.only.pre.1 (fun i e => by omega)
                have T20 := (T17.alloc _).trans h20
                clear h20 m20
                go_wp2_with fail
                refine ⟨⟨k + 1, _, _, at_ + step, _, by omega, by go_num, rfl, by omega, by omega, OK17, P20, T20.more (by omega)⟩, by simp [intOf]; omega⟩
              · go_wp2_with fail
                refine (center_Lease _ gc mc ⟨key, kind, most', per', burst⟩ st P15.cen hwl hok now gate many hgate).mono ?_
                rintro e w16 ⟨rfl, hc16⟩
                obtain ⟨mc1, P16, o16⟩ := P15.cstep hc16
                have T16 := T15.mod o16 (fun i e => e)
                clear hc16 P15 T15 o16
                go_wp2_with fail
                refine (store_Lease _ gs ms ⟨key, kind, most', per', burst⟩ st P16.sto hwl hok now gate many hgate).mono ?_
                rintro e w17 ⟨rfl, hd17⟩
                obtain ⟨ms1, P17, o17⟩ := P16.dstep hd17
                have T17 := T16.mod o17 (fun i e => e)
                clear hd17 P16 T16 o17
                have OK17 := leaseC_ok hok hwl now gate many
                go_wp2_with fail
                refine (pick_any [0, 0, 1, 5, 20] w.heap.size _ w17.heap.size 5 _ (T17.alloc _).inv (by omega) (Blk.new _ _ _) rfl (by omega) (by omega)).mono ?_
                rintro e w20 ⟨step, rfl, m20, h20⟩
                have hstep : 0 ≤ step ∧ step ≤ 20 := by simp at m20; omega
                have P20 := P17.mod h20.only.pre.1 (fun i e => by omega)
                have T20 := (T17.alloc _).trans h20
                clear h20 m20
                go_wp2_with fail
                refine ⟨⟨k + 1, _, _, at_ + step, _, by omega, by go_num, rfl, by omega, by omega, OK17, P20, T20.more (by omega)⟩, by simp [intOf]; omega⟩
              · go_wp2_with fail
                refine (center_Return _ gc mc ⟨key, kind, most', per', burst⟩ st P15.cen hwl hok now gate many hgate).mono ?_
                rintro e w16 ⟨rfl, hc16⟩
                obtain ⟨mc1, P16, o16⟩ := P15.cstep hc16
                have T16 := T15.mod o16 (fun i e => e)
                clear hc16 P15 T15 o16
                go_wp2_with fail
                refine (store_Return _ gs ms ⟨key, kind, most', per', burst⟩ st P16.sto hwl hok now gate many hgate).mono ?_
                rintro e w17 ⟨rfl, hd17⟩
                obtain ⟨ms1, P17, o17⟩ := P16.dstep hd17
                have T17 := T16.mod o17 (fun i e => e)
                clear hd17 P16 T16 o17
                have OK17 := returnC_ok hok hwl now gate many
                go_wp2_with fail
                refine (pick_any [0, 0, 1, 5, 20] w.heap.size _ w17.heap.size 5 _ (T17.alloc _).inv (by omega) (Blk.new _ _ _) rfl (by omega) (by omega)).mono ?_
                rintro e w20 ⟨step, rfl, m20, h20⟩
                have hstep : 0 ≤ step ∧ step ≤ 20 := by simp at m20; omega
                have P20 := P17.mod h20.only.pre.1 (fun i e => by omega)
                have T20 := (T17.alloc _).trans h20
                clear h20 m20
                go_wp2_with fail
                refine ⟨⟨k + 1, _, _, at_ + step, _, by omega, by go_num, rfl, by omega, by omega, OK17, P20, T20.more (by omega)⟩, by simp [intOf]; omega⟩
              · go_wp2_with fail
                refine (center_Free _ gc mc ⟨key, kind, most', per', burst⟩ st P15.cen hwl hok now).mono ?_
                rintro e w16 ⟨rfl, hc16⟩
                obtain ⟨mc1, P16, o16⟩ := P15.cstep hc16
                have T16 := T15.mod o16 (fun i e => e)
                clear hc16 P15 T15 o16
                go_wp2_with fail
                refine (store_Free _ gs ms ⟨key, kind, most', per', burst⟩ st P16.sto hwl hok now).mono ?_
                rintro e w17 ⟨rfl, hd17⟩
                obtain ⟨ms1, P17, o17⟩ := P16.dstep hd17
                have T17 := T16.mod o17 (fun i e => e)
                clear hd17 P16 T16 o17
                have OK17 := freeC_ok hok hwl now
                go_wp2_with fail
                refine (pick_any [0, 0, 1, 5, 20] w.heap.size _ w17.heap.size 5 _ (T17.alloc _).inv (by omega) (Blk.new _ _ _) rfl (by omega) (by omega)).mono ?_
                rintro e w20 ⟨step, rfl, m20, h20⟩
                have hstep : 0 ≤ step ∧ step ≤ 20 := by simp at m20; omega
                have P20 := P17.mod h20.only.pre.1 (fun i e => by omega)
                have T20 := (T17.alloc _).trans h20
                clear h20 m20
                go_wp2_with fail
                refine ⟨⟨k + 1, _, _, at_ + step, _, by omega, by go_num, rfl, by omega, by omega, OK17, P20, T20.more (by omega)⟩, by simp [intOf]; omega⟩
          · obtain rfl : k = nn := by omega
            go_wp2_with fail
            refine (limited_true _).mono ?_
            rintro e w8 ⟨rfl, m8⟩
            go_wp2_with fail
            go_ret
            exact ⟨rfl, HN.out _ _ (TK.new m8)⟩

end Go.Proofs.Ytinnckbffblecaa
