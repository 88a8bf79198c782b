/- The program's replay. Conditions: limits and asks can be read, few of them, short names. -/
import Derived.Test.YtinnckbffblecaaGreatMeter3
import Derived.Test.YtinnckbffblecaaGreatRefReplay
import Derived.Test.YtinnckbffblecaaGreatInsert
namespace Go.Proofs.YtinnckbffblecaaGreat
open Go.RowKit
set_option linter.unusedVariables false
set_option linter.unusedSimpArgs false

theorem append_zero {P : Program} {t e : TypeId} (ht : P.underlying t = some (.slice e)) {i : TypeInfo} (hi : P.info? e = some i) (a b : Addr) (c : Nat) (ty : TypeId) (w : World) :
    (Builtin.append_ #[t, t] ty #[.slice (some a) 0 0, .slice (some b) 0 c]).run P w = .ok (.slice (some a) 0 0) w := by
  have hl := run_loadCells_list (P := P) w b [] (by simp)
  simp at hl
  simp [Builtin.append_, run_underlying ht, sizeOf, typeInfo, hi, Builtin.lenOf, Builtin.firstCells, hl, storeCells]

set_option maxHeartbeats 1000000 in
theorem clone_any (ls : List Lim) (A : Option Addr) (n c : Nat) (w : World) (hl : LimRows w A n ls) (hn : n < 1000) :
    Calls Tryz.prog 82 #[.slice A n c] w (RLims w n ls) := by
  by_cases h0 : 0 < n
  · obtain ⟨g, o, rfl, _⟩ := hl.2 h0
    exact clone_limits ls g o n c w hl h0 hn
  · obtain rfl : n = 0 := by omega
    obtain rfl : ls = [] := List.eq_nil_of_length_eq_zero hl.1
    have hq := fun w : World => Lib.run_eql_slice_nil (P := Tryz.prog) w 45 28 A 0 c 0 0 Tryz.underlying45
    clear hl
    cases A with
    | none =>
      simp at hq
      go_enter Tryz.func82, Tryz.ntmps82
      go_wp2_with fail
      go_ret
      exact ⟨none, 0, rfl, Own.nil, Mod.refl _ _⟩
    | some a =>
      simp at hq
      obtain ⟨i, z, hi0, _⟩ := einfo_lim
      have hown : Own (w.alloc (.cells #[] 28)) w.heap.size 28 5 Lim.enc (some ⟨w.heap.size, 0, none⟩) 0 0 ([] : List Lim) := Own.of_blk (xs := []) (Blk.new _ _ _) (Nat.le_refl _) rfl (by omega)
      have HO := Lib.hid hown
      have hap := fun ty => append_zero (P := Tryz.prog) Tryz.underlying45 hi0 ⟨w.heap.size, 0, none⟩ a c ty (w.alloc (.cells #[] 28))
      clear hown
      go_enter Tryz.func82, Tryz.ntmps82
      go_wp2_with (at_builtin; refine wpList_append_by2 rfl _ _ 45 45 rfl rfl rfl hap ?_)
      go_ret
      exact ⟨_, _, rfl, HO.out, (Mod.refl _ _).alloc _⟩

set_option maxHeartbeats 1000000 in
theorem new_meter2 (ls : List Lim) (A : Option Addr) (n c : Nat) (w : World) (hl : LimRows w A n ls) (hn : n < 1000) :
    Calls Tryz.prog 54 #[.slice A n c] w (RMeter0 w n ls) := by
  have hmm := @run_makeMap Tryz.prog
  go_enter Tryz.func54, Tryz.ntmps54
  go_wp2_with fail
  refine (clone_any ls A n c _ hl hn).mono ?_
  rintro e w1 ⟨A, cA, rfl, hown, hm⟩
  have hz := hm.size
  go_wp2_with fail
  go_ret
  refine ⟨w1.heap.size + 1, w1.heap.size, A, cA, by simp, by omega, by omega, (hown.alloc _).alloc _, Blk.new' _ _ (by simp), ?_, (hm.alloc _).alloc _⟩
  rw [Below.heap_alloc _ _ _ (by simp), heap_alloc_new]

def replF (ls : List Lim) (ks : List AskD) : Int := if limsFault ls ≠ 0 then limsFault ls else asksFault ks
theorem runC_drop {ls : List Lim} {ks : List AskD} {k : Nat} (hk : k < ks.length) (σ : List (ByteArray × List Ctr)) : runC ls (ks.drop k) σ = verdC ls (curC ls σ ks[k].who) ks[k] vd0 :: runC ls (ks.drop (k + 1)) (putC ls σ ks[k]) := by
  rw [List.drop_eq_getElem_cons hk, runC]

set_option maxRecDepth 100000 in
set_option maxHeartbeats 4000000 in
theorem limit_replay (Al Aa : Option Addr) (nl cl na ca : Nat) (ls : List Lim) (ks : List AskD) (w : World) (hl : LimRows w Al nl ls) (hks : AskRows w Aa na ks) (hnl : nl < 1000) (hna : na ≤ 1000) (hls : ∀ l ∈ ls, l.key.size ≤ maxLen) (hws : ∀ a ∈ ks, a.who.size ≤ maxLen) :
    Calls Tryz.prog 21 #[.slice Al nl cl, .slice Aa na ca] w (RVds w (if replF ls ks = 0 then runC ls ks [] else []) (replF ls ks)) := by
  have hlen := hks.1
  have hll := hl.1
  have hcl := limit_checkLimits ls Al nl cl w hl (by omega) hls
  have hca := fun W (hW : New w W) => limit_checkAsks ks Aa na ca W (hks.new hW) (by omega) hws
  by_cases h1 : limsFault ls = 0
  · have h1' : (limsFault ls != 0) = false := by simpa using h1
    have hrp : replF ls ks = asksFault ks := by unfold replF; rw [if_neg (by simpa using h1)]
    have hR := lims_right h1
    by_cases h2 : asksFault ks = 0
    · have h2' : (asksFault ks != 0) = false := by simpa using h2
      obtain ⟨_, hra, hst⟩ := asks_right h2
      rw [hrp, if_pos h2, h2]
      rw [h1] at hcl
      simp only [h2] at hca
      have HL := Lib.hid hl
      have HK := Lib.hid hks
      have HR := Lib.hid hR
      have HRA := Lib.hid hra
      have HS := Lib.hid hst
      have HLEN := Lib.hid hlen
      have HLL := Lib.hid hll
      have HWS := Lib.hid hws
      clear hl hks hR hra hst hlen hll h1 h2 h1' h2' hrp hls hws
      go_enter Tryz.func21, Tryz.ntmps21
      go_wp2_with fail
      refine hcl.mono ?_
      clear hcl
      rintro e w1 ⟨rfl, hm1⟩
      go_wp2_with fail
      refine (hca w1 hm1).mono ?_
      clear hca
      rintro e w2 ⟨rfl, hm2⟩
      go_wp2_with fail
      refine (new_meter2 ls Al nl cl w2 (HL.out.new (hm1.trans hm2)) hnl).mono ?_
      rintro e w3 ⟨gm, mb, A3, c3, rfl, hgm, hmb, hown3, hbm, hmap3, hm3⟩
      obtain rfl : ls.length = nl := HLL.out
      have hM0 : MeterAt w3 w2.heap.size gm mb A3 c3 ls 0 [] := ⟨⟨hgm, hmb⟩, hbm, hown3, MapOf.made hmap3, fun who s h => by simp [gget_nil] at h, fun a b s s' _ h => by simp [gget_nil] at h⟩
      have HM0 := Lib.hid hM0
      have hn03 : New w w3 := (hm1.trans hm2).trans hm3
      have HN03 := Lib.hid hn03
      have hzw := hm3.size
      have hz0 := (hm1.trans hm2).size
      have HB0 := Lib.hid hzw
      clear hM0 hn03 hown3 hbm hmap3 hm1 hm2 hm3
      go_wp2_with fail
      go_loopw [9, 11, 12, 13, 28] (fun o _ _ _ i wr => ∃ (k c : Nat) (A : Option Addr) (vs : List Vd) (σ : List (ByteArray × SubD)) (τ : Int), k ≤ na ∧ i = .int .i64 k ∧ o = .slice A k c ∧ Hid (VdOwn wr w3.heap.size A k c vs) ∧ Hid (MeterAt wr w2.heap.size gm mb A3 c3 ls τ σ) ∧ Hid (∀ a ∈ ks.drop k, τ ≤ a.at_) ∧ 0 ≤ τ ∧ σ.length ≤ k ∧ Hid (∀ who s, gget σ who = some s → CtrsOk ls τ k s.ds) ∧
        Hid (New w wr) ∧ w3.heap.size ≤ wr.heap.size ∧ Hid (runC ls ks [] = vs ++ runC ls (ks.drop k) (pureS σ))) (fun _ _ _ _ i _ => na - (intOf i).toNat)
      case atStart => exact ⟨0, 0, none, [], [], 0, Nat.zero_le _, rfl, rfl, Lib.hid Own.nil, HM0, Lib.hid (fun a ha => (HRA.out a (by simpa using ha)).2.at_.1), by omega, by simp, Lib.hid (fun who s h => by simp [gget_nil] at h), HN03, Nat.le_refl _, Lib.hid rfl⟩
      case round =>
        rename World => wr
        obtain ⟨k, c, A, vs, σ, τ, hk, rfl, rfl, HO, HMT, HT, hτ0, hsl, HOK, HN, hzr, HE⟩ := hrel
        by_cases hlt : k < na
        · obtain ⟨g, o, hA, htb, hc⟩ := (HK.out.new HN.out).2 (by omega)
          subst hA
          have hkl : k < ks.length := by have := HLEN.out; omega
          have c0 := hc k hkl 0 (by omega)
          have c1 := hc k hkl 1 (by omega)
          have c2 := hc k hkl 2 (by omega)
          have c3' := hc k hkl 3 (by omega)
          simp only [AskD.enc, Nat.add_zero] at c0 c1 c2 c3'
          have hgl := htb.lt
          obtain ⟨hra1, hra2⟩ := HRA.out ks[k] (List.getElem_mem _)
          have hws := HWS.out ks[k] (List.getElem_mem _)
          have hτ : τ ≤ ks[k].at_ := HT.out _ (by rw [List.drop_eq_getElem_cons hkl]; exact List.mem_cons_self)
          have hsuf : ∀ a ∈ ks.drop (k + 1), ks[k].at_ ≤ a.at_ := by
            have h1 := HS.out
            rw [← List.take_append_drop k ks, List.pairwise_append] at h1
            have h2 := h1.2.1
            rw [List.drop_eq_getElem_cons hkl] at h2
            exact (List.pairwise_cons.1 h2).1
          have HSUF := Lib.hid hsuf
          have HDR := Lib.hid (HE.out.trans (congrArg (vs ++ ·) (runC_drop hkl (pureS σ))))
          have hb1 : (0 : Int) ≤ k := by omega
          have hb2 : (k : Int) < na := by omega
          have hB0 := HB0.out
          have hask := fun ob : Obj => meter_ask gm mb w2.heap.size A3 c3 ls τ σ k ks[k] (wr.alloc ob) (HMT.out.new ((Mod.refl (fun _ => False) wr).alloc ob)) HR.out HOK.out (by omega) hτ0 hra1 hτ hws (by omega) (by omega) (by simp; omega)
          have hat0 := hra2.at_.1
          clear hc hsuf hra1 hra2
          generalize ks[k] = a at *
          obtain ⟨at_, who, cost, long⟩ := a
          simp only [AskD.val] at *
          generalize hvv : verdC ls (curC ls (pureS σ) who) ⟨at_, who, cost, long⟩ vd0 = v at *
          have HVV := Lib.hid hvv
          clear hvv
          go_wp2_with fail
          refine (hask _).mono ?_
          clear hask
          rintro e w5 ⟨rfl, σ', hM5, hpu, hok5, hsl5, hmd, hfr⟩
          rw [HVV.out]
          obtain ⟨ok, by_, wt⟩ := v
          simp only [Vd.val]
          have hnb : ∀ x, (x = gm ∨ x = mb ∨ SF σ x) → w2.heap.size ≤ x := fun x hx => by
            rcases hx with rfl | rfl | hx
            · exact HMT.out.b0.1
            · exact HMT.out.b0.2
            · exact (SF.tb HMT.out hx).1
          have hw5 : New w w5 := (HN.out.alloc _).step hmd (fun x hx e => by have := hnb x e; have := hz0; omega)
          have hty : ∀ (W : World) x, VdOwn W w3.heap.size A k c vs → blkOf A = some x → TB W x 57 := fun W x h hx => by
            rcases h.blk with ⟨h1, _⟩ | ⟨g', h1, _, ht⟩
            · rw [h1] at hx; cases hx
            · rw [h1] at hx; injection hx with hx; simp only at hx; subst hx; exact ht
          have hOa := HO.out.alloc (.cells #[.int .i64 at_, .string who, .int .i64 cost, .int .i64 long] 70)
          have hMa := HMT.out.new ((Mod.refl (fun _ => False) wr).alloc (.cells #[.int .i64 at_, .string who, .int .i64 cost, .int .i64 long] 70))
          have own5 : VdOwn w5 w3.heap.size A k c vs := hOa.mod hmd (fun x hx e => by
            obtain ⟨f1, f2, _, f4⟩ := hMa.far (hty _ x hOa hx) (by decide) (by decide) (by decide) (by decide) (by decide) (by decide) (by decide) (by decide)
            rcases e with e | e | e
            · exact f1 e.symm
            · exact f2 e.symm
            · exact f4 x e rfl)
          have hz5 : w3.heap.size ≤ w5.heap.size := by have := hmd.size; simp at this; omega
          have ownA : VdOwn ((w5.alloc (.cells #[.bool ok, .string by_, .int .i64 wt] 57)).alloc (.cells #[.bool ok, .string by_, .int .i64 wt] 57)) w3.heap.size A k c vs := (own5.alloc _).alloc _
          have blkA : Blk ((w5.alloc (.cells #[.bool ok, .string by_, .int .i64 wt] 57)).alloc (.cells #[.bool ok, .string by_, .int .i64 wt] 57)) (w5.heap.size + 1) 57 (encL 3 Vd.enc ⟨ok, by_, wt⟩).toArray := Blk.new' (w := w5.alloc (.cells #[.bool ok, .string by_, .int .i64 wt] 57)) _ _ (by simp)
          have hBB : w3.heap.size ≤ ((w5.alloc (.cells #[.bool ok, .string by_, .int .i64 wt] 57)).alloc (.cells #[.bool ok, .string by_, .int .i64 wt] 57)).heap.size := by simp; omega
          have HBB := Lib.hid hBB
          have HM5 := Lib.hid hM5
          have HOK5 := Lib.hid hok5
          have HW5 := Lib.hid hw5
          have HPU := Lib.hid hpu
          have HTY := Lib.hid hty
          clear hBB hM5 hok5 hw5 hpu hmd hfr hnb hty hOa hMa own5 c0 c1 c2 c3'
          go_wp2_with (at_builtin; refine wpList_push rfl _ _ _ rfl 32 Tryz.underlying49 einfo_vd rfl ownA ⟨ok, by_, wt⟩ (w5.heap.size + 1) rfl blkA (fun j hj => Vd.one _ j hj) (by omega) (by omega) HBB.out ?_; intro g9 cap9 w9 own9 hm9 hat9 hlt9)
          have hM9 : MeterAt w9 w2.heap.size gm mb A3 c3 ls at_ σ' := by
            have h1 := (HM5.out.new ((Mod.refl (fun _ => False) w5).alloc (.cells #[.bool ok, .string by_, .int .i64 wt] 57))).new ((Mod.refl (fun _ => False) (w5.alloc (.cells #[.bool ok, .string by_, .int .i64 wt] 57))).alloc (.cells #[.bool ok, .string by_, .int .i64 wt] 57))
            have hfa := fun x (hx : blkOf A = some x) => h1.far (HTY.out _ x ownA hx) (by decide) (by decide) (by decide) (by decide) (by decide) (by decide) (by decide) (by decide)
            exact h1.mod hm9 (fun e => (hfa _ e).1 rfl) (fun e => (hfa _ e).2.1 rfl) (fun x hx e => (hfa _ e).2.2.1 x hx rfl) (fun x hx e => (hfa _ e).2.2.2 x hx rfl)
          have hN9 : New w w9 := Own.push_mod (a := w) ownA ((HW5.out.alloc _).alloc _) hm9 (by omega)
          have hz9 : w3.heap.size ≤ w9.heap.size := by have := hm9.size; have := HBB.out; omega
          exact ⟨⟨k + 1, cap9, some ⟨g9, 0, none⟩, vs ++ [⟨ok, by_, wt⟩], σ', at_, by omega, by go_num, rfl, Lib.hid own9, Lib.hid hM9, HSUF, by omega, by omega, HOK5, Lib.hid hN9, hz9, Lib.hid (by
            rw [HDR.out, HPU.out]
            simp [HVV.out])⟩, by simp [intOf]; omega⟩
        · obtain rfl : k = na := by omega
          have h1 := HE.out
          rw [List.drop_of_length_le (by have := HLEN.out; omega), runC, List.append_nil] at h1
          have HE2 := Lib.hid h1
          have HVL := Lib.hid HO.out.1
          clear h1
          go_wp2_with fail
          go_ret2
          exact ⟨A, c, by rw [HE2.out, HVL.out]; rfl, by rw [HE2.out, HVL.out]; exact HO.out.sl, HN.out⟩
    · have h2' : (asksFault ks != 0) = true := by simpa using h2
      rw [hrp, if_neg h2]
      rw [h1] at hcl
      have HNE := Lib.hid h2
      clear hrp h1 h1' h2
      generalize asksFault ks = F at *
      go_enter Tryz.func21, Tryz.ntmps21
      go_wp2_with fail
      refine hcl.mono ?_
      clear hcl
      rintro e w1 ⟨rfl, hm1⟩
      go_wp2_with fail
      refine (hca w1 hm1).mono ?_
      clear hca
      rintro e w2 ⟨rfl, hm2⟩
      go_wp2_with fail
      go_ret2
      exact ⟨none, 0, rfl, Sl.nil, hm1.trans hm2⟩
  · have h1' : (limsFault ls != 0) = true := by simpa using h1
    have hrp : replF ls ks = limsFault ls := by unfold replF; rw [if_pos (by simpa using h1)]
    rw [hrp, if_neg h1]
    clear hrp h1 hca
    generalize limsFault ls = F at *
    go_enter Tryz.func21, Tryz.ntmps21
    go_wp2_with fail
    refine hcl.mono ?_
    clear hcl
    rintro e w1 ⟨rfl, hm1⟩
    go_wp2_with fail
    go_ret2
    exact ⟨none, 0, rfl, Sl.nil, hm1⟩

end Go.Proofs.YtinnckbffblecaaGreat
