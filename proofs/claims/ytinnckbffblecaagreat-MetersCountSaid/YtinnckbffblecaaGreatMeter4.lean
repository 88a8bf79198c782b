/- Meter: making one, what is left, asks that are refused with an error. Conditions: limits were checked or are few and short, modest numbers. -/
import Derived.Test.YtinnckbffblecaaGreatReplay
namespace Go.Proofs.YtinnckbffblecaaGreat
open Go.RowKit
set_option linter.unusedVariables false
set_option linter.unusedSimpArgs false

def RNewM (w : World) (n : Nat) (ls : List Lim) (e : Ending) (w' : World) : Prop :=
  (limsFault ls ≠ 0 ∧ e = .returned (.tuple #[.pointer none, .int .i64 (limsFault ls)]) ∧ New w w') ∨
  (limsFault ls = 0 ∧ ∃ gm mb A c, e = .returned (.tuple #[.pointer (some ⟨gm, 0, none⟩), .int .i64 0]) ∧ w.heap.size ≤ gm ∧ MeterAt w' w.heap.size gm mb A c ls 0 [] ∧ New w w')

set_option maxHeartbeats 1000000 in
theorem limit_newMeter (Al : Option Addr) (nl cl : Nat) (ls : List Lim) (w : World) (hl : LimRows w Al nl ls) (hnl : nl < 1000) (hls : ∀ l ∈ ls, l.key.size ≤ maxLen) :
    Calls Tryz.prog 29 #[.slice Al nl cl] w (RNewM w nl ls) := by
  have hcl := limit_checkLimits ls Al nl cl w hl (by omega) hls
  have hnm := fun W (hW : New w W) => new_meter2 ls Al nl cl W (hl.new hW) hnl
  have hll := hl.1
  by_cases h1 : limsFault ls = 0
  · have H1 := Lib.hid h1
    have HL := Lib.hid hll
    rw [h1] at hcl
    clear h1 hl hll
    go_enter Tryz.func29, Tryz.ntmps29
    go_wp2_with fail
    refine hcl.mono ?_
    clear hcl
    rintro e w1 ⟨rfl, hm1⟩
    go_wp2_with fail
    refine (hnm w1 hm1).mono ?_
    clear hnm
    rintro e w3 ⟨gm, mb, A3, c3, rfl, hgm, hmb, hown3, hbm, hmap3, hm3⟩
    have hz := hm1.size
    go_wp2_with fail
    go_ret2
    refine .inr ⟨H1.out, gm, mb, A3, c3, rfl, by omega, ?_, hm1.trans hm3⟩
    obtain rfl : ls.length = nl := HL.out
    exact ⟨⟨by omega, by omega⟩, hbm, hown3.less hz, MapOf.made hmap3, fun who s h => by simp [gget_nil] at h, fun a b s s' _ h => by simp [gget_nil] at h⟩
  · have h1' : (limsFault ls != 0) = true := by simpa using h1
    have H1 := Lib.hid h1
    clear h1 hl hnm
    go_enter Tryz.func29, Tryz.ntmps29
    go_wp2_with fail
    refine hcl.mono ?_
    clear hcl
    rintro e w1 ⟨rfl, hm1⟩
    go_wp2_with fail
    go_ret2
    exact .inl ⟨H1.out, rfl, hm1⟩

/-- what each limit would let in at once -/
def leftL (ls : List Lim) (cs : List Ctr) (t : Int) : List Int := List.zipWith (fun l c => max 0 (mostC l c t)) ls cs
theorem leftL_take {ls : List Lim} {cs : List Ctr} {t : Int} {k : Nat} (h1 : k < ls.length) (h2 : k < cs.length) : (leftL ls cs t).take (k + 1) = (leftL ls cs t).take k ++ [max 0 (mostC ls[k] cs[k] t)] := by
  have hl : k < (leftL ls cs t).length := by simp [leftL]; omega
  rw [List.take_succ_eq_append_getElem hl]
  simp [leftL]
def leftF (now t : Int) (who : ByteArray) : Int := if isMoment t then (if isKey who then (if t < now then 7 else 0) else 5) else 1
def RLeft (w : World) (B gm mb : Nat) (Al : Option Addr) (cl : Nat) (ls : List Lim) (now : Int) (σ : List (ByteArray × SubD)) (t : Int) (who : ByteArray) (e : Ending) (w' : World) : Prop :=
  (leftF now t who ≠ 0 ∧ e = .returned (.tuple #[.slice none 0 0, .int .i64 (leftF now t who)]) ∧ New w w') ∨
  (leftF now t who = 0 ∧ ∃ A n c, e = .returned (.tuple #[.slice A n c, .int .i64 0]) ∧ IntSl w' A n (leftL ls (curC ls (pureS σ) who) t) ∧ MeterAt w' B gm mb Al cl ls t σ ∧ Only gm w w')

theorem meter_timeFault2 (gm : Nat) (cs0 cs2 : Value) (now at_ : Int) (w : World) (hb : Blk w gm 113 #[cs0, .int .i64 now, cs2]) (h : at_ < now) :
    Calls Tryz.prog 61 #[.pointer (some ⟨gm, 0, none⟩), .int .i64 at_] w fun e w' => e = .returned (.int .i64 7) ∧ w = w' := by
  have c1 := hb.cell 1
  simp at c1
  go_enter Tryz.func61, Tryz.ntmps61
  go_wp2_with fail
  go_ret
  exact ⟨rfl, rfl⟩

set_option maxRecDepth 100000 in
set_option maxHeartbeats 2000000 in
theorem meter_left (gm mb B : Nat) (Al : Option Addr) (cl : Nat) (ls : List Lim) (now : Int) (σ : List (ByteArray × SubD)) (k : Nat) (t : Int) (who : ByteArray) (w : World)
    (hM : MeterAt w B gm mb Al cl ls now σ) (hR : ∀ l ∈ ls, RLim' l) (hok : ∀ who s, gget σ who = some s → CtrsOk ls now k s.ds) (hk : k ≤ 1000) (hnow : 0 ≤ now) (hws : who.size ≤ maxLen) (hn : ls.length ≤ 1000) (hB : B ≤ w.heap.size) :
    Calls Tryz.prog 32 #[.pointer (some ⟨gm, 0, none⟩), .int .i64 t, .string who] w (RLeft w B gm mb Al cl ls now σ t who) := by
  have hgml := hM.blk.lt
  cases hm : isMoment t with
  | false =>
    have HF : Hid (leftF now t who = 1) := Lib.hid (by unfold leftF; simp [hm])
    go_enter Tryz.func32, Tryz.ntmps32
    go_wp2_with fail
    refine (kit_isMoment _ _).mono ?_
    rintro e w1 ⟨rfl, rfl⟩
    go_wp2_with fail
    go_ret2
    exact .inl ⟨by rw [HF.out]; decide, by rw [HF.out]; rfl, Mod.refl _ _⟩
  | true =>
    have hmt : 0 ≤ t ∧ t < 345686400000 := by unfold isMoment at hm; simpa using hm
    cases hke : isKey who with
    | false =>
      have HF : Hid (leftF now t who = 5) := Lib.hid (by unfold leftF; simp [hm, hke])
      go_enter Tryz.func32, Tryz.ntmps32
      go_wp2_with fail
      refine (kit_isMoment _ _).mono ?_
      rintro e w1 ⟨rfl, rfl⟩
      go_wp2_with fail
      refine (kit_isKey _ _ hws).mono ?_
      rintro e w1 ⟨rfl, rfl⟩
      go_wp2_with fail
      go_ret2
      exact .inl ⟨by rw [HF.out]; decide, by rw [HF.out]; rfl, Mod.refl _ _⟩
    | true =>
      by_cases hlt : t < now
      · have HF : Hid (leftF now t who = 7) := Lib.hid (by unfold leftF; simp [hm, hke, hlt])
        have htf := meter_timeFault2 gm _ _ now t w hM.blk hlt
        go_enter Tryz.func32, Tryz.ntmps32
        go_wp2_with fail
        refine (kit_isMoment _ _).mono ?_
        rintro e w1 ⟨rfl, rfl⟩
        go_wp2_with fail
        refine (kit_isKey _ _ hws).mono ?_
        rintro e w1 ⟨rfl, rfl⟩
        go_wp2_with fail
        refine htf.mono ?_
        clear htf
        rintro e w1 ⟨rfl, rfl⟩
        go_wp2_with fail
        go_ret2
        exact .inl ⟨by rw [HF.out]; decide, by rw [HF.out]; rfl, Mod.refl _ _⟩
      · have HF : Hid (leftF now t who = 0) := Lib.hid (by unfold leftF; simp [hm, hke, hlt])
        have htf := meter_timeFault gm _ _ now t w hM.blk (by omega)
        have hM1 := hM.setNow t
        have hbl := hM.blk
        have g1 := hbl.cell 1
        have fg := hbl.frozen 1
        simp at g1
        have HM1 := Lib.hid hM1
        have HR := Lib.hid hR
        have HOK := Lib.hid hok
        have m1 : Only gm w (w.setCell ⟨gm, 1, none⟩ (.int .i64 t)) := Mod.setCell (S := fun k => k = gm) (p := ⟨gm, 1, none⟩) (Mod.refl _ _) (.inl rfl) _
        have hcs := meter_counters gm mb B Al ls.length cl (.int .i64 t) ls σ who (w.setCell ⟨gm, 1, none⟩ (.int .i64 t)) hM1.blk hM1.lims.sl hM1.map hR hn (by have := m1.size; omega)
        have HMO := Lib.hid m1
        clear hM hM1 hbl hR hok m1
        go_enter Tryz.func32, Tryz.ntmps32
        go_wp2_with fail
        refine (kit_isMoment _ _).mono ?_
        rintro e w1 ⟨rfl, rfl⟩
        go_wp2_with fail
        refine (kit_isKey _ _ hws).mono ?_
        rintro e w1 ⟨rfl, rfl⟩
        go_wp2_with fail
        refine htf.mono ?_
        clear htf
        rintro e w1 ⟨rfl, rfl⟩
        go_wp2_with fail
        generalize w.setCell ⟨gm, 1, none⟩ (.int .i64 t) = w1 at *
        refine hcs.mono ?_
        clear hcs
        rintro e w2 ⟨s, rfl, hm3, hs⟩
        have hM2 := HM1.out.new hm3
        have hsat : SubAt w2 B ls s ∧ CtrsOk ls now k s.ds ∧ curC ls (pureS σ) who = s.ds.map CtrD.c := by
          rw [curC_pure]
          rcases hs with hs | ⟨h1, h2, h3, h4⟩
          · exact ⟨hM2.subs who s hs, HOK.out who s hs, by rw [hs]; rfl⟩
          · exact ⟨h2, ctrsOk_later (ctrsOk_new HR.out h3) hnow (by omega), by rw [h1]; exact h3.symm⟩
        obtain ⟨hsub, hcok, hcur⟩ := hsat
        have hdl := hsub.ctrs.len
        have HSUB := Lib.hid hsub
        have HCOK := Lib.hid hcok
        have HCUR := Lib.hid hcur
        have HDL := Lib.hid hdl
        have HM2 := Lib.hid hM2
        have HM3 := Lib.hid hm3
        simp only [SubD.val]
        clear hs hsub hcok hcur hdl hM2 hm3 g1 fg
        go_wp2_with fail
        go_loopw [11, 13, 38] (fun o _ i wr => ∃ (j c : Nat) (A : Option Addr), j ≤ ls.length ∧ i = .int .i64 j ∧ o = .slice A j c ∧ Hid (IntOwn wr w2.heap.size A j c ((leftL ls (s.ds.map CtrD.c) t).take j)) ∧ Hid (New w2 wr)) (fun _ _ i _ => ls.length - (intOf i).toNat)
        case atStart => exact ⟨0, 0, none, Nat.zero_le _, rfl, rfl, Lib.hid Own.nil, Lib.hid (Mod.refl _ _)⟩
        case round =>
          rename World => wr
          obtain ⟨j, c, A, hj, rfl, rfl, HO, HNR⟩ := hrel
          by_cases hjl : j < ls.length
          · have hjd : j < s.ds.length := by rw [HDL.out]; exact hjl
            obtain ⟨g2, o2, hA2, ht2, hc2⟩ := (HSUB.out.own.sl.new HNR.out).2 (by omega)
            have d0 := hc2 j (by simpa using hjd) 0 (by omega)
            simp only [List.getElem_map, Nat.add_zero, Nat.mul_one, valEnc] at d0
            obtain ⟨fm, mm, hcall⟩ := ctr_most ls[j] s.ds[j] wr B ((HSUB.out.ctrs.each j hjl hjd).new HNR.out) (HR.out _ (List.getElem_mem hjl)) (t := t) (HCOK.out j hjl hjd) (by omega) (by omega) hmt.1 (by omega)
            obtain ⟨mm1, mm2, mm3⟩ := mm
            have hcall := hcall wr (Mod.refl _ _)
            have HTK := Lib.hid (leftL_take (ls := ls) (cs := s.ds.map CtrD.c) (t := t) hjl (by simpa using hjd))
            have hgl2 := ht2.lt
            have hb1 : (0 : Int) ≤ j := by omega
            have hb2 : (j : Int) < ls.length := by omega
            simp only [List.getElem_map] at HTK
            have hzn := HNR.out.size
            clear hc2
            generalize s.ds[j] = d at *
            generalize mostC ls[j] d.c t = X at *
            simp only [CtrD.val] at d0
            rw [hA2]
            go_wp2_with fail
            refine hcall.mono ?_
            clear hcall mm1 mm2 mm3
            rintro e w5 ⟨rfl, hm5⟩
            have ownA : IntOwn (w5.alloc (.cells #[.int .i64 (max 0 X)] 3)) w2.heap.size A j c ((leftL ls (s.ds.map CtrD.c) t).take j) := (HO.out.new hm5).alloc _
            have blkA : Blk (w5.alloc (.cells #[.int .i64 (max 0 X)] 3)) w5.heap.size 3 (encL 1 intEnc (max 0 X)).toArray := Blk.new _ _ _
            have hBB : w2.heap.size ≤ (w5.alloc (.cells #[.int .i64 (max 0 X)] 3)).heap.size := by have := hm5.size; simp; omega
            have HBB := Lib.hid hBB
            clear hBB
            go_wp2_with (at_builtin; refine wpList_push rfl _ _ _ rfl 8 Tryz.underlying22 einfo_int rfl ownA (max 0 X) w5.heap.size rfl blkA (fun _ _ => rfl) (by omega) (by omega) HBB.out ?_; intro g9 cap9 w9 own9 hm9 hat9 hlt9)
            have hmw : New w2 w9 := Own.push_mod (a := w2) ownA ((HNR.out.trans hm5).alloc _) hm9 (Nat.le_refl _)
            exact ⟨⟨j + 1, cap9, some ⟨g9, 0, none⟩, by omega, by go_num, rfl, Lib.hid (by rw [HTK.out]; exact own9), Lib.hid hmw⟩, by simp [intOf]; omega⟩
          · obtain rfl : j = ls.length := by omega
            have hll : (leftL ls (s.ds.map CtrD.c) t).length = ls.length := by simp [leftL, HDL.out]
            have hO2 := HO.out
            rw [List.take_of_length_le (by omega)] at hO2
            have HO2 := Lib.hid hO2
            clear hll hO2
            go_wp2_with fail
            go_ret2
            refine .inr ⟨HF.out, A, _, c, rfl, ?_, HM2.out.new HNR.out, (HMO.out.trans (HM3.out.mono (fun _ _ e => e.elim))).trans (HNR.out.mono (fun _ _ e => e.elim))⟩
            rw [HCUR.out]
            exact HO2.out.sl

end Go.Proofs.YtinnckbffblecaaGreat
