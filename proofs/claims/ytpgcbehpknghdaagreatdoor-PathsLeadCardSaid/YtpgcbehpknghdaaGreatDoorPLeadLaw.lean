/- The law PathsLead, walked. Conditions: the argument is a slice of ints that can be read; the library's tables lie as they should. -/
import Derived.Test.YtpgcbehpknghdaaGreatDoorPth0
import Derived.Test.YtpgcbehpknghdaaGreatDoorStepFrGrp
import Derived.Test.YtpgcbehpknghdaaGreatDoorStepTxGrp
import Derived.Test.YtpgcbehpknghdaaGreatDoorLeavesCGrp
import Derived.Test.YtpgcbehpknghdaaGreatDoorGetV
import Derived.Test.YtpgcbehpknghdaaGreatDoorChgRunGrp
namespace Go.Proofs.YtpgcbehpknghdaaGreatDoor
open Go.RowKit
set_option linter.unusedVariables false
set_option linter.unusedSimpArgs false

theorem nil_fits (d : Nat) : Fit (d + 1) nilV := by
  refine ⟨?_, Nat.zero_le _, Nat.zero_le _, by show (⟨#[]⟩ : ByteArray).size ≤ 100000; decide, fun x hx => by simp [nilV, VT.list] at hx, fun x hx => by simp [nilV, VT.mem] at hx⟩
  have : vW (d + 1) nilV = 40 := rfl
  omega
theorem eqV_self (v : VT) : eqV v v = true := (eqV_iff v v).2 rfl
/-- what both answers say of a path, with a value in any case -/
def isP (v : VT) (ps : List St) : Bool := (getP v ps).isSome
def atP (v : VT) (ps : List St) : VT := (getP v ps).getD nilV
def atD (d n : Nat) (v : VT) (ps : List St) : Nat := if isP v ps = true then d - n else 1
theorem RGets.all {w : World} {d n : Nat} {v : VT} {ps : List St} {f : Int} {e : Ending} {w' : World} (h : RGets w d n v ps f e w') :
    ∃ (y : VA) (b : Bool), e = .returned (.tuple #[y.val, .bool b, .int .i64 f]) ∧ New w w' ∧ (f ≠ 0 → b = false) ∧ (f = 0 → b = isP v ps ∧ Tree w' (fun _ => True) (atD d n v ps) y (atP v ps) ∧ Fit (atD d n v ps) (atP v ps)) := by
  obtain ⟨hm, ⟨h1, rfl⟩ | ⟨rfl, h2, rfl⟩ | ⟨rfl, u, y, h2, rfl, h3, h4⟩⟩ := h
  · exact ⟨nilVA, false, rfl, hm, fun _ => rfl, fun h => absurd h h1⟩
  · have e1 : isP v ps = false := by unfold isP; rw [h2]; rfl
    have e2 : atP v ps = nilV := by unfold atP; rw [h2]; rfl
    have e3 : atD d n v ps = 0 + 1 := by unfold atD; rw [e1]; rfl
    refine ⟨nilVA, false, rfl, hm, fun _ => rfl, fun _ => ⟨e1.symm, ?_, ?_⟩⟩
    · rw [e2, e3]; exact nil_tree _ _ _
    · rw [e2, e3]; exact nil_fits _
  · have e1 : isP v ps = true := by unfold isP; rw [h2]; rfl
    have e2 : atP v ps = u := by unfold atP; rw [h2]; rfl
    have e3 : atD d n v ps = d - n := by unfold atD; rw [e1]; rfl
    refine ⟨y, true, rfl, hm, fun h => absurd rfl h, fun _ => ⟨e1.symm, ?_, ?_⟩⟩
    · rw [e2, e3]; exact h3
    · rw [e2, e3]; exact h4
theorem RGetA.all {w : World} {d n : Nat} {v : VT} {ps : List St} {e : Ending} {w' : World} (h : RGetA (fun _ => True) d n v ps w e w') :
    ∃ (y : VA), e = .returned (.tuple #[y.val, .bool (isP v ps)]) ∧ New w w' ∧ Tree w' (fun _ => True) (atD d n v ps) y (atP v ps) := by
  rcases h with ⟨h2, rfl, hm⟩ | ⟨u, y, h2, rfl, h3, hm⟩
  · have e1 : isP v ps = false := by unfold isP; rw [h2]; rfl
    have e2 : atP v ps = nilV := by unfold atP; rw [h2]; rfl
    have e3 : atD d n v ps = 0 + 1 := by unfold atD; rw [e1]; rfl
    rw [e1, e2, e3]
    exact ⟨nilVA, rfl, hm, nil_tree _ _ _⟩
  · have e1 : isP v ps = true := by unfold isP; rw [h2]; rfl
    have e2 : atP v ps = u := by unfold atP; rw [h2]; rfl
    have e3 : atD d n v ps = d - n := by unfold atD; rw [e1]; rfl
    rw [e1, e2, e3]
    exact ⟨y, rfl, hm, h3⟩
theorem pathRd_len : ∀ (f : Nat) (out : List St) (a : Nat) (l : List UInt8), (pathRd f out a l).1.length ≤ 50
  | 0, _, _, _ => by simp [pathRd]
  | f + 1, out, a, [] => by
    rw [pathRd]
    split
    · simp
    · rename_i h
      exact (pathF_fit (Decidable.not_not.1 h)).1
  | f + 1, out, a, c :: r => by
    rw [pathRd]
    split
    · simp
    · exact pathRd_len f _ _ _
theorem pathOf_len (s : ByteArray) : (pathOf s).1.length ≤ 50 := by
  unfold pathOf
  split
  · simp
  · exact pathRd_len _ _ _ _
theorem getsF_or (d : Nat) (v : VT) (ps : List St) : getsF d v ps = orF (vCheck d v) (pathF ps) := rfl
set_option maxRecDepth 100000 in
set_option maxHeartbeats 2000000 in
theorem pathsLead_walk (A : Option Addr) (n c : Nat) (w : World) (h : InInts w A n) (hT0 : Pow10 w) (hU0 : Utf8T w) :
    Calls Tryz.prog 3 #[.slice A n c] w fun e w' => e = .returned (.bool true) ∧ New w w' := by
  have hs := SInv.start (c := c) h
  have hA : New w (w.alloc (.cells #[.slice A n c, .int .i64 0] 25)) := (Mod.refl _ _).alloc _
  have HTA := Lib.hid (hT0.new hA)
  have HUA := Lib.hid (hU0.new hA)
  have HT0 := Lib.hid hT0
  have HU0 := Lib.hid hU0
  have hv3 := stream_val 3 (by omega) w.heap.size 0 _ hs (by omega)
  go_enter Tryz.func3, Tryz.ntmps3
  go_wp2_with fail
  refine hv3.mono ?_
  clear hv3
  rintro e w1 ⟨x, rfl, hax, h1⟩
  have HP1 := Lib.hid (HT0.out.mod HTA.out h1.only (fun g hg e => by omega))
  have HU1 := Lib.hid (HU0.out.mod HUA.out h1.only (fun g hg e => by omega))
  generalize hW0 : w.alloc (.cells #[.slice A n c, .int .i64 0] 25) = W0 at *
  have hnews : ∀ w' k, SStep w.heap.size W0 w' k → New w w' := fun w' k hh => by rw [← hW0] at hh; exact hh.news
  have HN := Lib.hid hnews
  have hzW : W0.heap.size = w.heap.size + 1 := by rw [← hW0]; simp
  have hz1 : W0.heap.size ≤ w1.heap.size := h1.only.size
  have hsw : w.heap.size ≤ w.heap.size := Nat.le_refl _
  generalize hsb : w.heap.size = sb at *
  obtain ⟨va, a1, a2, a3⟩ := hax
  clear hnews hW0 hs hA h hT0 hU0 HTA HUA
  have hps := pathString_any sb _ w1 w h1.inv (by omega) HT0.out (by omega) HP1.out
  go_wp2_with fail
  refine hps.mono ?_
  clear hps
  rintro e w2 ⟨s, rfl, hss, h2⟩
  have HT2 := Lib.hid (h1.trans h2)
  have HP2 := Lib.hid (HT0.out.mod HP1.out h2.only (fun g hg e => by omega))
  have HU2 := Lib.hid (HU0.out.mod HU1.out h2.only (fun g hg e => by omega))
  have HY2 := Lib.hid (a1.any.stream h2 h1.inv.tb)
  have hz2 : W0.heap.size ≤ w2.heap.size := Nat.le_trans hz1 h2.only.size
  clear h1 h2 HP1 HU1 a1
  obtain ⟨xk, xf, xn, xw, xla, xln, xlc, xma, xmn, xmc⟩ := x
  have bA := Blk.new w2 29 #[.int .i64 xk, .bool xf, .int .i64 xn, .string xw, .slice xla xln xlc, .slice xma xmn xmc]
  have mA : New w2 (w2.alloc (.cells #[.int .i64 xk, .bool xf, .int .i64 xn, .string xw, .slice xla xln xlc, .slice xma xmn xmc] 29)) := (Mod.refl _ _).alloc _
  go_upto_region 3 with (fail)
  have HA3 := Lib.hid bA
  have HT3 := Lib.hid (HT2.out.new mA)
  have HP3 := Lib.hid (HP2.out.new mA)
  have HU3 := Lib.hid (HU2.out.new mA)
  have HY3 := Lib.hid (HY2.out.new mA)
  generalize w2.alloc (.cells #[.int .i64 xk, .bool xf, .int .i64 xn, .string xw, .slice xla xln xlc, .slice xma xmn xmc] 29) = w3 at *
  generalize w2.heap.size = ab at *
  have HFA : Hid (Fit 60 va) := Lib.hid ⟨Nat.le_trans a2 (by omega), Wide.mono (by omega) _ _ a3⟩
  have HLW := Lib.hid a2
  have HWD := Lib.hid a3
  clear bA mA HT2 HP2 HU2 HY2 a2 a3
  have hpt := stream_path sb _ w3 HT3.out.inv (by omega)
  go_wp2_with fail
  refine hpt.mono ?_
  clear hpt
  rintro e w4 ⟨⟨pa, pn, pc⟩, rfl, hpk, -, h4⟩
  have HA := Lib.hid (HA3.out.mod h4.only (by omega))
  have HYA := Lib.hid (HY3.out.stream h4 HT3.out.inv.tb)
  have HT := Lib.hid (HT3.out.trans h4)
  have HP := Lib.hid (HT0.out.mod HP3.out h4.only (fun g hg e => by omega))
  have HU := Lib.hid (HU0.out.mod HU3.out h4.only (fun g hg e => by omega))
  have HPK := Lib.hid (hpk.le (show 4 ≤ 64 by omega))
  clear HA3 HT3 HP3 HU3 HY3 hpk h4
  generalize hFA : vCheck 60 va = FA at *
  have HFAE := Lib.hid hFA
  clear hFA
  go_upto_region 4 with (fail)
  go_cut [37] (fun s37 wx => ∃ bo : Bool, s37 = .bool bo ∧ Hid (Blk wx ab 29 #[.int .i64 xk, .bool xf, .int .i64 xn, .string xw, .slice xla xln xlc, .slice xma xmn xmc]) ∧ Hid (Tree wx (fun _ => True) 60 ⟨xk, xf, xn, xw, xla, xln, xlc, xma, xmn, xmc⟩ va) ∧ Hid (PthOk wx 64 ⟨pa, pn, pc⟩) ∧ Hid (Pow10 wx) ∧ Hid (Utf8T wx) ∧ Hid (SStep sb W0 wx 10000))
  case first =>
    have q1 := valueFault_v 60 _ va _ w4 HYA.out HFA.out (by omega) HU.out
    rw [HFAE.out] at q1
    have hxx := HA.out
    have e0 := hxx.cell 0
    have e1 := hxx.cell 1
    have e2 := hxx.cell 2
    have e3 := hxx.cell 3
    have e4 := hxx.cell 4
    have e5 := hxx.cell 5
    have el := hxx.lt
    simp only [List.getElem?_toArray, List.getElem?_cons_zero, List.getElem?_cons_succ] at e0 e1 e2 e3 e4 e5
    clear hxx
    go_wp2_with fail
    refine q1.mono ?_
    clear q1
    rintro e w5 ⟨rfl, m5⟩
    clear e0 e1 e2 e3 e4 e5 el
    have HA5 := Lib.hid (HA.out.mod m5 (fun e => e))
    have HY5 := Lib.hid (HYA.out.new m5)
    have HT5 := Lib.hid (HT.out.new m5)
    have HP5 := Lib.hid (HP.out.new m5)
    have HU5 := Lib.hid (HU.out.new m5)
    have HK5 := Lib.hid (HPK.out.new m5)
    clear HA HYA HT HP HU HPK m5
    by_cases h0 : FA = 0
    · have h0b : (FA == 0) = true := by simpa using h0
      have hfl := flip_any sb _ 2 w5 HT5.out.inv (by omega) (by omega) (by omega)
      clear h0
      go_wp2_with fail
      refine hfl.mono ?_
      clear hfl
      rintro e w6 ⟨bo, rfl, h6⟩
      have htb := HT5.out.inv.tb
      have HA6 := Lib.hid (HA5.out.mod h6.only (by omega))
      have HY6 := Lib.hid (HY5.out.stream h6 htb)
      have HT6 := Lib.hid (HT5.out.trans h6)
      have HP6 := Lib.hid (HT0.out.mod HP5.out h6.only (fun g hg e => by omega))
      have HU6 := Lib.hid (HU0.out.mod HU5.out h6.only (fun g hg e => by omega))
      have HK6 := Lib.hid (HK5.out.stream h6 htb)
      clear HA5 HY5 HT5 HP5 HU5 HK5 h6 htb
      go_wp2_with fail
      go_meet
      case rel => exact ⟨bo, rfl, HA6, HY6, HK6, HP6, HU6, Lib.hid (HT6.out.more (by omega))⟩
    · have h0b : (FA == 0) = false := by simpa using h0
      clear h0
      go_wp2_with fail
      go_meet
      case rel => exact ⟨false, rfl, HA5, HY5, HK5, HP5, HU5, Lib.hid (HT5.out.more (by omega))⟩
  case rest =>
    rename World => w5
    clear HA HYA HT HP HU HPK
    obtain ⟨bo, rfl, HA, HYA, HPK, HP, HU, HT⟩ := hcut
    go_upto_if 37 with (fail)
    go_cut [6] (fun s6 wx => ∃ (pa : Option Addr) (pn pc : Nat), s6 = .slice pa pn pc ∧ Hid (Blk wx ab 29 #[.int .i64 xk, .bool xf, .int .i64 xn, .string xw, .slice xla xln xlc, .slice xma xmn xmc]) ∧ Hid (Tree wx (fun _ => True) 60 ⟨xk, xf, xn, xw, xla, xln, xlc, xma, xmn, xmc⟩ va) ∧ Hid (PthOk wx 64 ⟨pa, pn, pc⟩) ∧ Hid (Pow10 wx) ∧ Hid (Utf8T wx) ∧ Hid (SStep sb W0 wx 20000))
    case first =>
      cases bo with
      | true =>
        have hpt := stream_pathTo 60 sb _ ⟨xk, xf, xn, xw, xla, xln, xlc, xma, xmn, xmc⟩ va w5 HT.out.inv (by omega) HYA.out (Wide.mono (by omega) _ _ HWD.out) HLW.out (by omega)
        have hxx := HA.out
        have e0 := hxx.cell 0
        have e1 := hxx.cell 1
        have e2 := hxx.cell 2
        have e3 := hxx.cell 3
        have e4 := hxx.cell 4
        have e5 := hxx.cell 5
        have el := hxx.lt
        simp only [List.getElem?_toArray, List.getElem?_cons_zero, List.getElem?_cons_succ] at e0 e1 e2 e3 e4 e5
        clear hxx
        go_wp2_with fail
        refine hpt.mono ?_
        clear hpt
        clear e0 e1 e2 e3 e4 e5 el
        rintro e w6 ⟨⟨qa, qn, qc⟩, rfl, hpk, h6⟩
        have htb := HT.out.inv.tb
        have HA6 := Lib.hid (HA.out.mod h6.only (by omega))
        have HY6 := Lib.hid (HYA.out.stream h6 htb)
        have HT6 := Lib.hid (HT.out.trans h6)
        have HP6 := Lib.hid (HT0.out.mod HP.out h6.only (fun g hg e => by omega))
        have HU6 := Lib.hid (HU0.out.mod HU.out h6.only (fun g hg e => by omega))
        have HK6 := Lib.hid hpk
        clear HA HYA HT HP HU HPK h6 htb hpk
        go_wp2_with fail
        go_meet
        case rel => exact ⟨qa, qn, qc, rfl, HA6, HY6, HK6, HP6, HU6, Lib.hid (HT6.out.more (by omega))⟩
      | false =>
        go_wp2_with fail
        go_meet
        case rel => exact ⟨pa, pn, pc, rfl, HA, HYA, HPK, HP, HU, Lib.hid (HT.out.more (by omega))⟩
    case rest =>
      rename World => wB
      clear HA HYA HT HP HU HPK
      clear pa pn pc
      obtain ⟨pa, pn, pc, rfl, HA, HYA, HPK, HP, HU, HT⟩ := hcut
      obtain ⟨ps, q1, q2, -, -, q5⟩ := HPK.out
      simp only at q1 q2
      have HKA := Lib.hid (fun W (h : New wB W) => HA.out.mod h (fun e => e))
      have HKT := Lib.hid (fun W (h : New wB W) => HYA.out.new h)
      have HKS := Lib.hid (fun W (h : New wB W) => q1.new h)
      have HKP := Lib.hid (fun W (h : New wB W) => HP.out.new h)
      have HKU := Lib.hid (fun W (h : New wB W) => HU.out.new h)
      have HKN := Lib.hid (fun W (h : New wB W) => HN.out _ _ (HT.out.new h))
      have HOK : Hid (StOk ps) := Lib.hid (fun s hs => Nat.le_trans (q5 s hs) (by omega))
      have HM : Hid (New wB wB) := Lib.hid (Mod.refl _ _)
      have hpl := q1.1
      clear HA HYA HPK HP HU HT HN HT0 HU0 q1 q5
      obtain ⟨FP, hFP⟩ : ∃ F, pathF ps = F := ⟨_, rfl⟩
      have HFPE := Lib.hid hFP
      clear hFP
      have HPF := Lib.hid (fun W (h : New wB W) => by have q := pathFault_v pa pn pc ps W (HKS.out _ h) (by omega) HOK.out (HKU.out _ h); rw [HFPE.out] at q; exact q)
      have HVF := Lib.hid (fun W (h : New wB W) => by have q := valueFault_v 60 _ va _ W (HKT.out _ h) HFA.out (by omega) (HKU.out _ h); rw [HFAE.out] at q; exact q)
      go_upto_region 6 with (fail)
      go_cut [7, 8] (fun s7 s8 wx => s7 = .int .i64 FP ∧ s8 = .int .i64 FA ∧ Hid (New wB wx))
      case first =>
        rename_i cJ cK cR cM
        have HSL : Hid (∀ W, New wB W → W.cell? ⟨ab, 0, none⟩ = some (.int .i64 xk) ∧ W.cell? ⟨ab, 1, none⟩ = some (.bool xf) ∧ W.cell? ⟨ab, 2, none⟩ = some (.int .i64 xn) ∧ W.cell? ⟨ab, 3, none⟩ = some (.string xw) ∧ W.cell? ⟨ab, 4, none⟩ = some (.slice xla xln xlc) ∧ W.cell? ⟨ab, 5, none⟩ = some (.slice xma xmn xmc) ∧ ab < W.heap.size) := Lib.hid (fun W hW => by
          have h1 := HKA.out W hW
          exact ⟨(h1.cell 0).trans rfl, (h1.cell 1).trans rfl, (h1.cell 2).trans rfl, (h1.cell 3).trans rfl, (h1.cell 4).trans rfl, (h1.cell 5).trans rfl, h1.lt⟩)
        refine wp_region_held_tree (New wB) 4 (by kernel_rfl) (by kernel_rfl) ?_
        have hn1 : New wB wB.drew := (Mod.refl _ _).drew
        refine headW_take 0 _ ?_ (fun _ _ d _ _ h => by cases d <;> exact h) (by kernel_rfl) rfl (by kernel_rfl) hn1 (by rfl) (fun W hSw => ?_) ?_
        rotate_left
        · (have hq := HSL.out W hSw); (try simp only [List.getElem_toArray, List.getElem_cons_zero, List.getElem_cons_succ]); go_simp; any_goals (with_reducible rfl)
        simp only [Act.put, List.getElem_toArray, List.getElem_cons_zero, List.getElem_cons_succ, List.setIfInBounds_toArray, List.set_cons_zero, List.set_cons_succ]
        refine headW_take 2 _ ?_ (fun _ _ d _ _ h => by cases d <;> exact h) (by kernel_rfl) rfl (by kernel_rfl) hn1 (by rfl) (fun W hSw => ?_) ?_
        rotate_left
        · (have hq := HSL.out W hSw); (try simp only [List.getElem_toArray, List.getElem_cons_zero, List.getElem_cons_succ]); go_simp; any_goals (with_reducible rfl)
        simp only [Act.put, List.getElem_toArray, List.getElem_cons_zero, List.getElem_cons_succ, List.setIfInBounds_toArray, List.set_cons_zero, List.set_cons_succ]
        refine headW_ready [1] (by kernel_rfl) (by rfl) ?_
        refine eachW_step rfl rfl (fun K hK => ?_) eachW_nil
        · have q := HPF.out _ hn1
          (try simp only [List.getElem_toArray, List.getElem_cons_zero, List.getElem_cons_succ])
          go_simp
          refine q.mono ?_
          clear q
          rintro e w6 ⟨rfl, m6⟩
          have HN6 := Lib.hid (hn1.trans m6)
          clear m6
          go_wp2_with fail
          refine hK.out _ _ HN6.out (fun _ => ?_)
          clear hK K
          (try simp only [Act.put, List.getElem_toArray, List.getElem_cons_zero, List.getElem_cons_succ, List.setIfInBounds_toArray, List.set_cons_zero, List.set_cons_succ])
          refine headW_ready [3] (by kernel_rfl) (by rfl) ?_
          refine eachW_step rfl rfl (fun K hK => ?_) eachW_nil
          have q := HVF.out _ HN6.out
          (try simp only [List.getElem_toArray, List.getElem_cons_zero, List.getElem_cons_succ])
          go_simp
          refine q.mono ?_
          clear q
          rintro e w7 ⟨rfl, m7⟩
          have HN7 := Lib.hid (HN6.out.trans m7)
          clear m7
          go_wp2_with fail
          refine hK.out _ _ HN7.out (fun _ => ?_)
          clear hK K
          (try simp only [Act.put, List.getElem_toArray, List.getElem_cons_zero, List.getElem_cons_succ, List.setIfInBounds_toArray, List.set_cons_zero, List.set_cons_succ])
          refine headW_done (by kernel_rfl) ?_
          go_wp2_with fail
          first
            | go_meet
            | (refine cM _ _ ?_; go_meet)
          case rel => exact ⟨rfl, rfl, HN7⟩
      case rest =>
        rename World => w6
        obtain ⟨rfl, rfl, HM6⟩ := hcut
        clear HM
        have HM := HM6
        have q := val_pathText pa pn pc ps w6 (HKS.out _ HM.out) (by omega) HOK.out (HKU.out _ HM.out) (HKP.out _ HM.out)
        rw [HFPE.out] at q
        go_wp2_with fail
        refine q.mono ?_
        clear q
        rintro e w7 ⟨T, rfl, hTT, m7⟩
        have HM1 := Lib.hid (HM.out.trans m7)
        clear HM
        have HM := HM1
        clear HM1
        clear m7
        have HTT := Lib.hid hTT
        clear hTT
        go_upto_region 8 with (fail)
        go_cut [68] (fun s wx => s = .bool false ∧ Hid (New wB wx))
        case first =>
          have q := checkPath_v pa pn pc ps w7 (HKS.out _ HM.out) (by omega) HOK.out (HKU.out _ HM.out)
          rw [HFPE.out] at q
          have hne : (FP != FP) = false := by simp
          go_wp2_with fail
          refine q.mono ?_
          clear q
          rintro e w8 ⟨rfl, m8⟩
          have HM1 := Lib.hid (HM.out.trans m8)
          clear HM
          have HM := HM1
          clear HM1
          clear m8
          by_cases h0 : FP = 0
          · subst h0
            obtain ⟨l50, lfit⟩ := pathF_fit HFPE.out
            have q := ref_pathLine pa pn pc ps w8 (HKS.out _ HM.out) (by omega) lfit (HKP.out _ HM.out)
            rw [← HTT.out (by first | trivial | rfl)] at q
            have hne2 : (T.toList != T.toList) = false := by simp
            go_wp2_with fail
            refine q.mono ?_
            clear q
            rintro e w9 ⟨rfl, m9⟩
            have HM1 := Lib.hid (HM.out.trans m9)
            clear HM
            have HM := HM1
            clear HM1
            clear m9
            go_wp2_with fail
            go_meet
            case rel => exact ⟨rfl, HM⟩
          · have h0b : (FP == 0) = false := by simpa using h0
            clear h0
            go_wp2_with fail
            go_meet
            case rel => exact ⟨rfl, HM⟩
        case rest =>
          rename World => w8
          obtain ⟨rfl, HM8⟩ := hcut
          clear HM
          have HM := HM8
          clear HM8 HTT
          have hpo := pathOf_len s
          have q := val_readPath s w8 (by omega) (HKU.out _ HM.out) (HKP.out _ HM.out)
          go_wp2_with fail
          refine q.mono ?_
          clear q
          rintro e w9 ⟨A1, n1, c1, rfl, sl1, m9, -⟩
          have HM1 := Lib.hid (HM.out.trans m9)
          clear HM
          have HM := HM1
          clear HM1
          clear m9
          have q := ref_pathRead s w9 (by omega) (HKU.out _ HM.out) (HKP.out _ HM.out)
          have HS1 := Lib.hid sl1
          have hl1 := sl1.1
          clear sl1
          generalize pathOf s = Q at *
          obtain ⟨QL, QM, QE⟩ := Q
          simp only at hpo hl1
          go_wp2_with fail
          refine q.mono ?_
          clear q
          rintro e w10 ⟨A2, n2, c2, rfl, sl2, m10, -⟩
          have hl2 := sl2.1
          simp only at hl2
          obtain rfl : n2 = n1 := by omega
          have q := equal_steps QL A1 A2 n2 c1 c2 w10 (HS1.out.new m10) sl2 (by omega)
          have HM1 := Lib.hid (HM.out.trans m10)
          clear HM
          have HM := HM1
          clear HM1
          have hne1 : (QE != QE) = false := by simp
          have hne2 : (QM != QM) = false := by simp
          clear HS1 sl2 m10
          go_wp2_with fail
          refine q.mono ?_
          clear q
          rintro e w11 ⟨rfl, m11⟩
          have HM1 := Lib.hid (HM.out.trans m11)
          clear HM
          have HM := HM1
          clear HM1
          clear m11 hne1 hne2
          have q := valGet_v 60 ⟨xk, xf, xn, xw, xla, xln, xlc, xma, xmn, xmc⟩ va pa pn pc ps w11 (HKT.out _ HM.out) HFA.out (HKS.out _ HM.out) (by omega) HOK.out (HKU.out _ HM.out)
          rw [getsF_or, HFAE.out, HFPE.out] at q
          obtain ⟨OR, hOR⟩ : ∃ R, orF FA FP = R := ⟨_, rfl⟩
          rw [hOR] at q
          have HOR := Lib.hid hOR
          clear hOR
          have hxx := HKA.out _ HM.out
          have e0 := hxx.cell 0
          have e1 := hxx.cell 1
          have e2 := hxx.cell 2
          have e3 := hxx.cell 3
          have e4 := hxx.cell 4
          have e5 := hxx.cell 5
          have el := hxx.lt
          simp only [List.getElem?_toArray, List.getElem?_cons_zero, List.getElem?_cons_succ] at e0 e1 e2 e3 e4 e5
          clear hxx
          go_wp2_with fail
          refine q.mono ?_
          clear q
          clear e0 e1 e2 e3 e4 e5 el
          intro e w12 hq
          obtain ⟨⟨yk, yf, yn, yw, yla, yln, ylc, yma, ymn, ymc⟩, b, rfl, m12, hb1, hb2⟩ := hq.all
          clear hq
          have HM1 := Lib.hid (HM.out.trans m12)
          clear HM
          have HM := HM1
          clear HM1
          have bG := Blk.new w12 29 #[.int .i64 yk, .bool yf, .int .i64 yn, .string yw, .slice yla yln ylc, .slice yma ymn ymc]
          have mG : New w12 (w12.alloc (.cells #[.int .i64 yk, .bool yf, .int .i64 yn, .string yw, .slice yla yln ylc, .slice yma ymn ymc] 29)) := (Mod.refl _ _).alloc _
          go_upto_region 15 with (fail)
          have HM1 := Lib.hid (HM.out.trans mG)
          clear HM
          have HM := HM1
          clear HM1
          have HG := Lib.hid bG
          have HB1 := Lib.hid hb1
          have HB2 : Hid (OR = 0 → b = isP va ps ∧ Tree (w12.alloc (.cells #[.int .i64 yk, .bool yf, .int .i64 yn, .string yw, .slice yla yln ylc, .slice yma ymn ymc] 29)) (fun _ => True) (atD 60 pn va ps) ⟨yk, yf, yn, yw, yla, yln, ylc, yma, ymn, ymc⟩ (atP va ps) ∧ Fit (atD 60 pn va ps) (atP va ps)) := Lib.hid (fun h => ⟨(hb2 h).1, (hb2 h).2.1.new mG, (hb2 h).2.2⟩)
          generalize w12.alloc (.cells #[.int .i64 yk, .bool yf, .int .i64 yn, .string yw, .slice yla yln ylc, .slice yma ymn ymc] 29) = w13 at *
          generalize w12.heap.size = gb at *
          clear bG mG hb1 hb2 m12
          have q := valLeaves_v 60 ⟨xk, xf, xn, xw, xla, xln, xlc, xma, xmn, xmc⟩ va w13 (HKT.out _ HM.out) (Wide.mono (by omega) _ _ HWD.out) (Nat.le_trans HLW.out (by omega)) (by omega) (HKU.out _ HM.out)
          rw [HFAE.out] at q
          have hxx := HKA.out _ HM.out
          have e0 := hxx.cell 0
          have e1 := hxx.cell 1
          have e2 := hxx.cell 2
          have e3 := hxx.cell 3
          have e4 := hxx.cell 4
          have e5 := hxx.cell 5
          have el := hxx.lt
          simp only [List.getElem?_toArray, List.getElem?_cons_zero, List.getElem?_cons_succ] at e0 e1 e2 e3 e4 e5
          clear hxx
          go_wp2_with fail
          refine q.mono ?_
          clear q
          clear e0 e1 e2 e3 e4 e5 el
          rintro e w14 ⟨m14, A3, n3, c3, qs, rfl, hn3, hlv⟩
          have HM1 := Lib.hid (HM.out.trans m14)
          clear HM
          have HM := HM1
          clear HM1
          have HM13 := Lib.hid m14
          have HLV := Lib.hid hlv
          clear m14 hlv
          go_upto_region 16 with (fail)
          go_cut [120] (fun s wx => s = .bool false ∧ Hid (New wB wx) ∧ Hid (New w13 wx))
          case first =>
            have hne : (FA != FA) = false := by simp
            by_cases h0 : FA = 0
            · subst h0
              obtain ⟨s3, al3⟩ := HLV.out (by first | trivial | rfl)
              have q := leavesC_v 60 ⟨xk, xf, xn, xw, xla, xln, xlc, xma, xmn, xmc⟩ va none 0 0 [] w14 (HKT.out _ HM.out) (Wide.mono (by omega) _ _ HWD.out) Sl.nil (by omega) (by simp) HLW.out
              have HL50 := Lib.hid (fun p hp => leavesT_50 (d := 60) (v := va) HFAE.out (q := p) hp)
              have HS3 := Lib.hid s3
              have HAL3 := Lib.hid al3
              have k1 := s3.1
              have k2 := al3.len
              clear s3 al3 HLV
              generalize leavesT 60 va [] = L at *
              have hxx := HKA.out _ HM.out
              have e0 := hxx.cell 0
              have e1 := hxx.cell 1
              have e2 := hxx.cell 2
              have e3 := hxx.cell 3
              have e4 := hxx.cell 4
              have e5 := hxx.cell 5
              have el := hxx.lt
              simp only [List.getElem?_toArray, List.getElem?_cons_zero, List.getElem?_cons_succ] at e0 e1 e2 e3 e4 e5
              clear hxx
              go_wp2_with fail
              refine q.mono ?_
              clear q
              clear e0 e1 e2 e3 e4 e5 el
              rintro e w15 ⟨A4, n4, c4, qs4, rfl, s4, al4, -, hn4, -, m15⟩
              have k3 := s4.1
              have k4 := al4.len
              obtain rfl : n4 = n3 := by omega
              have q := equal_paths L qs qs4 A3 A4 n4 c3 c4 w15 (HS3.out.new m15) s4 (Al.imp (fun _ _ h => PthIs.new h m15) HAL3.out) al4 (by omega) (fun p hp => by have := HL50.out p hp; omega)
              have HM15 := Lib.hid (HM13.out.trans m15)
              have HM1 := Lib.hid (HM.out.trans m15)
              clear HM
              have HM := HM1
              clear HM1
              clear m15 s4 al4 HS3 HAL3
              go_wp2_with fail
              refine q.mono ?_
              clear q
              rintro e w16 ⟨rfl, m16⟩
              have HM16 := Lib.hid (HM15.out.trans m16)
              have HM1 := Lib.hid (HM.out.trans m16)
              clear HM
              have HM := HM1
              clear HM1
              clear m16
              go_wp2_with fail
              go_meet
              case rel => exact ⟨rfl, HM, HM16⟩
            · have h0b : (FA == 0) = false := by simpa using h0
              clear h0
              go_wp2_with fail
              go_meet
              case rel => exact ⟨rfl, HM, HM13⟩
          case rest =>
            rename World => w16
            obtain ⟨rfl, HM16, HMC⟩ := hcut
            clear HM HM13 HLV
            have HM := HM16
            clear HM16
            have HGC := Lib.hid (HG.out.mod HMC.out (fun e => e))
            have HBC := Lib.hid (fun h => (fun q : _ ∧ _ ∧ _ => (⟨q.1, Tree.new q.2.1 HMC.out, q.2.2⟩ : _ ∧ _ ∧ _)) (HB2.out h))
            clear HG HB2 HMC
            have m17 : New w16 (w16.alloc (.cells #[.int .i64 FA, .int .i64 FP] 34)) := (Mod.refl _ _).alloc _
            have b17 := Blk.new w16 34 #[.int .i64 FA, .int .i64 FP]
            have q := or_two FA FP w16.heap.size _ b17
            rw [HOR.out] at q
            have HGD := Lib.hid (HGC.out.mod m17 (fun e => e))
            have HBD := Lib.hid (fun h => (fun q : _ ∧ _ ∧ _ => (⟨q.1, Tree.new q.2.1 m17, q.2.2⟩ : _ ∧ _ ∧ _)) (HBC.out h))
            have HM1 := Lib.hid (HM.out.trans m17)
            clear HM
            have HM := HM1
            clear HM1
            clear HGC HBC
            go_wp2_with fail
            refine q.mono ?_
            clear q m17 b17
            rintro e w17 ⟨rfl, rfl⟩
            generalize w16.alloc (.cells #[.int .i64 FA, .int .i64 FP] 34) = w17 at *
            by_cases h0 : OR = 0
            · obtain ⟨ha0, hc0⟩ := orF_eq_zero (HOR.out.trans h0)
              have hob : (OR != 0) = false := by simpa using h0
              have hoe : (OR == 0) = true := by simpa using h0
              obtain ⟨hbi, hty, hfy⟩ := HBD.out h0
              have HTY := Lib.hid hty
              have HFY := Lib.hid hfy
              have hst : ∀ s ∈ ps, 0 ≤ s.at_ ∧ s.at_ ≤ 5000 := fun s hs => ((pathF_ok (HFPE.out.trans hc0)).2 s hs).2
              have q := getAny_v (fun _ => True) 60 ⟨xk, xf, xn, xw, xla, xln, xlc, xma, xmn, xmc⟩ va pa pn pc ps w17 (HKT.out _ HM.out) (HKS.out _ HM.out) (Wide.mono (by omega) _ _ HWD.out) hst (by omega)
              clear hty hfy hst HBD HB1 h0 ha0 hc0
              have hxx := HKA.out _ HM.out
              have e0 := hxx.cell 0
              have e1 := hxx.cell 1
              have e2 := hxx.cell 2
              have e3 := hxx.cell 3
              have e4 := hxx.cell 4
              have e5 := hxx.cell 5
              have el := hxx.lt
              simp only [List.getElem?_toArray, List.getElem?_cons_zero, List.getElem?_cons_succ] at e0 e1 e2 e3 e4 e5
              clear hxx
              go_wp2_with fail
              refine q.mono ?_
              clear q
              clear e0 e1 e2 e3 e4 e5 el
              intro e w18 hq
              obtain ⟨⟨zk, zf, zn, zw, zla, zln, zlc, zma, zmn, zmc⟩, rfl, m18, htz⟩ := hq.all
              clear hq
              rw [← hbi]
              have bZ := Blk.new w18 29 #[.int .i64 zk, .bool zf, .int .i64 zn, .string zw, .slice zla zln zlc, .slice zma zmn zmc]
              have mZ : New w18 (w18.alloc (.cells #[.int .i64 zk, .bool zf, .int .i64 zn, .string zw, .slice zla zln zlc, .slice zma zmn zmc] 29)) := (Mod.refl _ _).alloc _
              go_upto_region 22 with (fail)
              have HM1 := Lib.hid (HM.out.trans m18)
              clear HM
              have HM := HM1
              clear HM1
              have HM1 := Lib.hid (HM.out.trans mZ)
              clear HM
              have HM := HM1
              clear HM1
              have HGE := Lib.hid ((HGD.out.mod m18 (fun e => e)).mod mZ (fun e => e))
              have HTE := Lib.hid ((HTY.out.new m18).new mZ)
              have HTZ := Lib.hid (htz.new mZ)
              have HZB := Lib.hid bZ
              clear HGD HTY m18 htz
              generalize w18.alloc (.cells #[.int .i64 zk, .bool zf, .int .i64 zn, .string zw, .slice zla zln zlc, .slice zma zmn zmc] 29) = w19 at *
              generalize w18.heap.size = zb at *
              clear bZ mZ hbi
              have q := same_v (atD 60 pn va ps) ⟨yk, yf, yn, yw, yla, yln, ylc, yma, ymn, ymc⟩ ⟨zk, zf, zn, zw, zla, zln, zlc, zma, zmn, zmc⟩ (atP va ps) (atP va ps) (fun _ => True) w19 HTE.out HTZ.out HFY.out HFY.out
              rw [eqV_self] at q
              have hbb : (b == b) = true := by simp
              have hxx := HGE.out
              have f0 := hxx.cell 0
              have f1 := hxx.cell 1
              have f2 := hxx.cell 2
              have f3 := hxx.cell 3
              have f4 := hxx.cell 4
              have f5 := hxx.cell 5
              have fl := hxx.lt
              have hyy := HZB.out
              have g0 := hyy.cell 0
              have g1 := hyy.cell 1
              have g2 := hyy.cell 2
              have g3 := hyy.cell 3
              have g4 := hyy.cell 4
              have g5 := hyy.cell 5
              have gl := hyy.lt
              simp only [List.getElem?_toArray, List.getElem?_cons_zero, List.getElem?_cons_succ] at f0 f1 f2 f3 f4 f5 g0 g1 g2 g3 g4 g5
              clear hxx hyy
              go_wp2_with fail
              refine q.mono ?_
              clear q f0 f1 f2 f3 f4 f5 fl g0 g1 g2 g3 g4 g5 gl
              rintro e w20 ⟨rfl, m20⟩
              have HM1 := Lib.hid (HM.out.trans m20)
              clear HM
              have HM := HM1
              clear HM1
              clear m20
              have q := valued_v w20 (HKP.out _ HM.out) (HKU.out _ HM.out)
              go_wp2_with fail
              refine q.mono ?_
              clear q
              rintro e w21 ⟨rfl, m21⟩
              go_wp2_with fail
              go_ret
              exact ⟨rfl, HKN.out _ (HM.out.trans m21)⟩
            · have hob : (OR != 0) = true := by simpa using h0
              have hoo : (OR == OR) = true := by simp
              obtain rfl : b = false := HB1.out h0
              clear h0 HBD HGD
              have q := valued_v w17 (HKP.out _ HM.out) (HKU.out _ HM.out)
              go_wp2_with fail
              refine q.mono ?_
              clear q
              rintro e w21 ⟨rfl, m21⟩
              go_wp2_with fail
              go_ret
              exact ⟨rfl, HKN.out _ (HM.out.trans m21)⟩

end Go.Proofs.YtpgcbehpknghdaaGreatDoor
