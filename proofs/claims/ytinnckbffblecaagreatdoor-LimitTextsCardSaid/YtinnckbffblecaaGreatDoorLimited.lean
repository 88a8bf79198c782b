/- The statements' own first look at package limit answers true. No conditions. -/
import Derived.Test.YtinnckbffblecaaGreatDoorMeter0
import Derived.Test.YtinnckbffblecaaGreatDoorRoom
namespace Go.Proofs.YtinnckbffblecaaGreatDoor
open Go.RowKit
set_option linter.unusedVariables false
set_option linter.unusedSimpArgs false

theorem einfo_verdict : EInfo Tryz.prog 80 3 32 := EInfo.of (z := .agg #[.bool false, .string ⟨#[]⟩, .int .i64 0]) (by kernel_rfl) rfl (by decide)

structure VerdictD where
  ok : Bool
  by_ : ByteArray
  wait : Int
def VerdictD.val (v : VerdictD) : Value := .agg #[.bool v.ok, .string v.by_, .int .i64 v.wait]
def VerdictD.enc (v : VerdictD) : Nat → Value
  | 0 => .bool v.ok
  | 1 => .string v.by_
  | 2 => .int .i64 v.wait
  | _ => .nilFunc
theorem VerdictD.one (v : VerdictD) (j : Nat) (hj : j < 3) : (v.enc j).oneCell' = true := by
  match j, hj with
  | 0, _ => rfl
  | 1, _ => rfl
  | 2, _ => rfl

def v0 : VerdictD := ⟨true, ⟨#[]⟩, 0⟩
def RReplay0 (w : World) (e : Ending) (w' : World) : Prop := ∃ A c, e = .returned (.tuple #[.slice A 1 c, .int .i64 0]) ∧ Own w' w.heap.size 80 3 VerdictD.enc A 1 c [v0] ∧ New w w'

set_option maxRecDepth 100000 in
set_option maxHeartbeats 2000000 in
theorem replay0 (g1 g2 : Nat) (w : World) (hl : LimRows w (some ⟨g1, 0, none⟩) 1 [lim0]) (ha : AskRows w (some ⟨g2, 0, none⟩) 1 [ask0]) :
    Calls Tryz.prog 36 #[.slice (some ⟨g1, 0, none⟩) 1 1, .slice (some ⟨g2, 0, none⟩) 1 1] w (RReplay0 w) := by
  go_enter Tryz.func36, Tryz.ntmps36
  go_wp2_with fail
  refine (limit_checkLimits [lim0] _ 1 1 _ hl (by omega) (by simp; decide)).mono ?_
  rintro e w1 ⟨rfl, hm1⟩
  rw [show limsFault [lim0] = 0 by decide]
  go_wp2_with fail
  refine (limit_checkAsks [ask0] _ 1 1 _ (ha.new hm1) (by omega) (by simp; decide)).mono ?_
  rintro e w2 ⟨rfl, hm2⟩
  rw [show asksFault [ask0] = 0 by decide]
  have hm12 := hm1.trans hm2
  go_wp2_with fail
  refine (new_meter [lim0] g1 0 1 1 _ (hl.new hm12) (by omega) (by omega)).mono ?_
  rintro e w3 ⟨gm, mb, A, c, rfl, hgm, hmb, hown, hmt, hmap, hm3⟩
  have hm13 := hm12.trans hm3
  have hz12 := hm12.size
  have ha3 := ha.new hm13
  have hmap3 : MapOf strKeys w3 mb [] := MapOf.made hmap
  clear hmap
  go_wp2_with fail
  go_loopw [9, 11, 12, 13, 28] (fun o _ _ _ i wr => (i = .int .i64 0 ∧ o = .slice none 0 0 ∧ wr = w3) ∨ (i = .int .i64 1 ∧ ∃ A c, o = .slice A 1 c ∧ Own wr w.heap.size 80 3 VerdictD.enc A 1 c [v0] ∧ New w wr)) (fun _ _ _ _ i _ => 1 - (intOf i).toNat)
  case atStart => exact .inl ⟨rfl, rfl, rfl⟩
  case round =>
    rcases hrel with ⟨rfl, rfl, rfl⟩ | ⟨rfl, A1, c1, rfl, hownr, hmr⟩
    · obtain ⟨g0, o0, hA, htb, hc⟩ := ha3.2 (by omega)
      injection hA with hA
      injection hA with hA1 hA2
      subst hA1 hA2
      have d0 := hc 0 (by simp) 0 (by omega)
      have d1 := hc 0 (by simp) 1 (by omega)
      have d2 := hc 0 (by simp) 2 (by omega)
      have d3 := hc 0 (by simp) 3 (by omega)
      simp [AskD.enc, ask0] at d0 d1 d2 d3
      have hlt := htb.lt
      clear hc
      go_wp2_with fail
      have hN : New wr (wr.alloc (.cells #[.int .i64 0, .string ⟨#[97]⟩, .int .i64 1, .int .i64 0] 76)) := (by with_reducible (repeat (first | exact Mod.refl _ _ | refine Mod.drewN ?_ _ | refine Mod.drew ?_ | refine Mod.alloc ?_ _)))
      refine (meter_ask0 gm mb A c _ _ (hmt.mod hN (fun h => h)) (hmap3.mod hN (fun h => h)) (hown.new hN)).mono ?_
      rintro e w4 ⟨rfl, hm4⟩
      obtain ⟨hm5, hz5, -⟩ := hm4.pre
      have hm6 : New w w4 := hm13.step hm5 (fun i hi e => by omega)
      have hN2 : New w4 ((w4.alloc (.cells #[.bool true, .string ⟨#[]⟩, .int .i64 0] 80)).alloc (.cells #[.bool true, .string ⟨#[]⟩, .int .i64 0] 80)) := (by with_reducible (repeat (first | exact Mod.refl _ _ | refine Mod.drewN ?_ _ | refine Mod.drew ?_ | refine Mod.alloc ?_ _)))
      have hownv : Own ((w4.alloc (.cells #[.bool true, .string ⟨#[]⟩, .int .i64 0] 80)).alloc (.cells #[.bool true, .string ⟨#[]⟩, .int .i64 0] 80)) w.heap.size 80 3 VerdictD.enc none 0 0 [] := Own.nil
      have hz6 := hm6.size
      simp only [verdict0]
      go_wp2_with (at_builtin; refine wpList_push rfl _ _ _ rfl 32 Tryz.underlying72 einfo_verdict rfl hownv v0 (w4.heap.size + 1) rfl (Blk.new' _ _ (by simp)) (fun j hj => VerdictD.one v0 j hj) (by omega) (by omega) (by simp; omega) ?_; intro g cap w5 hown5 hm7 hat hlt5)
      have hm8 : New w w5 := (hm6.trans hN2).step hm7 (fun i _ e => by cases e)
      exact ⟨.inr ⟨rfl, _, _, rfl, by simpa using hown5, hm8⟩, by simp [intOf]⟩
    · go_wp2_with fail
      go_ret2
      exact ⟨A1, c1, rfl, hownr, hmr⟩

theorem equal_v0 (A1 A2 : Option Addr) (c1 c2 : Nat) (w : World) (h1 : Sl w 80 3 VerdictD.enc A1 1 [v0]) (h2 : Sl w 80 3 VerdictD.enc A2 1 [v0]) :
    Calls Tryz.prog 37 #[.slice A1 1 c1, .slice A2 1 c2] w fun e w' => e = .returned (.bool true) ∧ ∃ n, w' = w.drewN n := by
  obtain ⟨g1, o1, rfl, t1, k1⟩ := h1.2 (by omega)
  obtain ⟨g2, o2, rfl, t2, k2⟩ := h2.2 (by omega)
  have a0 := k1 0 (by simp) 0 (by omega)
  have a1 := k1 0 (by simp) 1 (by omega)
  have a2 := k1 0 (by simp) 2 (by omega)
  have b0 := k2 0 (by simp) 0 (by omega)
  have b1 := k2 0 (by simp) 1 (by omega)
  have b2 := k2 0 (by simp) 2 (by omega)
  simp [VerdictD.enc, v0] at a0 a1 a2 b0 b1 b2
  clear k1 k2
  go_enter Tryz.func37, Tryz.ntmps37
  go_wp2_with fail
  go_loopw [5, 13] (fun _ i wr => (i = .int .i64 0 ∨ i = .int .i64 1) ∧ ∃ q, wr = w.drewN q) (fun _ i _ => 1 - (intOf i).toNat)
  case atStart => exact ⟨.inl rfl, 0, rfl⟩
  case round =>
    obtain ⟨hi, q, rfl⟩ := hrel
    rcases hi with rfl | rfl
    · go_wp2_with fail
      go_quiet (fail)
      go_wp2_with fail
      exact ⟨⟨.inr rfl, _, rfl⟩, by simp [intOf]⟩
    · go_wp2_with fail
      go_ret
      exact ⟨rfl, _, rfl⟩

theorem AskRows.one (w : World) (a : AskD) {g : Nat} (h : Blk w g 76 #[.int .i64 a.at_, .string a.who, .int .i64 a.cost, .int .i64 a.long]) : AskRows w (some ⟨g, 0, none⟩) 1 [a] := by
  refine Sl.of_blk h rfl fun i hi j hj => ?_
  simp at hi
  subst hi
  match j, hj with
  | 0, _ => rfl
  | 1, _ => rfl
  | 2, _ => rfl
  | 3, _ => rfl
theorem VerdictSl.one (w : World) (v : VerdictD) {g : Nat} (h : Blk w g 80 #[.bool v.ok, .string v.by_, .int .i64 v.wait]) : Sl w 80 3 VerdictD.enc (some ⟨g, 0, none⟩) 1 [v] := by
  refine Sl.of_blk h rfl fun i hi j hj => ?_
  simp at hi
  subst hi
  match j, hj with
  | 0, _ => rfl
  | 1, _ => rfl
  | 2, _ => rfl

set_option maxHeartbeats 1000000 in
theorem limited_true (w : World) : Calls Tryz.prog 12 #[] w fun e w' => e = .returned (.bool true) ∧ New w w' := by
  go_enter Tryz.func12, Tryz.ntmps12
  go_wp2_with fail
  refine (replay0 _ _ _ (LimRows.one _ lim0 ((Blk.new _ _ _).mod ((Mod.refl (fun _ => False) _).alloc _) (fun h => h))) (AskRows.one _ ask0 (Blk.new' _ _ (by simp)))).mono ?_
  rintro e w1 ⟨A, c, rfl, hown, hm⟩
  obtain ⟨hm1, -, -⟩ := hm.pre
  obtain ⟨hm2, -, -⟩ := hm1.pre
  go_wp2_with fail
  refine (equal_v0 A _ c 1 _ (hown.alloc _).sl (VerdictSl.one _ v0 (Blk.new _ _ _))).mono ?_
  rintro e w2 ⟨rfl, q, rfl⟩
  go_wp2_with fail
  go_ret
  exact ⟨rfl, (hm2.alloc _).drewN _⟩

end Go.Proofs.YtinnckbffblecaaGreatDoor
