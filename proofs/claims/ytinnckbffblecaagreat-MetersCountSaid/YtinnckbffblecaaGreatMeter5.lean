/- Meter.Ask where it is refused with an error. Conditions: a name that can be counted. -/
import Derived.Test.YtinnckbffblecaaGreatMeter4
namespace Go.Proofs.YtinnckbffblecaaGreat
open Go.RowKit
set_option linter.unusedVariables false
set_option linter.unusedSimpArgs false

def vdz : Vd := ⟨false, ⟨#[]⟩, 0⟩
def askE (now : Int) (a : AskD) : Int := if askFault a ≠ 0 then askFault a else if a.at_ < now then 7 else 0

set_option maxRecDepth 100000 in
set_option maxHeartbeats 2000000 in
theorem meter_ask_err (gm : Nat) (v0 v2 : Value) (now : Int) (a : AskD) (w : World) (hb : Blk w gm 113 #[v0, .int .i64 now, v2]) (hws : a.who.size ≤ maxLen) (he : askE now a ≠ 0) :
    Calls Tryz.prog 39 #[.pointer (some ⟨gm, 0, none⟩), a.val] w fun e w' => e = .returned (.tuple #[vdz.val, .int .i64 (askE now a)]) ∧ New w w' := by
  have hfa := limit_askFault a
  have HB := Lib.hid hb
  by_cases hf : askFault a = 0
  · have hlt : a.at_ < now := by
      unfold askE at he
      rw [if_neg (by simpa using hf)] at he
      by_cases h : a.at_ < now
      · exact h
      · rw [if_neg h] at he; exact absurd rfl he
    have HE : Hid (askE now a = 7) := Lib.hid (by unfold askE; rw [if_neg (by simpa using hf), if_pos hlt])
    rw [hf] at hfa
    obtain ⟨at_, who, cost, long⟩ := a
    simp only [AskD.val] at *
    clear hf he hb
    go_enter Tryz.func39, Tryz.ntmps39
    go_wp2_with fail
    refine (hfa _ hws).mono ?_
    clear hfa
    rintro e w1 ⟨rfl, hm⟩
    obtain ⟨hm1, hz1, n1⟩ := hm.pre
    have b1 : Blk w1 (w.heap.size + 1) 57 #[.bool false, .string ⟨#[]⟩, .int .i64 0] := by
      have := n1 (fun h => h)
      rw [show (w.alloc (Obj.cells #[.int .i64 at_, .string who, .int .i64 cost, .int .i64 long] 70)).heap.size = w.heap.size + 1 by simp] at this
      exact this
    obtain ⟨hm2, hz2, n2⟩ := hm1.pre
    have b0 : Blk w1 w.heap.size 70 _ := n2 (fun h => h)
    clear hm hm1 n1 n2
    have e0 := b0.cell 0
    simp at e0
    have r0 := b1.cell 0
    have r1 := b1.cell 1
    have r2 := b1.cell 2
    have fr := b1.frozen
    have hrl := b1.lt
    simp at r0 r1 r2
    have htf := meter_timeFault2 gm _ _ now at_ w1 (HB.out.new'' hm2) hlt
    go_wp2_with fail
    refine htf.mono ?_
    clear htf
    rintro e w2 ⟨rfl, rfl⟩
    go_wp2_with fail
    refine bodyPost_ret (v := .tuple #[Vd.val vdz, .int .i64 7]) (by simp [results, Tryz.results39, go_sem, r0, r1, r2, fr, Vd.val, vdz]) rfl ⟨by rw [HE.out], ?_⟩
    refine Mod.setCell (Mod.setCell (Mod.setCell hm2 (.inr ?_) _) (.inr ?_) _) (.inr ?_) _ <;> simp
  · have HE : Hid (askE now a = askFault a) := Lib.hid (by unfold askE; rw [if_pos (by simpa using hf)])
    have hf' : (askFault a != 0) = true := by simpa using hf
    generalize askFault a = F at *
    obtain ⟨at_, who, cost, long⟩ := a
    simp only [AskD.val] at *
    clear hf he hb
    go_enter Tryz.func39, Tryz.ntmps39
    go_wp2_with fail
    refine (hfa _ hws).mono ?_
    clear hfa
    rintro e w1 ⟨rfl, hm⟩
    obtain ⟨hm1, hz1, n1⟩ := hm.pre
    have b1 : Blk w1 (w.heap.size + 1) 57 #[.bool false, .string ⟨#[]⟩, .int .i64 0] := by
      have := n1 (fun h => h)
      rw [show (w.alloc (Obj.cells #[.int .i64 at_, .string who, .int .i64 cost, .int .i64 long] 70)).heap.size = w.heap.size + 1 by simp] at this
      exact this
    obtain ⟨hm2, hz2, n2⟩ := hm1.pre
    clear hm hm1 n1 n2
    have r0 := b1.cell 0
    have r1 := b1.cell 1
    have r2 := b1.cell 2
    have fr := b1.frozen
    have hrl := b1.lt
    simp at r0 r1 r2
    go_wp2_with fail
    refine bodyPost_ret (v := .tuple #[Vd.val vdz, .int .i64 F]) (by simp [results, Tryz.results39, go_sem, r0, r1, r2, fr, Vd.val, vdz]) rfl ⟨by rw [HE.out], ?_⟩
    refine Mod.setCell (Mod.setCell (Mod.setCell hm2 (.inr ?_) _) (.inr ?_) _) (.inr ?_) _ <;> simp

end Go.Proofs.YtinnckbffblecaaGreat
