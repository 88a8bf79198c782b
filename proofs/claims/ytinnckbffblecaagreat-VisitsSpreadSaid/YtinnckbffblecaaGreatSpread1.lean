/- The program's player of visits, its small functions: when something happens next to an order, which order comes first. Conditions: right limits, orders with modest numbers. -/
import Derived.Test.YtinnckbffblecaaGreatVisits
import Derived.Test.YtinnckbffblecaaGreatQuietTail
namespace Go.Proofs.YtinnckbffblecaaGreat
open Go.RowKit Go.MapKept
set_option linter.unusedVariables false
set_option linter.unusedSimpArgs false


set_option maxHeartbeats 1000000 in
theorem cmpOr_int (xs : List Int) (g n : Nat) (w : World) (hb : Blk w g 3 (xs.map (Value.int .i64)).toArray) (hn : xs.length = n) (hn2 : n ≤ 1000) :
    Calls Tryz.prog 95 #[.slice (some ⟨g, 0, none⟩) n n] w fun e w' => e = .returned (.int .i64 (orL xs)) ∧ w = w' := by
  go_enter Tryz.func95, Tryz.ntmps95
  go_wp2_with fail
  go_loop [5, 8] (fun _ i => ∃ k : Nat, k ≤ n ∧ i = .int .i64 k ∧ orL xs = orL (xs.drop k)) (fun _ i => n - (intOf i).toNat)
  case atStart => exact ⟨0, Nat.zero_le _, rfl, by simp⟩
  case round =>
    obtain ⟨k, hk, rfl, hor⟩ := hrel
    have HO := Lib.hid hor
    clear hor
    by_cases hlt : k < n
    · have hc := hb.cell k
      rw [show (xs.map (Value.int .i64)).toArray[k]? = some (.int .i64 (xs[k]'(by omega))) by simp] at hc
      have HD := Lib.hid (orL_drop (xs := xs) (k := k) (by omega))
      generalize xs[k]'(by omega) = x at *
      have hb1 : (0 : Int) ≤ k := by omega
      have hb2 : (k : Int) < n := by omega
      by_cases hx : x = 0
      · subst hx
        go_wp2_with fail
        go_round
        case rel => exact ⟨k + 1, by omega, by go_num, by rw [HO.out, HD.out]; simp⟩
        case measure => simp [intOf]; omega
      · have hx' : (x != 0) = true := by simp [hx]
        go_wp2_with fail
        go_ret
        exact ⟨ret_int (by rw [HO.out, HD.out, if_neg hx]), rfl⟩
    · obtain rfl : k = n := by omega
      go_wp2_with fail
      go_ret
      exact ⟨ret_int (by rw [HO.out, List.drop_of_length_le (by omega)]; rfl), rfl⟩

def Ord.cells (o : Ord) : Array Value := #[.int .i64 o.asked, .int .i64 o.want, .string o.gate, .int .i64 o.given, .bool o.done]
def Ord.Mild (o : Ord) : Prop := (0 ≤ o.asked ∧ o.asked ≤ 1000000000000) ∧ (1 ≤ o.want ∧ o.want ≤ 1000000000) ∧ (0 ≤ o.given ∧ o.given ≤ 1000000000)
abbrev OrdAt (w : World) (b : Nat) (o : Ord) : Prop := Blk w b 138 o.cells

set_option maxHeartbeats 1000000 in
theorem spread_next (gs ob : Nat) (c0 c1 c3 c4 : Value) (D : Int) (o : Ord) (w : World) (hs : Blk w gs 87 #[c0, c1, .int .i64 D, c3, c4]) (ho : OrdAt w ob o) (hD : 0 ≤ D ∧ D ≤ 8640000000) (ha : 0 ≤ o.asked ∧ o.asked ≤ 1000000000000) :
    Calls Tryz.prog 88 #[.pointer (some ⟨gs, 0, none⟩), .pointer (some ⟨ob, 0, none⟩)] w fun e w' => e = .returned (.int .i64 (o.next D)) ∧ ∃ q, w' = w.drewN q := by
  have s2 := hs.cell 2
  have o0 := ho.cell 0
  have o4 := ho.cell 4
  obtain ⟨asked, want, gate, given, done⟩ := o
  simp only [Ord.cells] at o0 o4
  simp at s2 o0 o4
  simp only at ha
  obtain ⟨a1, a2⟩ := ha
  obtain ⟨d1, d2⟩ := hD
  cases done
  · go_enter Tryz.func88, Tryz.ntmps88
    go_wp2_with fail
    go_quiet (fail)
    go_wp2_with fail
    go_ret
    exact ⟨ret_int (by simp [Ord.next]), _, rfl⟩
  · go_enter Tryz.func88, Tryz.ntmps88
    go_wp2_with fail
    go_quiet (fail)
    go_wp2_with fail
    go_ret
    exact ⟨ret_int (by simp [Ord.next]), _, rfl⟩

theorem spread_side (ob : Nat) (o : Ord) (w : World) (ho : OrdAt w ob o) :
    Calls Tryz.prog 99 #[.pointer (some ⟨ob, 0, none⟩)] w fun e w' => e = .returned (.int .i64 (evSide o.done)) ∧ w = w' := by
  have o4 := ho.cell 4
  obtain ⟨asked, want, gate, given, done⟩ := o
  simp only [Ord.cells] at o4
  simp at o4
  cases done
  · go_enter Tryz.func99, Tryz.ntmps99
    go_wp2_with fail
    go_ret
    exact ⟨rfl, rfl⟩
  · go_enter Tryz.func99, Tryz.ntmps99
    go_wp2_with fail
    go_ret
    exact ⟨rfl, rfl⟩

set_option maxRecDepth 100000 in
set_option maxHeartbeats 2000000 in
theorem spread_compare (gs oa ob : Nat) (c0 c1 c3 c4 : Value) (D : Int) (a b : Ord) (w : World) (hs : Blk w gs 87 #[c0, c1, .int .i64 D, c3, c4]) (ha : OrdAt w oa a) (hb : OrdAt w ob b) (hD : 0 ≤ D ∧ D ≤ 8640000000)
    (h1 : 0 ≤ a.asked ∧ a.asked ≤ 1000000000000) (h2 : 0 ≤ b.asked ∧ b.asked ≤ 1000000000000) :
    Calls Tryz.prog 89 #[.pointer (some ⟨gs, 0, none⟩), .pointer (some ⟨oa, 0, none⟩), .pointer (some ⟨ob, 0, none⟩)] w fun e w' => e = .returned (.int .i64 (evCmp (a.ev D) (b.ev D))) ∧ New w w' := by
  have na := fun (n : Nat) => spread_next gs oa c0 c1 c3 c4 D a (w.drewN n) hs ha hD h1
  have nb := fun (n : Nat) => spread_next gs ob c0 c1 c3 c4 D b (w.drewN n) hs hb hD h2
  have sa := fun (n : Nat) => spread_side oa a (w.drewN n) ha
  have sb := fun (n : Nat) => spread_side ob b (w.drewN n) hb
  have a0 := ha.cell 0
  have a2 := ha.cell 2
  have b0 := hb.cell 0
  have b2 := hb.cell 2
  simp only [Ord.cells] at a0 a2 b0 b2
  simp at a0 a2 b0 b2
  generalize hna : Ord.next D a = NA at *
  generalize hnb : Ord.next D b = NB at *
  generalize hsa : evSide a.done = SA at *
  generalize hsb : evSide b.done = SB at *
  have HE : Hid (orL [Lib.compareInt NA NB, Lib.compareInt SA SB, Lib.compareInt a.asked b.asked, Lib.compareBytes a.gate.data.toList b.gate.data.toList] = evCmp (a.ev D) (b.ev D)) := by
    refine Lib.hid ?_; unfold evCmp Ord.ev; simp only [hna, hnb, hsa, hsb]
  have HN := Lib.hid na
  have HB := Lib.hid nb
  have HSA := Lib.hid sa
  have HSB := Lib.hid sb
  clear na nb sa sb hs ha hb hna hnb hsa hsb
  go_enter Tryz.func89, Tryz.ntmps89
  go_wp2_with fail
  refine wp_region_quiet_tail 32 (by kernel_rfl) (by kernel_rfl) ?_
  simp only [List.take_succ_cons, List.take_zero, List.drop_succ_cons, List.drop_zero]
  repeat (go_big_quiet_step (first | (go_at_call 88; first | (with_reducible exact Calls.quiet_of (HN.out _)) | (with_reducible exact Calls.quiet_of (HB.out _))) | (go_at_call 99; first | (with_reducible exact quiet_left (HSA.out _)) | (with_reducible exact quiet_left (HSB.out _))) | (go_at_call 96; with_reducible exact Calls.quiet_of_same (Tryz.cmp_Compare_int _ _ _)) | (go_at_call 97; with_reducible exact Calls.quiet_of_same (Tryz.strings_Compare _ _ _))))
  refine wpQuiet_nil ?_
  intro _ hw'
  obtain ⟨nq, hw''⟩ := hw'
  subst hw''
  go_wp2_with fail
  refine (cmpOr_int [Lib.compareInt NA NB, Lib.compareInt SA SB, Lib.compareInt a.asked b.asked, Lib.compareBytes a.gate.data.toList b.gate.data.toList] _ 4 _ (Blk.new _ _ _) rfl (by omega)).mono ?_
  rintro e w' ⟨rfl, rfl⟩
  go_wp2_with fail
  go_ret
  exact ⟨ret_int HE.out, (by with_reducible (repeat (first | exact Mod.refl _ _ | refine Mod.drewN ?_ _ | refine Mod.drew ?_ | refine Mod.alloc ?_ _)))⟩

end Go.Proofs.YtinnckbffblecaaGreat
