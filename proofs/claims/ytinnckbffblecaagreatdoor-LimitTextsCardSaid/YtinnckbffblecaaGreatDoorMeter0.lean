/- The meter of one limit that is asked once: the statements' own first look at package limit. No conditions. -/
import Derived.Test.YtinnckbffblecaaGreatDoorAsks
import Derived.Test.YtinnckbffblecaaGreatDoorOwn
import Derived.Test.YtinnckbffblecaaGreatDoorWin
import Derived.Carry
import Derived.StillTailTactics
import Derived.Test.YtinnckbffblecaaGreatDoorMaps
namespace Go.Proofs.YtinnckbffblecaaGreatDoor
open Go.RowKit
set_option linter.unusedVariables false
set_option linter.unusedSimpArgs false

theorem einfo_lim : EInfo Tryz.prog 38 5 48 := EInfo.of (z := .agg #[.string ⟨#[]⟩, .int .i64 0, .int .i64 0, .int .i64 0, .int .i64 0]) (by kernel_rfl) rfl (by decide)
theorem Lim.one (l : Lim) (j : Nat) (hj : j < 5) : (l.enc j).oneCell' = true := by
  match j, hj with
  | 0, _ => rfl
  | 1, _ => rfl
  | 2, _ => rfl
  | 3, _ => rfl
  | 4, _ => rfl

def RLims (w : World) (n : Nat) (ls : List Lim) (e : Ending) (w' : World) : Prop := ∃ A c, e = .returned (.slice A n c) ∧ Own w' w.heap.size 38 5 Lim.enc A n c ls ∧ New w w'

set_option maxHeartbeats 1000000 in
theorem clone_limits (ls : List Lim) (g o n c : Nat) (w : World) (hl : LimRows w (some ⟨g, o, none⟩) n ls) (h0 : 0 < n) (hn : n < 1000) :
    Calls Tryz.prog 71 #[.slice (some ⟨g, o, none⟩) n c] w (RLims w n ls) := by
  have hq := fun w : World => Lib.run_eql_slice_nil (P := Tryz.prog) w 26 38 (some ⟨g, o, none⟩) n c 0 0 Tryz.underlying26
  simp at hq
  have hown : Own (w.alloc (.cells #[] 38)) w.heap.size 38 5 Lim.enc (some ⟨w.heap.size, 0, none⟩) 0 0 ([] : List Lim) := Own.of_blk (xs := []) (Blk.new _ _ _) (Nat.le_refl _) rfl (by omega)
  have hm0 : New w (w.alloc (.cells #[] 38)) := (Mod.refl _ _).alloc _
  go_enter Tryz.func71, Tryz.ntmps71
  go_wp2_with (at_builtin; refine wpList_pushAll rfl _ _ _ rfl 48 Tryz.underlying26 einfo_lim rfl hown ls g o n c rfl (hl.new hm0) h0 (fun y _ j hj => Lim.one y j hj) (by omega) (by omega) (by simp) ?_; intro g1 cap w1 hown1 hm1 hat hlt1)
  simp only [Nat.zero_add, List.nil_append] at hown1
  go_ret
  exact ⟨_, _, by simp, hown1, hown.push_mod hm0 hm1 (Nat.le_refl _)⟩

/-- a meter that was just made -/
def RMeter0 (w : World) (n : Nat) (ls : List Lim) (e : Ending) (w' : World) : Prop := ∃ gm mb A c, e = .returned (.pointer (some ⟨gm, 0, none⟩)) ∧ w.heap.size ≤ gm ∧ w.heap.size ≤ mb ∧
  Own w' w.heap.size 38 5 Lim.enc A n c ls ∧ Blk w' gm 106 #[.slice A n c, .int .i64 0, .map (some mb)] ∧ w'.heap[mb]? = some (.map #[] 0) ∧ New w w'

set_option maxHeartbeats 1000000 in
theorem new_meter (ls : List Lim) (g o n c : Nat) (w : World) (hl : LimRows w (some ⟨g, o, none⟩) n ls) (h0 : 0 < n) (hn : n < 1000) :
    Calls Tryz.prog 54 #[.slice (some ⟨g, o, none⟩) n c] w (RMeter0 w n ls) := by
  have hmm := @run_makeMap Tryz.prog
  go_enter Tryz.func54, Tryz.ntmps54
  go_wp2_with fail
  refine (clone_limits ls g o n c _ hl h0 hn).mono ?_
  rintro e w1 ⟨A, cA, rfl, hown, hm⟩
  have hz := hm.size
  go_wp2_with fail
  go_ret
  refine ⟨w1.heap.size + 1, w1.heap.size, A, cA, by simp, by omega, by omega, (hown.alloc _).alloc _, Blk.new' _ _ (by simp), ?_, (hm.alloc _).alloc _⟩
  rw [Below.heap_alloc _ _ _ (by simp), heap_alloc_new]

theorem meter_timeFault (gm : Nat) (cs0 cs2 : Value) (now at_ : Int) (w : World) (hb : Blk w gm 106 #[cs0, .int .i64 now, cs2]) (h : now ≤ at_) :
    Calls Tryz.prog 72 #[.pointer (some ⟨gm, 0, none⟩), .int .i64 at_] w fun e w' => e = .returned (.int .i64 0) ∧ w = w' := by
  have c1 := hb.cell 1
  simp at c1
  go_enter Tryz.func72, Tryz.ntmps72
  go_wp2_with fail
  go_ret
  exact ⟨rfl, rfl⟩

def lim0 : Lim := ⟨⟨#[119]⟩, 1, 1, 10, 0⟩
def RWin0 (w : World) (l : Lim) (e : Ending) (w' : World) : Prop := ∃ g, e = .returned (.iface 145 (.pointer (some ⟨g, 0, none⟩))) ∧ w.heap.size ≤ g ∧ WinAt w' g l 0 0 ∧ New w w'
set_option maxHeartbeats 1000000 in
theorem new_counter1 (l : Lim) (h1 : l.kind = 1) (w : World) : Calls Tryz.prog 92 #[l.val] w (RWin0 w l) := by
  obtain ⟨key, kind, most, per, burst⟩ := l
  simp only at h1
  subst h1
  simp only [Lim.val]
  go_enter Tryz.func92, Tryz.ntmps92
  go_wp2_with fail
  go_ret
  exact ⟨w.heap.size + 1, by simp, by omega, Blk.new' _ _ (by simp), (by with_reducible (repeat (first | exact Mod.refl _ _ | refine Mod.drewN ?_ _ | refine Mod.drew ?_ | refine Mod.alloc ?_ _)))⟩

theorem einfo_counter : EInfo Tryz.prog 113 1 16 := EInfo.of (z := .nilIface) (by kernel_rfl) rfl (by decide)
abbrev valEnc (x : Value) : Nat → Value := fun _ => x

def RCounters0 (w : World) (e : Ending) (w' : World) : Prop := ∃ A c g, e = .returned (.tuple #[.slice A 1 c, .bool false]) ∧ w.heap.size ≤ g ∧
  Own w' w.heap.size 113 1 valEnc A 1 c [.iface 145 (.pointer (some ⟨g, 0, none⟩))] ∧ WinAt w' g lim0 0 0 ∧ New w w'

set_option maxHeartbeats 1000000 in
theorem meter_counters0 (gm mb : Nat) (A : Option Addr) (c B : Nat) (w : World) (hb : Blk w gm 106 #[.slice A 1 c, .int .i64 0, .map (some mb)]) (hmap : MapOf strKeys w mb [])
    (hl : Own w B 38 5 Lim.enc A 1 c [lim0]) :
    Calls Tryz.prog 73 #[.pointer (some ⟨gm, 0, none⟩), .string ⟨#[97]⟩] w (RCounters0 w) := by
  have c0 := hb.cell 0
  have c2 := hb.cell 2
  simp at c0 c2
  have hz : (zeroValue 108).run Tryz.prog w = .ok (.slice none 0 0) w := by kernel_rfl
  have hlook : (Instr.lookup 104 (.map (some mb)) (.string ⟨#[97]⟩) true).run Tryz.prog w = .ok (.tuple #[.slice none 0 0, .bool false]) w :=
    run_lookup_ok (K := strKeys) Tryz.underlying104 Tryz.underlying9 hz hmap ⟨#[97]⟩
  clear hz
  go_enter Tryz.func73, Tryz.ntmps73
  go_wp2_with fail
  clear hlook
  go_loopw [8, 10, 27] (fun o _ i wr => (i = .int .i64 0 ∧ o = .slice none 0 0 ∧ wr = w) ∨ (i = .int .i64 1 ∧ ∃ A c g, o = .slice A 1 c ∧ w.heap.size ≤ g ∧
     Own wr w.heap.size 113 1 valEnc A 1 c [.iface 145 (.pointer (some ⟨g, 0, none⟩))] ∧ WinAt wr g lim0 0 0 ∧ New w wr)) (fun _ _ i _ => 1 - (intOf i).toNat)
  case atStart => exact .inl ⟨rfl, rfl, rfl⟩
  case round =>
    rcases hrel with ⟨rfl, rfl, rfl⟩ | ⟨rfl, A1, cA, g, rfl, hg, hown, hwin, hm⟩
    · obtain ⟨g0, o0, rfl, htb, hc⟩ := hl.sl.2 (by omega)
      have d0 := hc 0 (by simp) 0 (by omega)
      have d1 := hc 0 (by simp) 1 (by omega)
      have d2 := hc 0 (by simp) 2 (by omega)
      have d3 := hc 0 (by simp) 3 (by omega)
      have d4 := hc 0 (by simp) 4 (by omega)
      simp [Lim.enc, lim0] at d0 d1 d2 d3 d4
      have hlt := htb.lt
      clear hc
      go_wp2_with fail
      refine (new_counter1 lim0 rfl _).mono ?_
      rintro e w1 ⟨g, rfl, hg, hwin, hm⟩
      obtain ⟨hm1, hz1, -⟩ := hm.pre
      have hown : Own (w1.alloc (.cells #[.iface 145 (.pointer (some ⟨g, 0, none⟩))] 113)) wr.heap.size 113 1 valEnc none 0 0 [] := Own.nil
      go_wp2_with (at_builtin; refine wpList_push rfl _ _ _ rfl 16 Tryz.underlying108 einfo_counter rfl hown (.iface 145 (.pointer (some ⟨g, 0, none⟩))) w1.heap.size rfl (Blk.new _ _ _) (fun _ _ => rfl) (by omega) (by omega) (by simp; omega) ?_; intro g2 cap w2 hown2 hm2 hat hlt2)
      have hm3 : New w1 w2 := ((Mod.refl (fun _ => False) w1).alloc _).step hm2 (fun i _ e => by cases e)
      refine ⟨.inr ⟨rfl, _, _, g, rfl, ?_, by simpa using hown2, hwin.mod hm3 (fun h => h), hm1.trans hm3⟩, by simp [intOf]⟩
      simp at hg; omega
    · go_wp2_with fail
      go_ret2
      exact ⟨A1, cA, g, rfl, hg, hown, hwin, hm⟩

theorem win_most_method (n : Nat) (a : Addr) (w : World) : (method (n + 1) 145 (.pointer (some a)) "gatewarden/limit.most").run Tryz.prog w = .ok (133, .pointer (some a)) w := by kernel_rfl
theorem win_most_ahead (n : Nat) (a : Addr) (w : World) : (nilAhead (n + 1) 145 (.pointer (some a)) "gatewarden/limit.most").run Tryz.prog w = .ok (some false) w := by kernel_rfl
theorem win_add_method (n : Nat) (a : Addr) (w : World) : (method (n + 1) 145 (.pointer (some a)) "gatewarden/limit.add").run Tryz.prog w = .ok (131, .pointer (some a)) w := by kernel_rfl
theorem win_add_ahead (n : Nat) (a : Addr) (w : World) : (nilAhead (n + 1) 145 (.pointer (some a)) "gatewarden/limit.add").run Tryz.prog w = .ok (some false) w := by kernel_rfl

theorem quiet_add2 {P : Program} {f : FuncId} {args : Array Value} {w : World} {a n : Nat} {v : Value}
    (h : Calls P f args (w.drewN (a + n)) fun e w' => e = .returned v ∧ ∃ m, w' = (w.drewN (a + n)).drewN m) :
    Calls P f args (w.drewN (a + n)) fun e w'' => e = .returned v ∧ ∃ m, w'' = w.drewN (a + m) :=
  h.mono fun _ _ ⟨he, m, hm⟩ => ⟨he, n + m, by rw [hm, World.drewN_drewN, Nat.add_assoc]⟩

def ask0 : AskD := ⟨0, ⟨#[97]⟩, 1, 0⟩
def verdict0 : Value := .agg #[.bool true, .string ⟨#[]⟩, .int .i64 0]

set_option maxHeartbeats 1000000 in
theorem meter_verdict0 (gm : Nat) (A : Option Addr) (c B g : Nat) (w : World) (hown : Own w B 113 1 valEnc A 1 c [.iface 145 (.pointer (some ⟨g, 0, none⟩))]) (hwin : WinAt w g lim0 0 0) :
    Calls Tryz.prog 74 #[.pointer (some ⟨gm, 0, none⟩), .slice A 1 c, ask0.val] w fun e w' => e = .returned verdict0 ∧ New w w' := by
  have m1 := win_most_method
  have m2 := win_most_ahead
  simp only [AskD.val, ask0]
  go_enter Tryz.func74, Tryz.ntmps74
  go_wp2_with fail
  have hN : New w (((w.alloc (.cells #[.int .i64 0, .string ⟨#[97]⟩, .int .i64 1, .int .i64 0] 76)).alloc (.cells #[.bool false, .string ⟨#[]⟩, .int .i64 0] 80)).alloc (.cells #[.bool true, .string ⟨#[]⟩, .int .i64 0] 80)) := (by with_reducible (repeat (first | exact Mod.refl _ _ | refine Mod.drewN ?_ _ | refine Mod.drew ?_ | refine Mod.alloc ?_ _)))
  have b0 : Blk (((w.alloc (.cells #[.int .i64 0, .string ⟨#[97]⟩, .int .i64 1, .int .i64 0] 76)).alloc (.cells #[.bool false, .string ⟨#[]⟩, .int .i64 0] 80)).alloc (.cells #[.bool true, .string ⟨#[]⟩, .int .i64 0] 80)) w.heap.size 76 #[.int .i64 0, .string ⟨#[97]⟩, .int .i64 1, .int .i64 0] := ((Blk.new _ _ _).mod ((Mod.refl (fun _ => False) _).alloc _) (fun h => h)).mod ((Mod.refl (fun _ => False) _).alloc _) (fun h => h)
  have b1 : Blk (((w.alloc (.cells #[.int .i64 0, .string ⟨#[97]⟩, .int .i64 1, .int .i64 0] 76)).alloc (.cells #[.bool false, .string ⟨#[]⟩, .int .i64 0] 80)).alloc (.cells #[.bool true, .string ⟨#[]⟩, .int .i64 0] 80)) (w.heap.size + 1) 80 #[.bool false, .string ⟨#[]⟩, .int .i64 0] := (Blk.new' _ _ (by simp)).mod ((Mod.refl (fun _ => False) _).alloc _) (fun h => h)
  have b2 : Blk (((w.alloc (.cells #[.int .i64 0, .string ⟨#[97]⟩, .int .i64 1, .int .i64 0] 76)).alloc (.cells #[.bool false, .string ⟨#[]⟩, .int .i64 0] 80)).alloc (.cells #[.bool true, .string ⟨#[]⟩, .int .i64 0] 80)) (w.heap.size + 1 + 1) 80 #[.bool true, .string ⟨#[]⟩, .int .i64 0] := Blk.new' _ _ (by simp)
  have hown := hown.new hN
  have hwin := hwin.mod hN (fun h => h)
  generalize (((w.alloc (.cells #[.int .i64 0, .string ⟨#[97]⟩, .int .i64 1, .int .i64 0] 76)).alloc (.cells #[.bool false, .string ⟨#[]⟩, .int .i64 0] 80)).alloc (.cells #[.bool true, .string ⟨#[]⟩, .int .i64 0] 80)) = W at *
  go_loopw [8, 9, 10, 14] (fun _ _ _ i wr => (i = .int .i64 0 ∨ i = .int .i64 1) ∧ ∃ q, wr = W.drewN q) (fun _ _ _ i _ => 1 - (intOf i).toNat)
  case atStart => exact ⟨.inl rfl, 0, rfl⟩
  case round =>
    obtain ⟨hi, q, rfl⟩ := hrel
    have e0 := b0.cell 0
    have e2 := b0.cell 2
    simp at e0 e2
    rcases hi with rfl | rfl
    · obtain ⟨g0, o0, rfl, htb, hc⟩ := hown.sl.2 (by omega)
      have d0 : W.cell? ⟨g0, o0, none⟩ = some (.iface 145 (.pointer (some ⟨g, 0, none⟩))) := by simpa using hc 0 (by simp) 0 (by omega)
      have hlt := htb.lt
      clear hc
      go_wp2_with fail
      go_quiet ((go_at_call 133; exact quiet_add2 (win_most lim0 g 0 0 0 _ hwin (by decide) (by decide) (by decide) (by decide) (by decide) (by decide) (by decide))))
      have hq : lim0.most - winUsed lim0 0 0 0 = 1 := by decide
      rw [hq]
      go_wp2_with fail
      refine ⟨⟨.inr rfl, _, rfl⟩, by simp [intOf]⟩
    · have e20 := b2.cell 0
      have e21 := b2.cell 1
      have e22 := b2.cell 2
      have e10 := b1.cell 0
      have e11 := b1.cell 1
      have e12 := b1.cell 2
      have f10 := b1.frozen
      simp at e20 e21 e22 e10 e11 e12
      go_wp2_with fail
      refine bodyPost_ret (v := verdict0) (by simp [results, Tryz.results74, go_sem, e20, e21, e22, e10, e11, e12, f10, verdict0]) rfl ⟨rfl, ?_⟩
      refine Mod.setCell (Mod.setCell (Mod.setCell (hN.drewN _) (.inr ?_) _) (.inr ?_) _) (.inr ?_) _ <;> simp

def RAsk0 (gm mb : Nat) (w : World) (e : Ending) (w' : World) : Prop := e = .returned (.tuple #[verdict0, .int .i64 0]) ∧ Mod (fun k => k = gm ∨ k = mb) w w'

set_option maxRecDepth 100000 in
set_option maxHeartbeats 2000000 in
theorem meter_ask0 (gm mb : Nat) (A : Option Addr) (c B : Nat) (w : World) (hb : Blk w gm 106 #[.slice A 1 c, .int .i64 0, .map (some mb)]) (hmap : MapOf strKeys w mb [])
    (hl : Own w B 38 5 Lim.enc A 1 c [lim0]) :
    Calls Tryz.prog 55 #[.pointer (some ⟨gm, 0, none⟩), ask0.val] w (RAsk0 gm mb w) := by
  have m1 := win_add_method
  have m2 := win_add_ahead
  have hbl := hb.lt
  have hml := hmap.lt
  simp only [AskD.val, ask0]
  go_enter Tryz.func55, Tryz.ntmps55
  go_wp2_with fail
  refine (limit_askFault ask0 _ (by decide)).mono ?_
  rintro e w1 ⟨rfl, hm⟩
  obtain ⟨hm1, hz1, n1⟩ := hm.pre
  have b1 : Blk w1 (w.heap.size + 1) 80 #[.bool false, .string ⟨#[]⟩, .int .i64 0] := by
    have := n1 (fun h => h)
    rw [show (w.alloc (Obj.cells #[.int .i64 0, .string ⟨#[97]⟩, .int .i64 1, .int .i64 0] 76)).heap.size = w.heap.size + 1 by simp] at this
    exact this
  obtain ⟨hm2, hz2, n2⟩ := hm1.pre
  have b0 : Blk w1 w.heap.size 76 _ := n2 (fun h => h)
  have hf0 : askFault ask0 = 0 := by decide
  rw [hf0]
  clear hm hm1 n1 n2 hf0
  have hb1 := hb.mod hm2 (fun h => h)
  have hmap1 := hmap.mod hm2 (fun h => h)
  have hl1 := hl.new hm2
  have e0 := b0.cell 0
  have e1 := b0.cell 1
  have e2 := b0.cell 2
  have e3 := b0.cell 3
  simp at e0 e1 e2 e3
  go_wp2_with fail
  refine (meter_timeFault gm _ _ 0 0 _ hb1 (by omega)).mono ?_
  rintro e w2 ⟨rfl, rfl⟩
  go_wp2_with fail
  refine (meter_counters0 gm mb A c B _ hb1 hmap1 hl1).mono ?_
  rintro e w2 ⟨A2, c2, gw, rfl, hg2, hown2, hwin2, hm3⟩
  clear e0 e1 e2 e3
  have b0 := b0.mod hm3 (fun h => h)
  have b1 := b1.mod hm3 (fun h => h)
  have e0 := b0.cell 0
  have e1 := b0.cell 1
  have e2 := b0.cell 2
  have e3 := b0.cell 3
  simp at e0 e1 e2 e3
  have hm4 := hm2.trans hm3
  have hb2 := hb1.mod hm3 (fun h => h)
  have hmap2 := hmap1.mod hm3 (fun h => h)
  clear hm2 hm3 hb1 hmap1 hl1 hl hb hmap
  go_wp2_with fail
  refine (meter_verdict0 gm A2 c2 _ gw _ hown2 hwin2).mono ?_
  rintro e w3 ⟨rfl, hm5⟩
  simp only [verdict0]
  clear e0 e1 e2 e3
  have b0 := b0.mod hm5 (fun h => h)
  have b1 := b1.mod hm5 (fun h => h)
  have hm6 := hm4.trans hm5
  have hb3 := hb2.mod hm5 (fun h => h)
  have hmap3 := hmap2.mod hm5 (fun h => h)
  have hown3 := hown2.new hm5
  have hwin3 := hwin2.mod hm5 (fun h => h)
  have hz5 := hm5.size
  have hz6 := hwin2.lt
  have hsz3 : w.heap.size + 1 < w3.heap.size := by have := b1.lt; omega
  clear hm4 hm5 hb2 hmap2 hown2 hwin2
  have hN : New w3 (w3.alloc (.cells #[.bool true, .string ⟨#[]⟩, .int .i64 0] 80)) := (by with_reducible (repeat (first | exact Mod.refl _ _ | refine Mod.drewN ?_ _ | refine Mod.drew ?_ | refine Mod.alloc ?_ _)))
  have hlen := fun ty => run_len_map (P := Tryz.prog) 104 ty Tryz.underlying104 (hmap3.mod hN (fun h => h))
  simp only [List.length_nil] at hlen
  have e0 := b0.cell 0
  have e1 := b0.cell 1
  have e2 := b0.cell 2
  have e3 := b0.cell 3
  have g2 := hb3.cell 2
  simp at e0 e1 e2 e3 g2
  have l1 : gm < w3.heap.size := hb3.lt
  have l2 : w.heap.size < w3.heap.size := b0.lt
  obtain ⟨w4, hrun, hmap4, ho4, hs4⟩ := run_mapUpdate (P := Tryz.prog) (K := strKeys) (w := (w3.alloc (.cells #[.bool true, .string ⟨#[]⟩, .int .i64 0] 80)).drew) Tryz.underlying104 Tryz.underlying9 (hmap3.mod hN.drew (fun h => h)) ⟨#[97]⟩ (.slice A2 1 c2)
  have hrun' : (Instr.mapUpdate 104 (.map (some mb)) (.string ⟨#[97]⟩) (.slice A2 1 c2)).run Tryz.prog (w3.alloc (.cells #[.bool true, .string ⟨#[]⟩, .int .i64 0] 80)).drew = .ok () w4 := hrun
  clear hrun
  have b3 := (Blk.new w3 80 #[.bool true, .string ⟨#[]⟩, .int .i64 0])
  have hmb : mb < w.heap.size := hml
  have hne1 : ∀ g t, TB w3 g t → ¬ g = mb := fun g t h => hmap3.ne_blk h
  have hND := hN.drew
  have b04 := (b0.mod hND (fun h => h)).mod ho4 (by omega)
  have b14 := (b1.mod hND (fun h => h)).mod ho4 (by omega)
  have b34 : Blk w4 w3.heap.size 80 #[.bool true, .string ⟨#[]⟩, .int .i64 0] := Blk.mod (w := (w3.alloc (.cells #[.bool true, .string ⟨#[]⟩, .int .i64 0] 80)).drew) b3 ho4 (by omega)
  have hb4 := (hb3.mod hND (fun h => h)).mod ho4 (hne1 _ _ hb3.tb)
  have hwin4 : WinAt w4 gw lim0 0 0 := (hwin3.mod hND (fun h => h)).mod ho4 (hne1 _ _ hwin3.tb)
  have hown4 : Own w4 w1.heap.size 113 1 valEnc A2 1 c2 [.iface 145 (.pointer (some ⟨gw, 0, none⟩))] := (hown3.new hND).mod ho4 (fun g hg => by
    rcases hown3.blk with ⟨hA, hn, _⟩ | ⟨g', hA, _, htb⟩
    · omega
    · subst hA; injection hg with hg; subst hg; exact hne1 _ _ htb)
  have hm7 : Mod (fun k => k = gm ∨ k = mb) w w4 := (((hm6.mono (fun _ _ h => h.elim)).alloc _).drew).step ho4 (fun i _ e => .inr e)
  have hz4 : w3.heap.size < w4.heap.size := b34.lt
  clear hne1 ho4 hb3 hmap3 hown3 hwin3 b0 b1 b3 hND hN hm6
  go_wp2_with fail
  go_region
  clear hrun' hlen e0 e1 e2 e3 g2
  go_wp2_with fail
  go_loopw [12, 60] (fun _ i wr => (i = .int .i64 0 ∧ wr = w4) ∨ (i = .int .i64 1 ∧ Only gw w4 wr)) (fun _ i _ => 1 - (intOf i).toNat)
  case atStart => exact .inl ⟨rfl, rfl⟩
  case round =>
    rcases hrel with ⟨rfl, rfl⟩ | ⟨rfl, ho5⟩
    · obtain ⟨g0, o0, rfl, htb, hc⟩ := hown4.sl.2 (by omega)
      have d0 : wr.cell? ⟨g0, o0, none⟩ = some (.iface 145 (.pointer (some ⟨gw, 0, none⟩))) := by simpa using hc 0 (by simp) 0 (by omega)
      clear hc
      have e0 := b04.cell 0
      have e1 := b04.cell 1
      have e2 := b04.cell 2
      have e3 := b04.cell 3
      simp at e0 e1 e2 e3
      go_wp2_with fail
      refine (win_add lim0 gw 0 0 0 1 0 _ hwin4 (by decide) (by decide) (by decide) (by decide) (by decide) (by decide) (by decide)).mono ?_
      rintro e w5 ⟨rfl, ho5, -⟩
      go_wp2_with fail
      exact ⟨.inr ⟨rfl, ho5⟩, by simp [intOf]⟩
    · have hgw : w1.heap.size ≤ gw := hg2
      have n1 : w.heap.size ≠ gw := by omega
      have n2 : w.heap.size + 1 ≠ gw := by have := hz1; simp at this; omega
      have n3 : w3.heap.size ≠ gw := by omega
      have n4 : gm ≠ gw := by omega
      have b05 := b04.mod ho5 n1
      have b15 := b14.mod ho5 n2
      have b35 := b34.mod ho5 n3
      have hb5 := hb4.mod ho5 n4
      have e0 := b05.cell 0
      have v0 := b35.cell 0
      have v1 := b35.cell 1
      have v2 := b35.cell 2
      have r0 := b15.cell 0
      have r1 := b15.cell 1
      have r2 := b15.cell 2
      have fr := b15.frozen
      have g1 := hb5.cell 1
      have fg := hb5.frozen 1
      have n5 : w.heap.size + 1 ≠ gm := by omega
      have n6 : w3.heap.size ≠ gm := by omega
      have n7 : w.heap.size + 1 ≠ w3.heap.size := by omega
      simp at e0 v0 v1 v2 r0 r1 r2 g1
      have hm8 : Mod (fun k => k = gm ∨ k = mb) w wr := hm7.step ho5 (fun i hi e => by omega)
      go_wp2_with fail
      refine bodyPost_ret (v := .tuple #[verdict0, .int .i64 0]) (by simp [results, Tryz.results55, go_sem, v0, v1, v2, r0, r1, r2, fr, g1, fg, n5, n6, n7, verdict0]) rfl ⟨rfl, ?_⟩
      refine Mod.setCell (Mod.setCell (Mod.setCell (Mod.setCell hm8 (.inl (.inl rfl)) _) (.inr ?_) _) (.inr ?_) _) (.inr ?_) _ <;> simp

end Go.Proofs.YtinnckbffblecaaGreatDoor
