/- What Stream.Limits hands out: up to four limits with short keys and numbers of modest size. Conditions: those of the stream. -/
import Derived.Test.YtinnckbffblecaaGreatDoorMake
import Derived.Test.YtinnckbffblecaaGreatDoorLimits
import Derived.Test.YtinnckbffblecaaGreatDoorOwn
import Derived.Test.YtinnckbffblecaaGreatDoorLaw
import Derived.Test.YtinnckbffblecaaGreatDoorMeter0
namespace Go.Proofs.YtinnckbffblecaaGreatDoor
open Go.RowKit
set_option linter.unusedVariables false
set_option linter.unusedSimpArgs false

def Lim.Fine (l : Lim) : Prop := l.key.size ≤ 2 ∧ l.Small
def RMade (b : Nat) (w : World) (k : Nat) (e : Ending) (w' : World) : Prop := ∃ A n c ls, e = .returned (.slice A n c) ∧ LimRows w' A n ls ∧ n ≤ 4 ∧ (∀ l ∈ ls, l.Fine) ∧ SStep b w w' k


theorem Only.cell1' (w : World) (g i : Nat) (u : Value) : Only g w (w.setCell ⟨g, i, none⟩ u) := Mod.setCell (S := fun k => k = g) (p := ⟨g, i, none⟩) (Mod.refl _ _) (.inl rfl) u

set_option maxRecDepth 100000 in
set_option maxHeartbeats 2000000 in
theorem stream_limits (b k : Nat) (w : World) (hs : SInv b w k) (hk : k < 4611686018427000000) :
    Calls Tryz.prog 4 #[.pointer (some ⟨b, 0, none⟩)] w (RMade b w (k + 30)) := by
  have hb := hs.lt
  go_enter Tryz.func4, Tryz.ntmps4
  go_wp2_with fail
  have T0 := (SStep.refl hs).alloc (.cells #[.string ⟨#[108, 97]⟩, .string ⟨#[108, 98]⟩, .string ⟨#[108, 99]⟩] 9)
  have BK := Blk.new w 9 #[.string ⟨#[108, 97]⟩, .string ⟨#[108, 98]⟩, .string ⟨#[108, 99]⟩]
  generalize w.alloc (.cells #[.string ⟨#[108, 97]⟩, .string ⟨#[108, 98]⟩, .string ⟨#[108, 99]⟩] 9) = w0 at *
  go_loopw [3, 5, 9] (fun t _ i wr => ∃ (j m c : Nat) (A : Option Addr) (ls : List Lim), j ≤ 3 ∧ i = .int .i64 j ∧ m ≤ j ∧ t = .slice A m c ∧ Own wr w0.heap.size 38 5 Lim.enc A m c ls ∧ (∀ l ∈ ls, l.Fine) ∧ SStep b w wr (k + 5 * j) ∧ New w0 w0 ∧ Mod (fun i => i = b ∨ w0.heap.size ≤ i) w0 wr) (fun _ _ i _ => 3 - (intOf i).toNat)
  case atStart => exact ⟨0, 0, 0, none, [], by omega, rfl, by omega, rfl, Own.nil, by simp, T0, Mod.refl _ _, Mod.refl _ _⟩
  case round =>
    rename World => wr
    obtain ⟨j, m, c, A, ls, hj, rfl, hm, rfl, hown, hls, TK, -, hmod⟩ := hrel
    have HLS := Lib.hid hls
    clear hls
    have hw0 : b < w0.heap.size := T0.inv.lt
    have hwz : w.heap.size < w0.heap.size := BK.lt
    by_cases hlt : j < 3
    · have BKr := BK.mod hmod (by rintro (e | e) <;> omega)
      have hkey : ∃ key : ByteArray, key.size = 2 ∧ wr.cell? ⟨w.heap.size, j, none⟩ = some (.string key) := by
        rcases (by omega : j = 0 ∨ j = 1 ∨ j = 2) with rfl | rfl | rfl
        · exact ⟨⟨#[108, 97]⟩, rfl, (BKr.cell 0).trans rfl⟩
        · exact ⟨⟨#[108, 98]⟩, rfl, (BKr.cell 1).trans rfl⟩
        · exact ⟨⟨#[108, 99]⟩, rfl, (BKr.cell 2).trans rfl⟩
      obtain ⟨key, hks, hkc⟩ := hkey
      have hb1 : (0 : Int) ≤ j := by omega
      have hb2 : (j : Int) < 3 := by omega
      clear BKr
      go_wp2_with fail
      refine (flip_any b _ _ _ TK.inv (by omega) (by omega) (by omega)).mono ?_
      rintro e w1 ⟨q, rfl, h1⟩
      have own1 := hown.mod h1.only (fun g e => by have := hown.far g e; omega)
      have T1 := TK.trans h1
      have M1 : Mod (fun i => i = b ∨ w0.heap.size ≤ i) w0 w1 := hmod.trans (h1.only.mono (fun i _ e => .inl e))
      clear h1 hown TK hmod hkc
      cases q
      · go_wp2_with fail
        exact ⟨⟨j + 1, m, c, A, ls, by omega, by go_num, by omega, rfl, own1, HLS.out, T1.more (by omega), Mod.refl _ _, M1⟩, by simp [intOf]; omega⟩
      · go_wp2_with fail
        refine (rightLimit_any key b _ _ T1.inv (by omega)).mono ?_
        rintro e w2 ⟨l, rfl, hlk, hsm, h2⟩
        have own2 := own1.mod h2.only (fun g e => by have := own1.far g e; omega)
        have T2 := T1.trans h2
        have M2 : Mod (fun i => i = b ∨ w0.heap.size ≤ i) w0 w2 := M1.trans (h2.only.mono (fun i _ e => .inl e))
        have hz2 := M2.size
        clear h2 own1 T1 M1
        obtain ⟨lk, lkd, lm, lp, lb⟩ := l
        simp only at hlk
        subst hlk
        unfold Lim.val
        go_wp2_with (at_builtin; refine wpList_push rfl _ _ _ rfl 48 Tryz.underlying26 einfo_lim rfl (own2.alloc _) ⟨lk, lkd, lm, lp, lb⟩ w2.heap.size rfl (Blk.new _ _ _) (fun j hj => Lim.one _ j hj) (by omega) (by omega) (by simp; omega) ?_; intro g3 cap3 w3 own3 hm3 hat3 hlt3)
        have far3 := fun i (e : blkOf A = some i) => ((own2.alloc (.cells #[.string lk, .int .i64 lkd, .int .i64 lm, .int .i64 lp, .int .i64 lb] 38)).far i e).1
        have T3 := (T2.alloc (.cells #[.string lk, .int .i64 lkd, .int .i64 lm, .int .i64 lp, .int .i64 lb] 38)).mod hm3 (fun i e => by have := far3 i e; omega)
        refine ⟨⟨j + 1, m + 1, cap3, some ⟨g3, 0, none⟩, ls ++ [⟨lk, lkd, lm, lp, lb⟩], by omega, by go_num, by omega, rfl, own3, ?_, T3.more (by omega), Mod.refl _ _, ?_⟩, by simp [intOf]; omega⟩
        · intro x hx
          rcases List.mem_append.1 hx with h | h
          · exact HLS.out x h
          · simp at h; subst h; exact ⟨by simp only; omega, hsm⟩
        · exact (M2.alloc _).step hm3 (fun i hi e => .inr (far3 i e))
    · obtain rfl : j = 3 := by omega
      go_wp2_with fail
      refine (flip_any b _ _ _ TK.inv (by omega) (by omega) (by omega)).mono ?_
      rintro e w1 ⟨q, rfl, h1⟩
      have own1 := hown.mod h1.only (fun g e => by have := hown.far g e; omega)
      have T1 := TK.trans h1
      have hy0 := hmod.size
      have hy1 := h1.only.size
      clear h1 hown TK
      cases q
      · go_wp2_with fail
        go_ret
        exact ⟨A, m, c, ls, rfl, own1.sl, by omega, HLS.out, T1.more (by omega)⟩
      · go_wp2_with fail
        refine (some_any [⟨#[]⟩, ⟨#[108, 97]⟩, ⟨#[122, 122]⟩] b _ w1.heap.size 3 _ (T1.alloc _).inv (by omega) (Blk.new _ _ _) rfl (by omega) (by omega)).mono ?_
        rintro e w2 ⟨key, rfl, mk, h2⟩
        have hkey : key.size ≤ 2 := by simp at mk; rcases mk with rfl | rfl | rfl <;> decide
        have own2 := own1.mod h2.only.pre.1 (fun g e => by have := own1.far g e; omega)
        have T2 := (T1.alloc _).trans h2
        have hy2 := h2.only.size
        simp at hy2
        clear h2 own1 T1 mk
        go_wp2_with fail
        refine (rightLimit_any key b _ _ T2.inv (by omega)).mono ?_
        rintro e w4 ⟨l, rfl, hlk, hsm, h4⟩
        have own4 := own2.mod h4.only (fun g e => by have := own2.far g e; omega)
        have T4 := T2.trans h4
        have hy4 := h4.only.size
        have hz4 := T4.only.size
        have far4 := fun g (e : blkOf A = some g) => (own4.far g e).2
        clear h4 own2 T2
        obtain ⟨lk, lkd, lm, lp, lb⟩ := l
        simp only at hlk
        subst hlk
        obtain ⟨s1, s2, s3, s4⟩ := hsm
        simp only at s1 s2 s3 s4
        unfold Lim.val
        go_wp2_with fail
        refine (next_any b _ _ _ (T4.alloc _).inv (by omega) (by omega) (by omega)).mono ?_
        rintro e w5 ⟨d, rfl, hd0, hd1, h5⟩
        have own5 := own4.mod h5.only.pre.1 (fun g e => by have := own4.far g e; omega)
        have B5 := (Blk.new w4 38 #[.string lk, .int .i64 lkd, .int .i64 lm, .int .i64 lp, .int .i64 lb]).mod h5.only (by omega)
        have T5 := (T4.alloc _).trans h5
        have h5z := h5.only.size
        simp at h5z
        clear h5 own4 T4
        have hd : d = 0 ∨ d = 1 ∨ d = 2 ∨ d = 3 := by omega
        clear hd0 hd1
        rcases hd with rfl | rfl | rfl | rfl
        · go_wp2_with fail
          refine (odd_any b _ _ _ _ T5.inv (by omega) (by omega) (by omega) (by omega)).mono ?_
          rintro e w6 ⟨nv, rfl, o1, o2, h6⟩
          have own6 := own5.mod h6.only (fun g e => by have := own5.far g e; omega)
          have B6 := B5.mod h6.only (by omega)
          have T6 := T5.trans h6
          have f6 := B6.frozen 1
          have lt6 := B6.lt
          have d0 := B6.cell 0
          have d1 := B6.cell 1
          have d2 := B6.cell 2
          have d3 := B6.cell 3
          have d4 := B6.cell 4
          simp at d0 d1 d2 d3 d4
          have B7 := B6.set 1 (.int .i64 nv)
          simp at B7
          have own7 := own6.mod (Only.cell1' w6 w4.heap.size 1 (.int .i64 nv)) (fun g e e2 => by have := far4 g e; omega)
          have T7 := T6.set (p := ⟨w4.heap.size, 1, none⟩) (by have := hz4; show _ ≤ w4.heap.size; omega) (.int .i64 nv)
          have hz7 : w4.heap.size < (w6.setCell ⟨w4.heap.size, 1, none⟩ (.int .i64 nv)).heap.size := by simp [World.setCell]; omega
          clear h6 own5 B5 T5 own6 T6 h5z
          go_upto_region 18 with (fail)
          clear d0 d1 d2 d3 d4 f6 lt6 B6
          generalize w6.setCell ⟨w4.heap.size, 1, none⟩ (.int .i64 nv) = w7 at *
          have d0 := B7.cell 0
          have d1 := B7.cell 1
          have d2 := B7.cell 2
          have d3 := B7.cell 3
          have d4 := B7.cell 4
          simp at d0 d1 d2 d3 d4
          go_wp2_with (at_builtin; refine wpList_push rfl _ _ _ rfl 48 Tryz.underlying26 einfo_lim rfl (own7.alloc _) ⟨lk, nv, lm, lp, lb⟩ w7.heap.size rfl (Blk.new _ _ _) (fun j hj => Lim.one _ j hj) (by omega) (by omega) (by simp; omega) ?_; intro g8 cap8 w8 own8 hm8 hat8 hlt8)
          go_ret
          have far8 := fun i (e : blkOf A = some i) => (own7.far i e).1
          refine ⟨some ⟨g8, 0, none⟩, m + 1, cap8, ls ++ [⟨lk, nv, lm, lp, lb⟩], rfl, own8.sl, by omega, ?_, ((T7.alloc _).mod hm8 (fun i e => by have := far8 i e; omega)).more (by omega)⟩
          intro x hx
          rcases List.mem_append.1 hx with h | h
          · exact HLS.out x h
          · simp at h; subst h; exact ⟨hkey, by refine ⟨?_, ?_, ?_, ?_⟩ <;> (simp only; omega)⟩
        · go_wp2_with fail
          refine (odd_any b _ _ _ _ T5.inv (by omega) (by omega) (by omega) (by omega)).mono ?_
          rintro e w6 ⟨nv, rfl, o1, o2, h6⟩
          have own6 := own5.mod h6.only (fun g e => by have := own5.far g e; omega)
          have B6 := B5.mod h6.only (by omega)
          have T6 := T5.trans h6
          have f6 := B6.frozen 2
          have lt6 := B6.lt
          have d0 := B6.cell 0
          have d1 := B6.cell 1
          have d2 := B6.cell 2
          have d3 := B6.cell 3
          have d4 := B6.cell 4
          simp at d0 d1 d2 d3 d4
          have B7 := B6.set 2 (.int .i64 nv)
          simp at B7
          have own7 := own6.mod (Only.cell1' w6 w4.heap.size 2 (.int .i64 nv)) (fun g e e2 => by have := far4 g e; omega)
          have T7 := T6.set (p := ⟨w4.heap.size, 2, none⟩) (by have := hz4; show _ ≤ w4.heap.size; omega) (.int .i64 nv)
          have hz7 : w4.heap.size < (w6.setCell ⟨w4.heap.size, 2, none⟩ (.int .i64 nv)).heap.size := by simp [World.setCell]; omega
          clear h6 own5 B5 T5 own6 T6 h5z
          go_upto_region 18 with (fail)
          clear d0 d1 d2 d3 d4 f6 lt6 B6
          generalize w6.setCell ⟨w4.heap.size, 2, none⟩ (.int .i64 nv) = w7 at *
          have d0 := B7.cell 0
          have d1 := B7.cell 1
          have d2 := B7.cell 2
          have d3 := B7.cell 3
          have d4 := B7.cell 4
          simp at d0 d1 d2 d3 d4
          go_wp2_with (at_builtin; refine wpList_push rfl _ _ _ rfl 48 Tryz.underlying26 einfo_lim rfl (own7.alloc _) ⟨lk, lkd, nv, lp, lb⟩ w7.heap.size rfl (Blk.new _ _ _) (fun j hj => Lim.one _ j hj) (by omega) (by omega) (by simp; omega) ?_; intro g8 cap8 w8 own8 hm8 hat8 hlt8)
          go_ret
          have far8 := fun i (e : blkOf A = some i) => (own7.far i e).1
          refine ⟨some ⟨g8, 0, none⟩, m + 1, cap8, ls ++ [⟨lk, lkd, nv, lp, lb⟩], rfl, own8.sl, by omega, ?_, ((T7.alloc _).mod hm8 (fun i e => by have := far8 i e; omega)).more (by omega)⟩
          intro x hx
          rcases List.mem_append.1 hx with h | h
          · exact HLS.out x h
          · simp at h; subst h; exact ⟨hkey, by refine ⟨?_, ?_, ?_, ?_⟩ <;> (simp only; omega)⟩
        · go_wp2_with fail
          refine (odd_any b _ _ _ _ T5.inv (by omega) (by omega) (by omega) (by omega)).mono ?_
          rintro e w6 ⟨nv, rfl, o1, o2, h6⟩
          have own6 := own5.mod h6.only (fun g e => by have := own5.far g e; omega)
          have B6 := B5.mod h6.only (by omega)
          have T6 := T5.trans h6
          have f6 := B6.frozen 3
          have lt6 := B6.lt
          have d0 := B6.cell 0
          have d1 := B6.cell 1
          have d2 := B6.cell 2
          have d3 := B6.cell 3
          have d4 := B6.cell 4
          simp at d0 d1 d2 d3 d4
          have B7 := B6.set 3 (.int .i64 nv)
          simp at B7
          have own7 := own6.mod (Only.cell1' w6 w4.heap.size 3 (.int .i64 nv)) (fun g e e2 => by have := far4 g e; omega)
          have T7 := T6.set (p := ⟨w4.heap.size, 3, none⟩) (by have := hz4; show _ ≤ w4.heap.size; omega) (.int .i64 nv)
          have hz7 : w4.heap.size < (w6.setCell ⟨w4.heap.size, 3, none⟩ (.int .i64 nv)).heap.size := by simp [World.setCell]; omega
          clear h6 own5 B5 T5 own6 T6 h5z
          go_upto_region 18 with (fail)
          clear d0 d1 d2 d3 d4 f6 lt6 B6
          generalize w6.setCell ⟨w4.heap.size, 3, none⟩ (.int .i64 nv) = w7 at *
          have d0 := B7.cell 0
          have d1 := B7.cell 1
          have d2 := B7.cell 2
          have d3 := B7.cell 3
          have d4 := B7.cell 4
          simp at d0 d1 d2 d3 d4
          go_wp2_with (at_builtin; refine wpList_push rfl _ _ _ rfl 48 Tryz.underlying26 einfo_lim rfl (own7.alloc _) ⟨lk, lkd, lm, nv, lb⟩ w7.heap.size rfl (Blk.new _ _ _) (fun j hj => Lim.one _ j hj) (by omega) (by omega) (by simp; omega) ?_; intro g8 cap8 w8 own8 hm8 hat8 hlt8)
          go_ret
          have far8 := fun i (e : blkOf A = some i) => (own7.far i e).1
          refine ⟨some ⟨g8, 0, none⟩, m + 1, cap8, ls ++ [⟨lk, lkd, lm, nv, lb⟩], rfl, own8.sl, by omega, ?_, ((T7.alloc _).mod hm8 (fun i e => by have := far8 i e; omega)).more (by omega)⟩
          intro x hx
          rcases List.mem_append.1 hx with h | h
          · exact HLS.out x h
          · simp at h; subst h; exact ⟨hkey, by refine ⟨?_, ?_, ?_, ?_⟩ <;> (simp only; omega)⟩
        · go_wp2_with fail
          refine (odd_any b _ _ _ _ T5.inv (by omega) (by omega) (by omega) (by omega)).mono ?_
          rintro e w6 ⟨nv, rfl, o1, o2, h6⟩
          have own6 := own5.mod h6.only (fun g e => by have := own5.far g e; omega)
          have B6 := B5.mod h6.only (by omega)
          have T6 := T5.trans h6
          have f6 := B6.frozen 4
          have lt6 := B6.lt
          have d0 := B6.cell 0
          have d1 := B6.cell 1
          have d2 := B6.cell 2
          have d3 := B6.cell 3
          have d4 := B6.cell 4
          simp at d0 d1 d2 d3 d4
          have B7 := B6.set 4 (.int .i64 nv)
          simp at B7
          have own7 := own6.mod (Only.cell1' w6 w4.heap.size 4 (.int .i64 nv)) (fun g e e2 => by have := far4 g e; omega)
          have T7 := T6.set (p := ⟨w4.heap.size, 4, none⟩) (by have := hz4; show _ ≤ w4.heap.size; omega) (.int .i64 nv)
          have hz7 : w4.heap.size < (w6.setCell ⟨w4.heap.size, 4, none⟩ (.int .i64 nv)).heap.size := by simp [World.setCell]; omega
          clear h6 own5 B5 T5 own6 T6 h5z
          go_upto_region 18 with (fail)
          clear d0 d1 d2 d3 d4 f6 lt6 B6
          generalize w6.setCell ⟨w4.heap.size, 4, none⟩ (.int .i64 nv) = w7 at *
          have d0 := B7.cell 0
          have d1 := B7.cell 1
          have d2 := B7.cell 2
          have d3 := B7.cell 3
          have d4 := B7.cell 4
          simp at d0 d1 d2 d3 d4
          go_wp2_with (at_builtin; refine wpList_push rfl _ _ _ rfl 48 Tryz.underlying26 einfo_lim rfl (own7.alloc _) ⟨lk, lkd, lm, lp, nv⟩ w7.heap.size rfl (Blk.new _ _ _) (fun j hj => Lim.one _ j hj) (by omega) (by omega) (by simp; omega) ?_; intro g8 cap8 w8 own8 hm8 hat8 hlt8)
          go_ret
          have far8 := fun i (e : blkOf A = some i) => (own7.far i e).1
          refine ⟨some ⟨g8, 0, none⟩, m + 1, cap8, ls ++ [⟨lk, lkd, lm, lp, nv⟩], rfl, own8.sl, by omega, ?_, ((T7.alloc _).mod hm8 (fun i e => by have := far8 i e; omega)).more (by omega)⟩
          intro x hx
          rcases List.mem_append.1 hx with h | h
          · exact HLS.out x h
          · simp at h; subst h; exact ⟨hkey, by refine ⟨?_, ?_, ?_, ?_⟩ <;> (simp only; omega)⟩

end Go.Proofs.YtinnckbffblecaaGreatDoor
