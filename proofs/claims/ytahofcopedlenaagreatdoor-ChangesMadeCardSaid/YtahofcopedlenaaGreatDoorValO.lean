/- What the maker of values hands out: Stream.Value. Conditions: as for the stream; no deeper than 3. -/
import Derived.Test.YtahofcopedlenaaGreatDoorValN
import Derived.Test.YtahofcopedlenaaGreatDoorValD
namespace Go.Proofs.YtahofcopedlenaaGreatDoor
open Go.RowKit
set_option linter.unusedVariables false
set_option linter.unusedSimpArgs false

theorem Kids.cloned {α β : Type} {Tr : World → (Nat → Prop) → α → β → Prop} {t : TypeId} {sz : Nat} {enc : α → Nat → Value} {w w' : World} {G : Nat → Prop} {A : Option Addr} {n c : Nat} {xs : List α} {vs : List β}
    (hT : TrOk Tr) (hown : Own w' w.heap.size t sz enc A n c xs) (hm : New w w') (hl : vs.length = n) (htr : ∀ i (h : i < xs.length) (h' : i < vs.length), Tr w G xs[i] vs[i]) : Kids Tr t sz enc w' w.heap.size G A n c xs vs :=
  ⟨hown, hl, fun i h h' => hT.mod hm (fun _ _ _ e => e) (hT.imp (fun g hg hlt => ⟨hg, fun e => by have := (hown.far' g e).1; omega⟩) (htr i h h'))⟩
theorem Tree.set_mem {w : World} {G G1 : Nat → Prop} {d B m c : Nat} {x : VA} {v : VT} {A : Option Addr} {ms : List MA} {ps : List (ByteArray × VT)} (h : Tree w G (d + 1) x v) (hk : Kids (TrM d) 49 7 MA.enc w B G1 A m c ms ps)
    (g1 : ∀ g, G1 g → g < w.heap.size → G g) (b1 : ∀ g, B ≤ g → G g) : Tree w G (d + 1) ⟨x.kind, x.flag, x.num, x.words, x.la, x.ln, x.lc, A, m, c⟩ (.mk x.kind x.flag x.num x.words v.list ps) := by
  obtain ⟨vs, ps0, rfl, h1, h2⟩ := h
  exact ⟨vs, ps, rfl, h1, ⟨ms, hk.own.row' (fun g _ hB => b1 g hB), by rw [hk.own.1, hk.len], fun i hi hi' => ⟨(hk.tree i hi hi').1, Tree.imp (fun g hg hl => g1 g hg.1 hl) _ _ _ (hk.tree i hi hi').2⟩⟩⟩
theorem Tree.set_list {w : World} {G G1 : Nat → Prop} {d B m c : Nat} {x : VA} {v : VT} {A : Option Addr} {xs : List VA} {vs : List VT} (h : Tree w G (d + 1) x v) (hk : Kids (TrV d) 29 6 VA.enc w B G1 A m c xs vs)
    (g1 : ∀ g, G1 g → g < w.heap.size → G g) (b1 : ∀ g, B ≤ g → G g) : Tree w G (d + 1) ⟨x.kind, x.flag, x.num, x.words, A, m, c, x.ma, x.mn, x.mc⟩ (.mk x.kind x.flag x.num x.words vs v.mem) := by
  obtain ⟨vs0, ps, rfl, h1, h2⟩ := h
  exact ⟨vs, ps, rfl, ⟨xs, hk.own.row' (fun g _ hB => b1 g hB), by rw [hk.own.1, hk.len], fun i hi hi' => Tree.imp (fun g hg hl => g1 g hg.1 hl) _ _ _ (hk.tree i hi hi')⟩, h2⟩
theorem snoc_mem_w (d : Nat) (v : VT) (k : Int) (f : Bool) (n : Int) (p : ByteArray × VT) : vW (d + 1) (.mk k f n v.words v.list (v.mem ++ [p])) = vW (d + 1) v + (vW d p.2 + (6 * p.1.size + 4)) := by
  have h1 : vW (d + 1) (.mk k f n v.words v.list (v.mem ++ [p])) = 40 + 6 * v.words.size + ((v.list.map fun x => vW d x + 1).sum + ((v.mem ++ [p]).map fun p => vW d p.2 + (6 * p.1.size + 4)).sum) := rfl
  have h2 : vW (d + 1) v = 40 + 6 * v.words.size + ((v.list.map fun x => vW d x + 1).sum + (v.mem.map fun p => vW d p.2 + (6 * p.1.size + 4)).sum) := rfl
  rw [h1, h2]
  simp only [List.map_append, List.sum_append, List.map_cons, List.map_nil, List.sum_cons, List.sum_nil]
  omega
theorem snoc_list_w (d : Nat) (v : VT) (k : Int) (f : Bool) (n : Int) (u : VT) : vW (d + 1) (.mk k f n v.words (v.list ++ [u]) v.mem) = vW (d + 1) v + (vW d u + 1) := by
  have h1 : vW (d + 1) (.mk k f n v.words (v.list ++ [u]) v.mem) = 40 + 6 * v.words.size + (((v.list ++ [u]).map fun x => vW d x + 1).sum + (v.mem.map fun p => vW d p.2 + (6 * p.1.size + 4)).sum) := rfl
  have h2 : vW (d + 1) v = 40 + 6 * v.words.size + ((v.list.map fun x => vW d x + 1).sum + (v.mem.map fun p => vW d p.2 + (6 * p.1.size + 4)).sum) := rfl
  rw [h1, h2]
  simp only [List.map_append, List.sum_append, List.map_cons, List.map_nil, List.sum_cons, List.sum_nil]
  omega
theorem snoc_mem_wide {d m : Nat} {v : VT} {p : ByteArray × VT} (k : Int) (f : Bool) (n : Int) (h : Wide m (d + 1) v) (hp : p.1.size ≤ 100000 ∧ Wide m d p.2) : Wide (m + 1) (d + 1) (.mk k f n v.words v.list (v.mem ++ [p])) := by
  obtain ⟨h1, h2, h3, h4, h5⟩ := h
  refine ⟨by show v.list.length ≤ m + 1; omega, by show (v.mem ++ [p]).length ≤ m + 1; simp; omega, h3, fun x hx => Wide.mono (by omega) _ _ (h4 x hx), fun q hq => ?_⟩
  rcases List.mem_append.1 hq with hq | hq
  · exact ⟨(h5 q hq).1, Wide.mono (by omega) _ _ (h5 q hq).2⟩
  · simp only [List.mem_singleton] at hq; subst hq; exact ⟨hp.1, Wide.mono (by omega) _ _ hp.2⟩
theorem snoc_list_wide {d m : Nat} {v : VT} {u : VT} (k : Int) (f : Bool) (n : Int) (h : Wide m (d + 1) v) (hp : Wide m d u) : Wide (m + 1) (d + 1) (.mk k f n v.words (v.list ++ [u]) v.mem) := by
  obtain ⟨h1, h2, h3, h4, h5⟩ := h
  refine ⟨by show (v.list ++ [u]).length ≤ m + 1; simp; omega, by show v.mem.length ≤ m + 1; omega, h3, fun x hx => ?_, fun q hq => ⟨(h5 q hq).1, Wide.mono (by omega) _ _ (h5 q hq).2⟩⟩
  rcases List.mem_append.1 hx with hx | hx
  · exact Wide.mono (by omega) _ _ (h4 x hx)
  · simp only [List.mem_singleton] at hx; subst hx; exact Wide.mono (by omega) _ _ hp
theorem leaf_w0 (d : Nat) (k : Int) : vW (d + 1) (.mk k false 0 ⟨#[]⟩ [] []) = 40 := rfl
theorem leaf_wide0 (d m : Nat) (k : Int) : Wide m (d + 1) (.mk k false 0 ⟨#[]⟩ [] []) := ⟨Nat.zero_le _, Nat.zero_le _, by show (⟨#[]⟩ : ByteArray).size ≤ 100000; decide, fun x hx => by simp [VT.list] at hx, fun x hx => by simp [VT.mem] at hx⟩
theorem wrap_w (d : Nat) (u : VT) : vW (d + 1) (.mk 4 false 0 ⟨#[]⟩ [u] []) = 41 + vW d u := by
  have h : vW (d + 1) (.mk 4 false 0 ⟨#[]⟩ [u] []) = 40 + 6 * (⟨#[]⟩ : ByteArray).size + (([u].map fun x => vW d x + 1).sum + (([] : List (ByteArray × VT)).map fun p => vW d p.2 + (6 * p.1.size + 4)).sum) := rfl
  have h2 : (⟨#[]⟩ : ByteArray).size = 0 := rfl
  rw [h, h2]
  simp only [List.map_cons, List.map_nil, List.sum_cons, List.sum_nil]
  omega
theorem wrap_le {j W : Nat} {u : VT} (h : vW (5 + j) u ≤ W + 41 * j) : vW (5 + (j + 1)) (.mk 4 false 0 ⟨#[]⟩ [u] []) ≤ W + 41 * (j + 1) := by
  have h1 := wrap_w (5 + j) u
  rw [show 5 + (j + 1) = 5 + j + 1 by omega, h1, Nat.mul_succ]
  omega
theorem wrap_wide {j : Nat} {u : VT} (h : Wide 6 (5 + j) u) : Wide 6 (5 + (j + 1)) (.mk 4 false 0 ⟨#[]⟩ [u] []) := by
  rw [show 5 + (j + 1) = 5 + j + 1 by omega]
  refine ⟨by show 1 ≤ 6; omega, Nat.zero_le _, by show (⟨#[]⟩ : ByteArray).size ≤ 100000; decide, fun z hz => ?_, fun z hz => by simp [VT.mem] at hz⟩
  have : z = u := by simpa [VT.list] using hz
  subst this; exact h
theorem ValAt.ending {w w' : World} {r xb W m : Nat} {x : VA} (h : ValAt w (fun g => r < g ∧ g ≠ xb) W m x) (hm : Mod (fun g => g = r) w w') : ValAt w' (fun g => r ≤ g) W m x := by
  obtain ⟨v, a1, a2, a3⟩ := h.mod hm (fun g hg e => by have := hg.1; omega)
  exact ⟨v, Tree.imp (fun g hg _ => by have := hg.1; omega) _ _ _ a1, a2, a3⟩
def RValue (b : Nat) (w : World) (k : Nat) (e : Ending) (w' : World) : Prop :=
  ∃ x : VA, e = .returned x.val ∧ ValAt w' (fun g => w.heap.size ≤ g) 70000 7 x ∧ SStep b w w' k

set_option maxRecDepth 100000 in
set_option maxHeartbeats 1000000 in
theorem stream_val (d : Nat) (hd : d ≤ 3) (b k : Nat) (w : World) (hs : SInv b w k) (hk : k + 4000 < 4611686018426000000) :
    Calls Tryz.prog 4 #[.pointer (some ⟨b, 0, none⟩), .int .i64 d] w (RValue b w (k + 4000)) := by
  have hb := hs.lt
  have hkd : rvK d ≤ 3400 := by
    obtain rfl | rfl | rfl | rfl : d = 0 ∨ d = 1 ∨ d = 2 ∨ d = 3 := by omega
    all_goals decide
  have hwd : rvW d ≤ 33640 := by
    obtain rfl | rfl | rfl | rfl : d = 0 ∨ d = 1 ∨ d = 2 ∨ d = 3 := by omega
    all_goals decide
  have hrv := stream_rv d hd b k (w.alloc (.cells #[.int .i64 0, .bool false, .int .i64 0, .string ⟨#[]⟩, .slice none 0 0, .slice none 0 0] 29)) ((SStep.refl hs).alloc _).inv (by omega)
  go_enter Tryz.func4, Tryz.ntmps4
  go_wp2_with fail
  refine hrv.mono ?_
  clear hrv
  rintro e w1 ⟨x, v, rfl, hty, hwv, hwdv, h1⟩
  have T1 := ((SStep.refl hs).alloc (.cells #[.int .i64 0, .bool false, .int .i64 0, .string ⟨#[]⟩, .slice none 0 0, .slice none 0 0] 29)).trans h1
  have R1 := (Blk.new w 29 #[.int .i64 0, .bool false, .int .i64 0, .string ⟨#[]⟩, .slice none 0 0, .slice none 0 0]).mod h1.only (by omega)
  have hrx : w.heap.size < w1.heap.size := R1.lt
  obtain ⟨hty5, hw5, hwd5⟩ := hty.lift hwdv (show d + 1 ≤ 5 by omega)
  have hwv5 : vW 5 v ≤ 33640 := by rw [hw5]; omega
  obtain ⟨xk, xf, xn, xw, xla, xln, xlc, xma, xmn, xmc⟩ := x
  go_upto_region 2 with (fail)
  have X2 := Blk.new w1 29 #[.int .i64 xk, .bool xf, .int .i64 xn, .string xw, .slice xla xln xlc, .slice xma xmn xmc]
  have m2 : New w1 (w1.alloc (.cells #[.int .i64 xk, .bool xf, .int .i64 xn, .string xw, .slice xla xln xlc, .slice xma xmn xmc] 29)) := (Mod.refl _ _).alloc _
  have HX := Lib.hid X2
  have HR := Lib.hid (R1.mod m2 (fun e => e))
  have HT := Lib.hid ((T1.new m2).more (show k + rvK d ≤ k + 3400 by omega))
  have HY : Hid (Tree (w1.alloc (.cells #[.int .i64 xk, .bool xf, .int .i64 xn, .string xw, .slice xla xln xlc, .slice xma xmn xmc] 29)) (fun g => w.heap.size < g ∧ g ≠ w1.heap.size) 5 ⟨xk, xf, xn, xw, xla, xln, xlc, xma, xmn, xmc⟩ v) := Lib.hid ((Tree.imp (fun g hg hl => by
    simp at hg
    exact ⟨by omega, by omega⟩) _ _ _ hty5).new m2)
  generalize w1.alloc (.cells #[.int .i64 xk, .bool xf, .int .i64 xn, .string xw, .slice xla xln xlc, .slice xma xmn xmc] 29) = w2 at *
  generalize w1.heap.size = xb at *
  have HWV := Lib.hid hwv5
  have HWD := Lib.hid hwd5
  clear X2 R1 T1 m2 h1 hty hty5 hw5 hwd5 hwv hwdv hwv5
  have hfl := flip_any b _ 25 _ HT.out.inv (by omega) (by omega) (by omega)
  go_wp2_with fail
  refine hfl.mono ?_
  clear hfl
  rintro e w3 ⟨m, rfl, h3⟩
  have HX1 := Lib.hid (HX.out.mod h3.only (by omega))
  have HR1 := Lib.hid (HR.out.mod h3.only (by omega))
  have HY1 := Lib.hid (Tree.mod h3.only (fun g hg _ e => by subst e; have := hg.1; omega) _ _ _ HY.out)
  have HT1 := Lib.hid (HT.out.trans h3)
  clear HX HR HY HT
  have HX := HX1
  have HR := HR1
  have HY := HY1
  have HT := HT1
  clear HX1 HR1 HY1 HT1
  clear h3
  go_upto_if 10 with (fail)
  go_cut [] (fun wx => ∃ x : VA, Hid (Blk wx xb 29 #[.int .i64 x.kind, .bool x.flag, .int .i64 x.num, .string x.words, .slice x.la x.ln x.lc, .slice x.ma x.mn x.mc]) ∧ Hid (Blk wx w.heap.size 29 #[.int .i64 0, .bool false, .int .i64 0, .string ⟨#[]⟩, .slice none 0 0, .slice none 0 0]) ∧ Hid (ValAt wx (fun g => w.heap.size < g ∧ g ≠ xb) 70000 7 x) ∧ Hid (SStep b w wx (k + 4000)))
  case first =>
    cases m with
    | false =>
      go_wp2_with fail
      go_meet
      case rel => exact ⟨⟨xk, xf, xn, xw, xla, xln, xlc, xma, xmn, xmc⟩, HX, HR, Lib.hid (ValAt.of HY.out (by have := HWV.out; omega) (Wide.mono (by omega) _ _ HWD.out) (by omega)), Lib.hid (HT.out.more (by omega))⟩
    | true =>
    have hnx := next_any b _ 6 _ HT.out.inv (by omega) (by omega) (by omega)
    go_wp2_with fail
    refine hnx.mono ?_
    clear hnx
    rintro e w4 ⟨n, rfl, n1, n2, h4⟩
    have HX1 := Lib.hid (HX.out.mod h4.only (by omega))
    have HR1 := Lib.hid (HR.out.mod h4.only (by omega))
    have HY1 := Lib.hid (Tree.mod h4.only (fun g hg _ e => by subst e; have := hg.1; omega) _ _ _ HY.out)
    have HT1 := Lib.hid (HT.out.trans h4)
    clear HX HR HY HT
    have HX := HX1
    have HR := HR1
    have HY := HY1
    have HT := HT1
    clear HX1 HR1 HY1 HT1
    clear h4
    obtain rfl | rfl | rfl | rfl | rfl | rfl : n = 0 ∨ n = 1 ∨ n = 2 ∨ n = 3 ∨ n = 4 ∨ n = 5 := by omega
    · have hod := odd_any2 b _ 0 5 _ HT.out.inv (by omega) (by omega) (by omega) (by omega)
      go_wp2_with fail
      refine hod.mono ?_
      clear hod
      rintro e w5 ⟨q, rfl, q1, q2, h5⟩
      have HX1 := Lib.hid (HX.out.mod h5.only (by omega))
      have HR1 := Lib.hid (HR.out.mod h5.only (by omega))
      have HY1 := Lib.hid (Tree.mod h5.only (fun g hg _ e => by subst e; have := hg.1; omega) _ _ _ HY.out)
      have HT1 := Lib.hid (HT.out.trans h5)
      clear HX HR HY HT
      have HX := HX1
      have HR := HR1
      have HY := HY1
      have HT := HT1
      clear HX1 HR1 HY1 HT1
      clear h5
      have hv : ValAt w5 (fun g => w.heap.size < g ∧ g ≠ xb) 70000 7 ⟨q, xf, xn, xw, xla, xln, xlc, xma, xmn, xmc⟩ := ValAt.of (HY.out.reshape q xf xn xw) (by
        have h1 : vW 5 (.mk q xf xn xw v.list v.mem) + 6 * v.words.size = vW 5 v + 6 * xw.size := reshape_w (d := 4) (v := v) q xf xn xw
        have h2 := HY.out.fields.2.2.2.1
        simp only at h2
        rw [h2] at h1
        have := HWV.out
        show vW 5 _ ≤ 70000
        omega) (reshape_wide q xf xn (Wide.mono (by omega) _ _ HWD.out) (by have h2 := HY.out.fields.2.2.2.1; simp only at h2; rw [← h2]; exact HWD.out.2.2.1)) (by omega)
      have HXs := Lib.hid (HX.out.set 0 (.int .i64 q))
      have HRs := Lib.hid (HR.out.mod (Only.set (Mod.refl (fun g => g = xb) w5) 0 (.int .i64 q)) (by omega))
      have HVs := Lib.hid ((hv).mod (Only.set (Mod.refl (fun g => g = xb) w5) 0 (.int .i64 q)) (fun g hg e => hg.2 e))
      have HTs := Lib.hid (HT.out.set (p := ⟨xb, 0, none⟩) (by simp only; omega) (.int .i64 q))
      simp only [Array.setIfInBounds, List.size_toArray, List.length_cons, List.length_nil, Nat.reduceAdd, Nat.reduceLT, ↓reduceDIte, List.set_toArray, List.set_cons_zero, List.set_cons_succ] at HXs
      have hxx := HX.out
      have e0 := hxx.cell 0
      have e1 := hxx.cell 1
      have e2 := hxx.cell 2
      have e3 := hxx.cell 3
      have e4 := hxx.cell 4
      have e5 := hxx.cell 5
      have el := hxx.lt
      have ef := hxx.frozen
      simp only [List.getElem?_toArray, List.getElem?_cons_zero, List.getElem?_cons_succ] at e0 e1 e2 e3 e4 e5
      clear hxx
      go_wp2_with fail
      go_meet
      case rel => exact ⟨⟨q, xf, xn, xw, xla, xln, xlc, xma, xmn, xmc⟩, HXs, HRs, HVs, Lib.hid (HTs.out.more (by omega))⟩
    · have hod := odd_any2 b _ 0 1000000000000000 _ HT.out.inv (by omega) (by omega) (by omega) (by omega)
      go_wp2_with fail
      refine hod.mono ?_
      clear hod
      rintro e w5 ⟨q, rfl, q1, q2, h5⟩
      have HX1 := Lib.hid (HX.out.mod h5.only (by omega))
      have HR1 := Lib.hid (HR.out.mod h5.only (by omega))
      have HY1 := Lib.hid (Tree.mod h5.only (fun g hg _ e => by subst e; have := hg.1; omega) _ _ _ HY.out)
      have HT1 := Lib.hid (HT.out.trans h5)
      clear HX HR HY HT
      have HX := HX1
      have HR := HR1
      have HY := HY1
      have HT := HT1
      clear HX1 HR1 HY1 HT1
      clear h5
      have hv : ValAt w5 (fun g => w.heap.size < g ∧ g ≠ xb) 70000 7 ⟨xk, xf, q, xw, xla, xln, xlc, xma, xmn, xmc⟩ := ValAt.of (HY.out.reshape xk xf q xw) (by
        have h1 : vW 5 (.mk xk xf q xw v.list v.mem) + 6 * v.words.size = vW 5 v + 6 * xw.size := reshape_w (d := 4) (v := v) xk xf q xw
        have h2 := HY.out.fields.2.2.2.1
        simp only at h2
        rw [h2] at h1
        have := HWV.out
        show vW 5 _ ≤ 70000
        omega) (reshape_wide xk xf q (Wide.mono (by omega) _ _ HWD.out) (by have h2 := HY.out.fields.2.2.2.1; simp only at h2; rw [← h2]; exact HWD.out.2.2.1)) (by omega)
      have HXs := Lib.hid (HX.out.set 2 (.int .i64 q))
      have HRs := Lib.hid (HR.out.mod (Only.set (Mod.refl (fun g => g = xb) w5) 2 (.int .i64 q)) (by omega))
      have HVs := Lib.hid ((hv).mod (Only.set (Mod.refl (fun g => g = xb) w5) 2 (.int .i64 q)) (fun g hg e => hg.2 e))
      have HTs := Lib.hid (HT.out.set (p := ⟨xb, 2, none⟩) (by simp only; omega) (.int .i64 q))
      simp only [Array.setIfInBounds, List.size_toArray, List.length_cons, List.length_nil, Nat.reduceAdd, Nat.reduceLT, ↓reduceDIte, List.set_toArray, List.set_cons_zero, List.set_cons_succ] at HXs
      have hxx := HX.out
      have e0 := hxx.cell 0
      have e1 := hxx.cell 1
      have e2 := hxx.cell 2
      have e3 := hxx.cell 3
      have e4 := hxx.cell 4
      have e5 := hxx.cell 5
      have el := hxx.lt
      have ef := hxx.frozen
      simp only [List.getElem?_toArray, List.getElem?_cons_zero, List.getElem?_cons_succ] at e0 e1 e2 e3 e4 e5
      clear hxx
      go_wp2_with fail
      go_meet
      case rel => exact ⟨⟨xk, xf, q, xw, xla, xln, xlc, xma, xmn, xmc⟩, HXs, HRs, HVs, Lib.hid (HTs.out.more (by omega))⟩
    · have hr1 : Calls Tryz.prog 19 #[.string ⟨#[119]⟩, .int .i64 5000] w4 fun e w' => e = .returned (.string ⟨(Lib.repeatL [119] 5000).toArray⟩) ∧ Below w4.heap.size w4 w' := Tryz.strings_Repeat ⟨#[119]⟩ 5000 w4 (by omega) (by decide)
      have hr2 := fun W : World => (Tryz.strings_Repeat ⟨#[119]⟩ 5001 W (by omega) (by decide) : Calls Tryz.prog 19 #[.string ⟨#[119]⟩, .int .i64 5001] W fun e w' => e = .returned (.string ⟨(Lib.repeatL [119] 5001).toArray⟩) ∧ Below W.heap.size W w')
      have z1 : (⟨(Lib.repeatL [119] 5000).toArray⟩ : ByteArray).size ≤ 5001 := by
        have := Lib.repeatL_length [119] 5000
        simp only [ByteArray.size, List.size_toArray]; simp at this; omega
      have z2 : (⟨(Lib.repeatL [119] 5001).toArray⟩ : ByteArray).size ≤ 5001 := by
        have := Lib.repeatL_length [119] 5001
        simp only [ByteArray.size, List.size_toArray]; simp at this; omega
      generalize (⟨(Lib.repeatL [119] 5000).toArray⟩ : ByteArray) = S1 at *
      generalize (⟨(Lib.repeatL [119] 5001).toArray⟩ : ByteArray) = S2 at *
      go_wp2_with fail
      refine hr1.mono ?_
      clear hr1
      rintro e w5 ⟨rfl, hb5⟩
      have m5 : New w4 w5 := Mod.of_below hb5
      have HX1 := Lib.hid (HX.out.mod m5 (fun e => e))
      have HR1 := Lib.hid (HR.out.mod m5 (fun e => e))
      have HY1 := Lib.hid (HY.out.new m5)
      have HT1 := Lib.hid (HT.out.new m5)
      clear HX HR HY HT
      have HX := HX1
      have HR := HR1
      have HY := HY1
      have HT := HT1
      clear HX1 HR1 HY1 HT1
      clear hb5 m5
      have hr3 := hr2 w5
      clear hr2
      go_wp2_with fail
      refine hr3.mono ?_
      clear hr3
      rintro e w6 ⟨rfl, hb6⟩
      have m6 : New w5 w6 := Mod.of_below hb6
      have HX1 := Lib.hid (HX.out.mod m6 (fun e => e))
      have HR1 := Lib.hid (HR.out.mod m6 (fun e => e))
      have HY1 := Lib.hid (HY.out.new m6)
      have HT1 := Lib.hid (HT.out.new m6)
      clear HX HR HY HT
      have HX := HX1
      have HR := HR1
      have HY := HY1
      have HT := HT1
      clear HX1 HR1 HY1 HT1
      clear hb6 m6
      have hsm := some_any [⟨#[255]⟩, S1, S2, ⟨#[120]⟩] b _ w6.heap.size 4 _ (HT.out.alloc _).inv (by omega) (Blk.new _ _ _) rfl (by omega) (by omega)
      go_wp2_with fail
      refine hsm.mono ?_
      clear hsm
      rintro e w7 ⟨q, rfl, mq, h7⟩
      have hq : q.size ≤ 5001 := by
        simp only [List.mem_cons, List.not_mem_nil, or_false] at mq
        rcases mq with rfl | rfl | rfl | rfl
        · decide
        · exact z1
        · exact z2
        · decide
      have m6 : New w6 (w6.alloc (.cells #[.string ⟨#[255]⟩, .string S1, .string S2, .string ⟨#[120]⟩] 9)) := (Mod.refl _ _).alloc _
      have HX1 := Lib.hid (HX.out.mod m6 (fun e => e))
      have HR1 := Lib.hid (HR.out.mod m6 (fun e => e))
      have HY1 := Lib.hid (HY.out.new m6)
      have HT1 := Lib.hid (HT.out.new m6)
      clear HX HR HY HT
      have HX := HX1
      have HR := HR1
      have HY := HY1
      have HT := HT1
      clear HX1 HR1 HY1 HT1
      have HX1 := Lib.hid (HX.out.mod h7.only (by omega))
      have HR1 := Lib.hid (HR.out.mod h7.only (by omega))
      have HY1 := Lib.hid (Tree.mod h7.only (fun g hg _ e => by subst e; have := hg.1; omega) _ _ _ HY.out)
      have HT1 := Lib.hid (HT.out.trans h7)
      clear HX HR HY HT
      have HX := HX1
      have HR := HR1
      have HY := HY1
      have HT := HT1
      clear HX1 HR1 HY1 HT1
      clear h7 mq m6
      have hv : ValAt w7 (fun g => w.heap.size < g ∧ g ≠ xb) 70000 7 ⟨xk, xf, xn, q, xla, xln, xlc, xma, xmn, xmc⟩ := ValAt.of (d := 5) (HY.out.reshape xk xf xn q) (by
        have h1 : vW 5 (.mk xk xf xn q v.list v.mem) + 6 * v.words.size = vW 5 v + 6 * q.size := reshape_w (d := 4) (v := v) xk xf xn q
        have := HWV.out
        show vW 5 _ ≤ 70000
        omega) (reshape_wide xk xf xn (Wide.mono (by omega) _ _ HWD.out) (by omega)) (by omega)
      have HXs := Lib.hid (HX.out.set 3 (.string q))
      have HRs := Lib.hid (HR.out.mod (Only.set (Mod.refl (fun g => g = xb) w7) 3 (.string q)) (by omega))
      have HVs := Lib.hid ((hv).mod (Only.set (Mod.refl (fun g => g = xb) w7) 3 (.string q)) (fun g hg e => hg.2 e))
      have HTs := Lib.hid (HT.out.set (p := ⟨xb, 3, none⟩) (by simp only; omega) (.string q))
      simp only [Array.setIfInBounds, List.size_toArray, List.length_cons, List.length_nil, Nat.reduceAdd, Nat.reduceLT, ↓reduceDIte, List.set_toArray, List.set_cons_zero, List.set_cons_succ] at HXs
      have hxx := HX.out
      have e0 := hxx.cell 0
      have e1 := hxx.cell 1
      have e2 := hxx.cell 2
      have e3 := hxx.cell 3
      have e4 := hxx.cell 4
      have e5 := hxx.cell 5
      have el := hxx.lt
      have ef := hxx.frozen
      simp only [List.getElem?_toArray, List.getElem?_cons_zero, List.getElem?_cons_succ] at e0 e1 e2 e3 e4 e5
      clear hxx
      go_wp2_with fail
      go_meet
      case rel => exact ⟨⟨xk, xf, xn, q, xla, xln, xlc, xma, xmn, xmc⟩, HXs, HRs, HVs, Lib.hid (HTs.out.more (by omega))⟩
    · have HYI : Hid (Tree w4 (fun g => (w.heap.size < g ∧ g ≠ xb) ∧ g < w4.heap.size) 5 ⟨xk, xf, xn, xw, xla, xln, xlc, xma, xmn, xmc⟩ v) := Lib.hid (Tree.imp (fun g hg hl => ⟨hg, hl⟩) _ _ _ HY.out)
      clear HY
      have HY := HYI
      clear HYI
      obtain ⟨xs, ms, hxs, hxl, hxt, hms, hml, hmt⟩ := Tree.rows (d := 4) HY.out
      have hmn : v.mem.length = xmn := by rw [← hml]; exact hms.1
      have hmn10 : xmn ≤ 6 := by rw [← hmn]; exact HWD.out.2.1
      have hcl := cloneMA ms xma xmn xmc w4 hms.sl (by omega)
      have HMT := Lib.hid hmt
      have HMN := Lib.hid hmn
      have hr1 := fun W : World => (Tryz.strings_Repeat ⟨#[110]⟩ 101 W (by omega) (by decide) : Calls Tryz.prog 19 #[.string ⟨#[110]⟩, .int .i64 101] W fun e w' => e = .returned (.string ⟨(Lib.repeatL [110] 101).toArray⟩) ∧ Below W.heap.size W w')
      have z1 : (⟨(Lib.repeatL [110] 101).toArray⟩ : ByteArray).size ≤ 101 := by
        have := Lib.repeatL_length [110] 101
        simp only [ByteArray.size, List.size_toArray]; simp at this; omega
      generalize (⟨(Lib.repeatL [110] 101).toArray⟩ : ByteArray) = S1 at *
      have hx4 : xb < w4.heap.size := HX.out.lt
      have hxw : v.words = xw := (Tree.fields HY.out).2.2.2.1
      have HXW := Lib.hid hxw
      have hxx := HX.out
      have e0 := hxx.cell 0
      have e1 := hxx.cell 1
      have e2 := hxx.cell 2
      have e3 := hxx.cell 3
      have e4 := hxx.cell 4
      have e5 := hxx.cell 5
      have el := hxx.lt
      have ef := hxx.frozen
      simp only [List.getElem?_toArray, List.getElem?_cons_zero, List.getElem?_cons_succ] at e0 e1 e2 e3 e4 e5
      clear hxx
      clear hxs hxl hxt hms hml hmt hmn hxw
      go_wp2_with fail
      refine hcl.mono ?_
      clear hcl
      rintro e w5 ⟨A, cc, rfl, hown, m5⟩
      have HK := Lib.hid (Kids.cloned (trM_ok 4) hown m5 HMN.out (fun i h h' => HMT.out i h h'))
      have s5 := m5.size
      clear e0 e1 e2 e3 e4 e5 el ef
      have HX1 := Lib.hid (HX.out.mod m5 (fun e => e))
      have HR1 := Lib.hid (HR.out.mod m5 (fun e => e))
      have HY1 := Lib.hid (HY.out.new m5)
      have HT1 := Lib.hid (HT.out.new m5)
      clear HX HR HY HT
      have HX := HX1
      have HR := HR1
      have HY := HY1
      have HT := HT1
      clear HX1 HR1 HY1 HT1
      clear hown m5 HMT
      have hr2 := hr1 w5
      clear hr1
      go_wp2_with fail
      refine hr2.mono ?_
      clear hr2
      rintro e w6 ⟨rfl, hb6⟩
      have m6 : New w5 w6 := Mod.of_below hb6
      have s6 := m6.size
      have HK1 := Lib.hid (HK.out.new (trM_ok 4) m6)
      have HX1 := Lib.hid (HX.out.mod m6 (fun e => e))
      have HR1 := Lib.hid (HR.out.mod m6 (fun e => e))
      have HY1 := Lib.hid (HY.out.new m6)
      have HT1 := Lib.hid (HT.out.new m6)
      clear HX HR HY HT
      have HX := HX1
      have HR := HR1
      have HY := HY1
      have HT := HT1
      clear HX1 HR1 HY1 HT1
      clear hb6 m6 HK
      have hsm := some_any [⟨#[97]⟩, ⟨#[255]⟩, S1] b _ w6.heap.size 3 _ (HT.out.alloc _).inv (by omega) (Blk.new _ _ _) rfl (by omega) (by omega)
      go_wp2_with fail
      refine hsm.mono ?_
      clear hsm
      rintro e w7 ⟨q, rfl, mq, h7⟩
      have hq : q.size ≤ 101 := by
        simp only [List.mem_cons, List.not_mem_nil, or_false] at mq
        rcases mq with rfl | rfl | rfl
        · decide
        · decide
        · exact z1
      have m6 : New w6 (w6.alloc (.cells #[.string ⟨#[97]⟩, .string ⟨#[255]⟩, .string S1] 9)) := (Mod.refl _ _).alloc _
      have s7 := Nat.le_trans m6.size h7.only.size
      have hk2 := HK1.out.new (trM_ok 4) m6
      have hk3 := hk2.mod (trM_ok 4) h7.only (fun g hg _ e => by subst e; have := hg.1; omega) (fun g hg e => by have := (hk2.own.far' g hg).1; omega)
      have HX1 := Lib.hid (HX.out.mod m6 (fun e => e))
      have HR1 := Lib.hid (HR.out.mod m6 (fun e => e))
      have HY1 := Lib.hid (HY.out.new m6)
      have HT1 := Lib.hid (HT.out.new m6)
      clear HX HR HY HT
      have HX := HX1
      have HR := HR1
      have HY := HY1
      have HT := HT1
      clear HX1 HR1 HY1 HT1
      have HX1 := Lib.hid (HX.out.mod h7.only (by omega))
      have HR1 := Lib.hid (HR.out.mod h7.only (by omega))
      have HY1 := Lib.hid (Tree.mod h7.only (fun g hg _ e => by subst e; have := hg.1; omega) _ _ _ HY.out)
      have HT1 := Lib.hid (HT.out.trans h7)
      clear HX HR HY HT
      have HX := HX1
      have HR := HR1
      have HY := HY1
      have HT := HT1
      clear HX1 HR1 HY1 HT1
      clear h7 mq m6 HK1 hk2 z1
      have m8 : New w7 (w7.alloc (.cells #[.string q, .int .i64 0, .bool false, .int .i64 0, .string ⟨#[]⟩, .slice none 0 0, .slice none 0 0] 49)) := (Mod.refl _ _).alloc _
      have hk4 := hk3.new (trM_ok 4) m8
      have blk8 : Blk (w7.alloc (.cells #[.string q, .int .i64 0, .bool false, .int .i64 0, .string ⟨#[]⟩, .slice none 0 0, .slice none 0 0] 49)) w7.heap.size 49 (encL 7 MA.enc ⟨q, ⟨0, false, 0, ⟨#[]⟩, none, 0, 0, none, 0, 0⟩⟩).toArray := Blk.new _ _ _
      have hx8 := HX.out.mod m8 (fun e => e)
      have HRX := Lib.hid (HR.out.mod m8 (fun e => e))
      have HTX := Lib.hid (HT.out.new m8)
      have HYX := Lib.hid (HY.out.new m8)
      have HKX := Lib.hid hk4
      have s8 := m8.size
      have hxx := HX.out
      have e0 := hxx.cell 0
      have e1 := hxx.cell 1
      have e2 := hxx.cell 2
      have e3 := hxx.cell 3
      have e4 := hxx.cell 4
      have e5 := hxx.cell 5
      have el := hxx.lt
      have ef := hxx.frozen
      simp only [List.getElem?_toArray, List.getElem?_cons_zero, List.getElem?_cons_succ] at e0 e1 e2 e3 e4 e5
      clear hxx
      clear hk3 HR HT HY m8
      go_wp2_with (at_builtin; refine wpList_push rfl _ _ _ rfl 104 Tryz.underlying27 einfo_memM rfl hk4.own ⟨q, ⟨0, false, 0, ⟨#[]⟩, none, 0, 0, none, 0, 0⟩⟩ w7.heap.size rfl blk8 (fun j hj => MA.one _ j hj) (by omega) (by omega) (by omega) ?_; intro g9 cap9 w9 own9 hm9 hat9 hlt9; have hx9 := hx8.mod hm9 (fun e => by have := (hk4.own.far' _ e).1; omega); have c9 := hx9.cell 5; have f9 := hx9.frozen 5; have l9 := hx9.lt; simp only [List.getElem?_toArray, List.getElem?_cons_zero, List.getElem?_cons_succ] at c9)
      have HR := Lib.hid (HRX.out.mod hm9 (fun e => by have := (hk4.own.far' _ e).1; omega))
      have hy9 := Tree.mod hm9 (fun g hg ht e => by have := (hk4.own.far' _ e).1; have := hg.2; omega) _ _ _ HYX.out
      have hk9 := hk4.push (trM_ok 4) (y := ⟨q, ⟨0, false, 0, ⟨#[]⟩, none, 0, 0, none, 0, 0⟩⟩) (u := (q, .mk 0 false 0 ⟨#[]⟩ [] [])) ⟨rfl, leaf_tree _ _ _ _ _ _ _⟩ own9 hm9 hat9
      have HT := Lib.hid (HTX.out.mod hm9 (fun i e => by have := (hk4.own.far' _ e).1; omega))
      have hty := Tree.set_mem (Tree.imp (G' := fun g => w.heap.size < g ∧ g ≠ xb) (fun g hg _ => hg.1) _ _ _ hy9) hk9 (fun g hg _ => hg.1) (fun g hg => ⟨by omega, by omega⟩)
      have hv : ValAt w9 (fun g => w.heap.size < g ∧ g ≠ xb) 70000 7 ⟨xk, xf, xn, xw, xla, xln, xlc, some ⟨g9, 0, none⟩, xmn + 1, cap9⟩ := ValAt.of (d := 5) (v := (.mk xk xf xn v.words v.list (v.mem ++ [(q, .mk 0 false 0 ⟨#[]⟩ [] [])]))) (by rw [HXW.out]; exact hty) (by
        have h1 : vW 5 (.mk xk xf xn v.words v.list (v.mem ++ [(q, .mk 0 false 0 ⟨#[]⟩ [] [])])) = _ := snoc_mem_w 4 v xk xf xn (q, .mk 0 false 0 ⟨#[]⟩ [] [])
        have h2 := leaf_w0 3 0
        simp only at h1
        have := HWV.out
        rw [h1]
        show vW 5 v + _ ≤ 70000
        first | (show vW 5 v + (40 + (6 * q.size + 4)) ≤ 70000; omega) | (show vW 5 v + (40 + 1) ≤ 70000; omega)) (snoc_mem_wide xk xf xn HWD.out ⟨by show q.size ≤ 100000; omega, leaf_wide0 _ _ _⟩) (by omega)
      clear HX
      have HX := Lib.hid hx9
      have HXs := Lib.hid (HX.out.set 5 (.slice (some ⟨g9, 0, none⟩) (xmn + 1) cap9))
      have HRs := Lib.hid (HR.out.mod (Only.set (Mod.refl (fun g => g = xb) w9) 5 (.slice (some ⟨g9, 0, none⟩) (xmn + 1) cap9)) (by omega))
      have HVs := Lib.hid ((hv).mod (Only.set (Mod.refl (fun g => g = xb) w9) 5 (.slice (some ⟨g9, 0, none⟩) (xmn + 1) cap9)) (fun g hg e => hg.2 e))
      have HTs := Lib.hid (HT.out.set (p := ⟨xb, 5, none⟩) (by simp only; omega) (.slice (some ⟨g9, 0, none⟩) (xmn + 1) cap9))
      simp only [Array.setIfInBounds, List.size_toArray, List.length_cons, List.length_nil, Nat.reduceAdd, Nat.reduceLT, ↓reduceDIte, List.set_toArray, List.set_cons_zero, List.set_cons_succ] at HXs
      go_meet
      case rel => exact ⟨⟨xk, xf, xn, xw, xla, xln, xlc, some ⟨g9, 0, none⟩, xmn + 1, cap9⟩, HXs, HRs, HVs, Lib.hid (HTs.out.more (by omega))⟩
    · have HYI : Hid (Tree w4 (fun g => (w.heap.size < g ∧ g ≠ xb) ∧ g < w4.heap.size) 5 ⟨xk, xf, xn, xw, xla, xln, xlc, xma, xmn, xmc⟩ v) := Lib.hid (Tree.imp (fun g hg hl => ⟨hg, hl⟩) _ _ _ HY.out)
      clear HY
      have HY := HYI
      clear HYI
      obtain ⟨xs, ms, hxs, hxl, hxt, hms, hml, hmt⟩ := Tree.rows (d := 4) HY.out
      have hmn : v.list.length = xln := by rw [← hxl]; exact hxs.1
      have hmn10 : xln ≤ 6 := by rw [← hmn]; exact HWD.out.1
      have hcl := cloneVA xs xla xln xlc w4 hxs.sl (by omega)
      have HMT := Lib.hid hxt
      have HMN := Lib.hid hmn
      have hx4 : xb < w4.heap.size := HX.out.lt
      have hxw : v.words = xw := (Tree.fields HY.out).2.2.2.1
      have HXW := Lib.hid hxw
      have hxx := HX.out
      have e0 := hxx.cell 0
      have e1 := hxx.cell 1
      have e2 := hxx.cell 2
      have e3 := hxx.cell 3
      have e4 := hxx.cell 4
      have e5 := hxx.cell 5
      have el := hxx.lt
      have ef := hxx.frozen
      simp only [List.getElem?_toArray, List.getElem?_cons_zero, List.getElem?_cons_succ] at e0 e1 e2 e3 e4 e5
      clear hxx
      clear hxs hxl hxt hms hml hmt hmn hxw
      go_wp2_with fail
      refine hcl.mono ?_
      clear hcl
      rintro e w5 ⟨A, cc, rfl, hown, m5⟩
      have HK := Lib.hid (Kids.cloned (trV_ok 4) hown m5 HMN.out (fun i h h' => HMT.out i h h'))
      have s5 := m5.size
      clear e0 e1 e2 e3 e4 e5 el ef
      have HX1 := Lib.hid (HX.out.mod m5 (fun e => e))
      have HR1 := Lib.hid (HR.out.mod m5 (fun e => e))
      have HY1 := Lib.hid (HY.out.new m5)
      have HT1 := Lib.hid (HT.out.new m5)
      clear HX HR HY HT
      have HX := HX1
      have HR := HR1
      have HY := HY1
      have HT := HT1
      clear HX1 HR1 HY1 HT1
      clear hown m5 HMT
      have hk3 := HK.out
      have s6 : w5.heap.size ≤ w5.heap.size := Nat.le_refl _
      have s7 : w5.heap.size ≤ w5.heap.size := Nat.le_refl _
      have m8 : New w5 (w5.alloc (.cells #[.int .i64 9, .bool false, .int .i64 0, .string ⟨#[]⟩, .slice none 0 0, .slice none 0 0] 29)) := (Mod.refl _ _).alloc _
      have hk4 := hk3.new (trV_ok 4) m8
      have blk8 : Blk (w5.alloc (.cells #[.int .i64 9, .bool false, .int .i64 0, .string ⟨#[]⟩, .slice none 0 0, .slice none 0 0] 29)) w5.heap.size 29 (encL 6 VA.enc ⟨9, false, 0, ⟨#[]⟩, none, 0, 0, none, 0, 0⟩).toArray := Blk.new _ _ _
      have hx8 := HX.out.mod m8 (fun e => e)
      have HRX := Lib.hid (HR.out.mod m8 (fun e => e))
      have HTX := Lib.hid (HT.out.new m8)
      have HYX := Lib.hid (HY.out.new m8)
      have HKX := Lib.hid hk4
      have s8 := m8.size
      have hxx := HX.out
      have e0 := hxx.cell 0
      have e1 := hxx.cell 1
      have e2 := hxx.cell 2
      have e3 := hxx.cell 3
      have e4 := hxx.cell 4
      have e5 := hxx.cell 5
      have el := hxx.lt
      have ef := hxx.frozen
      simp only [List.getElem?_toArray, List.getElem?_cons_zero, List.getElem?_cons_succ] at e0 e1 e2 e3 e4 e5
      clear hxx
      clear hk3 HR HT HY m8
      go_wp2_with (at_builtin; refine wpList_push rfl _ _ _ rfl 88 Tryz.underlying26 einfo_val rfl hk4.own ⟨9, false, 0, ⟨#[]⟩, none, 0, 0, none, 0, 0⟩ w5.heap.size rfl blk8 (fun j hj => VA.one _ j hj) (by omega) (by omega) (by omega) ?_; intro g9 cap9 w9 own9 hm9 hat9 hlt9; have hx9 := hx8.mod hm9 (fun e => by have := (hk4.own.far' _ e).1; omega); have c9 := hx9.cell 4; have f9 := hx9.frozen 4; have l9 := hx9.lt; simp only [List.getElem?_toArray, List.getElem?_cons_zero, List.getElem?_cons_succ] at c9)
      have HR := Lib.hid (HRX.out.mod hm9 (fun e => by have := (hk4.own.far' _ e).1; omega))
      have hy9 := Tree.mod hm9 (fun g hg ht e => by have := (hk4.own.far' _ e).1; have := hg.2; omega) _ _ _ HYX.out
      have hk9 := hk4.push (trV_ok 4) (y := (⟨9, false, 0, ⟨#[]⟩, none, 0, 0, none, 0, 0⟩ : VA)) (u := (VT.mk 9 false 0 ⟨#[]⟩ [] [])) (leaf_tree _ _ 3 9 false 0 ⟨#[]⟩) own9 hm9 hat9
      have HT := Lib.hid (HTX.out.mod hm9 (fun i e => by have := (hk4.own.far' _ e).1; omega))
      have hty := Tree.set_list (Tree.imp (G' := fun g => w.heap.size < g ∧ g ≠ xb) (fun g hg _ => hg.1) _ _ _ hy9) hk9 (fun g hg _ => hg.1) (fun g hg => ⟨by omega, by omega⟩)
      have hv : ValAt w9 (fun g => w.heap.size < g ∧ g ≠ xb) 70000 7 ⟨xk, xf, xn, xw, some ⟨g9, 0, none⟩, xln + 1, cap9, xma, xmn, xmc⟩ := ValAt.of (d := 5) (v := (.mk xk xf xn v.words (v.list ++ [.mk 9 false 0 ⟨#[]⟩ [] []]) v.mem)) (by rw [HXW.out]; exact hty) (by
        have h1 : vW 5 (.mk xk xf xn v.words (v.list ++ [.mk 9 false 0 ⟨#[]⟩ [] []]) v.mem) = _ := snoc_list_w 4 v xk xf xn (.mk 9 false 0 ⟨#[]⟩ [] [])
        have h2 := leaf_w0 3 9
        have := HWV.out
        rw [h1]
        show vW 5 v + _ ≤ 70000
        first | (show vW 5 v + (40 + (6 * q.size + 4)) ≤ 70000; omega) | (show vW 5 v + (40 + 1) ≤ 70000; omega)) (snoc_list_wide xk xf xn HWD.out (leaf_wide0 _ _ _)) (by omega)
      clear HX
      have HX := Lib.hid hx9
      have HXs := Lib.hid (HX.out.set 4 (.slice (some ⟨g9, 0, none⟩) (xln + 1) cap9))
      have HRs := Lib.hid (HR.out.mod (Only.set (Mod.refl (fun g => g = xb) w9) 4 (.slice (some ⟨g9, 0, none⟩) (xln + 1) cap9)) (by omega))
      have HVs := Lib.hid ((hv).mod (Only.set (Mod.refl (fun g => g = xb) w9) 4 (.slice (some ⟨g9, 0, none⟩) (xln + 1) cap9)) (fun g hg e => hg.2 e))
      have HTs := Lib.hid (HT.out.set (p := ⟨xb, 4, none⟩) (by simp only; omega) (.slice (some ⟨g9, 0, none⟩) (xln + 1) cap9))
      simp only [Array.setIfInBounds, List.size_toArray, List.length_cons, List.length_nil, Nat.reduceAdd, Nat.reduceLT, ↓reduceDIte, List.set_toArray, List.set_cons_zero, List.set_cons_succ] at HXs
      go_meet
      case rel => exact ⟨⟨xk, xf, xn, xw, some ⟨g9, 0, none⟩, xln + 1, cap9, xma, xmn, xmc⟩, HXs, HRs, HVs, Lib.hid (HTs.out.more (by omega))⟩
    · have hpk := pick_any [48, 49, 50] b _ w4.heap.size 3 _ (HT.out.alloc _).inv (by omega) (Blk.new _ _ _) rfl (by omega) (by omega)
      go_wp2_with fail
      refine hpk.mono ?_
      clear hpk
      rintro e w5 ⟨n, rfl, mn5, h5⟩
      have hn5 : 0 ≤ n ∧ n ≤ 50 := by simp at mn5; omega
      obtain ⟨hn0, hn1⟩ := hn5
      obtain ⟨n, rfl⟩ := Int.eq_ofNat_of_zero_le hn0
      have m6 : New w4 (w4.alloc (.cells #[.int .i64 48, .int .i64 49, .int .i64 50] 3)) := (Mod.refl _ _).alloc _
      have HX1 := Lib.hid (HX.out.mod m6 (fun e => e))
      have HR1 := Lib.hid (HR.out.mod m6 (fun e => e))
      have HY1 := Lib.hid (HY.out.new m6)
      have HT1 := Lib.hid (HT.out.new m6)
      clear HX HR HY HT
      have HX := HX1
      have HR := HR1
      have HY := HY1
      have HT := HT1
      clear HX1 HR1 HY1 HT1
      have HX1 := Lib.hid (HX.out.mod h5.only (by omega))
      have HR1 := Lib.hid (HR.out.mod h5.only (by omega))
      have HY1 := Lib.hid (Tree.mod h5.only (fun g hg _ e => by subst e; have := hg.1; omega) _ _ _ HY.out)
      have HT1 := Lib.hid (HT.out.trans h5)
      clear HX HR HY HT
      have HX := HX1
      have HR := HR1
      have HY := HY1
      have HT := HT1
      clear HX1 HR1 HY1 HT1
      clear h5 mn5 m6 hn0
      have hn50 : n ≤ 50 := by omega
      go_wp2_with fail
      go_loopw [16] (fun i wr => ∃ (j : Nat) (x : VA) (u : VT), j ≤ n ∧ i = .int .i64 j ∧ Hid (Blk wr xb 29 #[.int .i64 x.kind, .bool x.flag, .int .i64 x.num, .string x.words, .slice x.la x.ln x.lc, .slice x.ma x.mn x.mc]) ∧ Hid (Blk wr w.heap.size 29 #[.int .i64 0, .bool false, .int .i64 0, .string ⟨#[]⟩, .slice none 0 0, .slice none 0 0]) ∧
        Hid (Tree wr (fun g => w.heap.size < g ∧ g ≠ xb) (5 + j) x u) ∧ Hid (vW (5 + j) u ≤ 33640 + 41 * j) ∧ Hid (Wide 6 (5 + j) u) ∧ Hid (SStep b w wr (k + 3500))) (fun i _ => n - (intOf i).toNat)
      case atStart => exact ⟨0, ⟨xk, xf, xn, xw, xla, xln, xlc, xma, xmn, xmc⟩, v, Nat.zero_le _, rfl, HX, HR, HY, Lib.hid (by simpa using HWV.out), HWD, Lib.hid (HT.out.more (by omega))⟩
      case round =>
        clear HX HR HT HY
        rename World => wr
        obtain ⟨j, x, u, hj, rfl, HX, HR, HY, HW, HWW, HT⟩ := hrel
        obtain ⟨zk, zf, zn, zw, zla, zln, zlc, zma, zmn, zmc⟩ := x
        simp only at HX
        by_cases hlt : j < n
        · have hxx := HX.out
          have e0 := hxx.cell 0
          have e1 := hxx.cell 1
          have e2 := hxx.cell 2
          have e3 := hxx.cell 3
          have e4 := hxx.cell 4
          have e5 := hxx.cell 5
          have el := hxx.lt
          have ef := hxx.frozen
          simp only [List.getElem?_toArray, List.getElem?_cons_zero, List.getElem?_cons_succ] at e0 e1 e2 e3 e4 e5
          clear hxx
          have hxl := HX.out.lt
          have hrl := HR.out.lt
          have nb : wr.heap.size ≠ xb := by omega
          have HXs0 := Lib.hid ((((((HX.out.set 0 (.int .i64 4)).set 1 (.bool false)).set 2 (.int .i64 0)).set 3 (.string ⟨#[]⟩)).set 4 (.slice (some ⟨wr.heap.size, 0, none⟩) 1 1)).set 5 (.slice none 0 0))
          simp only [Array.setIfInBounds, List.size_toArray, List.length_cons, List.length_nil, Nat.reduceAdd, Nat.reduceLT, ↓reduceDIte, List.set_toArray, List.set_cons_zero, List.set_cons_succ] at HXs0
          have hmo : Only xb wr ((((((wr.setCell ⟨xb, 0, none⟩ (.int .i64 4)).setCell ⟨xb, 1, none⟩ (.bool false)).setCell ⟨xb, 2, none⟩ (.int .i64 0)).setCell ⟨xb, 3, none⟩ (.string ⟨#[]⟩)).setCell ⟨xb, 4, none⟩ (.slice (some ⟨wr.heap.size, 0, none⟩) 1 1)).setCell ⟨xb, 5, none⟩ (.slice none 0 0)) := (((((Only.set (Mod.refl _ _) 0 _).set 1 _).set 2 _).set 3 _).set 4 _).set 5 _
          have hszS : ((((((wr.setCell ⟨xb, 0, none⟩ (.int .i64 4)).setCell ⟨xb, 1, none⟩ (.bool false)).setCell ⟨xb, 2, none⟩ (.int .i64 0)).setCell ⟨xb, 3, none⟩ (.string ⟨#[]⟩)).setCell ⟨xb, 4, none⟩ (.slice (some ⟨wr.heap.size, 0, none⟩) 1 1)).setCell ⟨xb, 5, none⟩ (.slice none 0 0)).heap.size = wr.heap.size := by simp [World.setCell]
          have hy7 := Tree.mod hmo (fun g hg _ e => hg.1.2 e) _ _ _ (Tree.imp (G' := fun g => (w.heap.size < g ∧ g ≠ xb) ∧ g < wr.heap.size) (fun g hg hl => ⟨hg, hl⟩) _ _ _ HY.out)
          have hr7 := HR.out.mod hmo (by omega)
          have ht7 := HT.out.mod hmo (fun i e => by omega)
          go_upto_region 7 with (fail)
          generalize ((((((wr.setCell ⟨xb, 0, none⟩ (.int .i64 4)).setCell ⟨xb, 1, none⟩ (.bool false)).setCell ⟨xb, 2, none⟩ (.int .i64 0)).setCell ⟨xb, 3, none⟩ (.string ⟨#[]⟩)).setCell ⟨xb, 4, none⟩ (.slice (some ⟨wr.heap.size, 0, none⟩) 1 1)).setCell ⟨xb, 5, none⟩ (.slice none 0 0)) = wS at *
          have m7 : New wS (wS.alloc (.cells #[.int .i64 zk, .bool zf, .int .i64 zn, .string zw, .slice zla zln zlc, .slice zma zmn zmc] 29)) := (Mod.refl _ _).alloc _
          have bk := Blk.new wS 29 #[.int .i64 zk, .bool zf, .int .i64 zn, .string zw, .slice zla zln zlc, .slice zma zmn zmc]
          have hown : Own (wS.alloc (.cells #[.int .i64 zk, .bool zf, .int .i64 zn, .string zw, .slice zla zln zlc, .slice zma zmn zmc] 29)) wS.heap.size 29 6 VA.enc (some ⟨wS.heap.size, 0, none⟩) 1 1 [⟨zk, zf, zn, zw, zla, zln, zlc, zma, zmn, zmc⟩] := Own.of_blk (xs := [(⟨zk, zf, zn, zw, zla, zln, zlc, zma, zmn, zmc⟩ : VA)]) bk (Nat.le_refl _) rfl (by omega)
          rw [hszS] at hown
          have hks : Kids (TrV (5 + j)) 29 6 VA.enc (wS.alloc (.cells #[.int .i64 zk, .bool zf, .int .i64 zn, .string zw, .slice zla zln zlc, .slice zma zmn zmc] 29)) wr.heap.size (fun g => w.heap.size < g ∧ g ≠ xb) (some ⟨wr.heap.size, 0, none⟩) 1 1 [⟨zk, zf, zn, zw, zla, zln, zlc, zma, zmn, zmc⟩] [u] := ⟨hown, rfl, fun i h h' => by
            simp only [List.length_cons, List.length_nil] at h
            obtain rfl : i = 0 := by omega
            exact Tree.imp (fun g hg _ => ⟨hg.1, fun e => by injection e with e; simp only at e; have := hg.2; omega⟩) _ _ _ (hy7.new m7)⟩
          have HXs := Lib.hid (HXs0.out.mod m7 (fun e => e))
          have HRs := Lib.hid (hr7.mod m7 (fun e => e))
          have HTs := Lib.hid (ht7.new m7)
          have HYs := Lib.hid (Tree.of_kids (G := fun g => w.heap.size < g ∧ g ≠ xb) (kind := 4) (flag := false) (num := 0) (words := ⟨#[]⟩) hks (B' := wr.heap.size) (G2 := fun g => w.heap.size < g ∧ g ≠ xb) Kids.nil (fun g hg _ => hg) (fun g hg _ => hg) (fun g hg => ⟨by omega, by omega⟩) (fun g hg => ⟨by omega, by omega⟩))
          have HWS := Lib.hid (wrap_le (j := j) (W := 33640) (u := u) HW.out)
          have HWWS := Lib.hid (wrap_wide (j := j) (u := u) HWW.out)
          clear hr7 hown hy7 ht7 hmo hks m7 bk e0 e1 e2 e3 e4 e5 el ef HX HR HY HT HXs0
          generalize wS.alloc (.cells #[.int .i64 zk, .bool zf, .int .i64 zn, .string zw, .slice zla zln zlc, .slice zma zmn zmc] 29) = w8 at *
          generalize wr.heap.size = nb7 at *
          go_wp2_with fail
          go_roundw
          case rel => exact ⟨j + 1, ⟨4, false, 0, ⟨#[]⟩, some ⟨nb7, 0, none⟩, 1, 1, none, 0, 0⟩, .mk 4 false 0 ⟨#[]⟩ [u] [], by omega, by go_num, HXs, HRs, HYs, HWS, HWWS, HTs⟩
          case measure => simp [intOf]; omega
        · obtain rfl : j = n := by omega
          go_wp2_with fail
          go_meet
          case rel => exact ⟨⟨zk, zf, zn, zw, zla, zln, zlc, zma, zmn, zmc⟩, HX, HR, Lib.hid (ValAt.of HY.out (by have := HW.out; omega) (Wide.mono (by omega) _ _ HWW.out) (by omega)), Lib.hid (HT.out.more (by omega))⟩
  case rest =>
    rename World => wz
    clear HX HR HT HY
    obtain ⟨x, HX, HR, HV, HT⟩ := hcut
    obtain ⟨zk, zf, zn, zw, zla, zln, zlc, zma, zmn, zmc⟩ := x
    have hxx := HX.out
    have e0 := hxx.cell 0
    have e1 := hxx.cell 1
    have e2 := hxx.cell 2
    have e3 := hxx.cell 3
    have e4 := hxx.cell 4
    have e5 := hxx.cell 5
    have el := hxx.lt
    have ef := hxx.frozen
    simp only [List.getElem?_toArray, List.getElem?_cons_zero, List.getElem?_cons_succ] at e0 e1 e2 e3 e4 e5
    clear hxx
    have rl := HR.out.lt
    have rf := HR.out.frozen
    have r0 := HR.out.cell 0
    have r1 := HR.out.cell 1
    have r2 := HR.out.cell 2
    have r3 := HR.out.cell 3
    have r4 := HR.out.cell 4
    have r5 := HR.out.cell 5
    have hne : w.heap.size ≠ xb := by omega
    simp only [List.getElem?_toArray, List.getElem?_cons_zero, List.getElem?_cons_succ] at r0 r1 r2 r3 r4 r5
    go_wp2_with fail
    refine bodyPost_ret (v := VA.val ⟨zk, zf, zn, zw, zla, zln, zlc, zma, zmn, zmc⟩) (by simp [results, Tryz.results4, go_sem, r0, r1, r2, r3, r4, r5, rf, hne]) rfl ⟨⟨zk, zf, zn, zw, zla, zln, zlc, zma, zmn, zmc⟩, rfl, ?_, ?_⟩
    · refine ValAt.ending HV.out ?_
      repeat (with_reducible (first | exact Mod.refl _ _ | refine Only.set ?_ _ _))
    · repeat (with_reducible (first | exact HT.out | (refine SStep.set ?_ ?_ _; rotate_left; (simp <;> omega))))

end Go.Proofs.YtahofcopedlenaaGreatDoor
