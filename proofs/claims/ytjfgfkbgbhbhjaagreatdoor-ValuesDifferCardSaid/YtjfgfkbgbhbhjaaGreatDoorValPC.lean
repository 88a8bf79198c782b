/- What the maker of values hands out: Stream.Near. Conditions: as for the stream; a value of modest size. -/
import Derived.Test.YtjfgfkbgbhbhjaaGreatDoorValMGrp
import Derived.Test.YtjfgfkbgbhbhjaaGreatDoorChgMemGrp
namespace Go.Proofs.YtjfgfkbgbhbhjaaGreatDoor
open Go.RowKit
set_option linter.unusedVariables false
set_option linter.unusedSimpArgs false

theorem vW_ge (d : Nat) (v : VT) : 40 ≤ vW (d + 1) v := by
  simp only [vW]; omega
theorem SInv.tb {b k : Nat} {w : World} (h : SInv b w k) : TB w b 25 := by
  obtain ⟨A, n, c, q, z, hb, _⟩ := h
  exact hb.tb
theorem Tree.stream {w w' : World} {G : Nat → Prop} {d b k : Nat} {x : VA} {v : VT} (h : Tree w G d x v) (hs : SStep b w w' k) (hb : TB w b 25) : Tree w' G d x v := h.only hs.only hb (by decide) (by decide)

theorem Kids.set6 {w : World} {B d n c g i : Nat} {G : Nat → Prop} {xs : List VA} {vs : List VT} (h : Kids (TrV d) 29 6 VA.enc w B G (some ⟨g, 0, none⟩) n c xs vs) (hi : i < xs.length) (y : VA) (u : VT) (hy : Tree w (fun z => G z ∧ blkOf (some (⟨g, 0, none⟩ : Addr)) ≠ some z) d y u) :
    Kids (TrV d) 29 6 VA.enc ((((((w.setCell ⟨g, i * 6, none⟩ (y.enc 0)).setCell ⟨g, i * 6 + 1, none⟩ (y.enc 1)).setCell ⟨g, i * 6 + 2, none⟩ (y.enc 2)).setCell ⟨g, i * 6 + 3, none⟩ (y.enc 3)).setCell ⟨g, i * 6 + 4, none⟩ (y.enc 4)).setCell ⟨g, i * 6 + 5, none⟩ (y.enc 5)) B G (some ⟨g, 0, none⟩) n c (xs.set i y) (vs.set i u) := by
  have hmo : Only g w ((((((w.setCell ⟨g, i * 6, none⟩ (y.enc 0)).setCell ⟨g, i * 6 + 1, none⟩ (y.enc 1)).setCell ⟨g, i * 6 + 2, none⟩ (y.enc 2)).setCell ⟨g, i * 6 + 3, none⟩ (y.enc 3)).setCell ⟨g, i * 6 + 4, none⟩ (y.enc 4)).setCell ⟨g, i * 6 + 5, none⟩ (y.enc 5)) := (((((Only.set (Mod.refl _ _) _ _).set _ _).set _ _).set _ _).set _ _).set _ _
  have key : ∀ x v, Tree w (fun z => G z ∧ blkOf (some (⟨g, 0, none⟩ : Addr)) ≠ some z) d x v → Tree ((((((w.setCell ⟨g, i * 6, none⟩ (y.enc 0)).setCell ⟨g, i * 6 + 1, none⟩ (y.enc 1)).setCell ⟨g, i * 6 + 2, none⟩ (y.enc 2)).setCell ⟨g, i * 6 + 3, none⟩ (y.enc 3)).setCell ⟨g, i * 6 + 4, none⟩ (y.enc 4)).setCell ⟨g, i * 6 + 5, none⟩ (y.enc 5)) (fun z => G z ∧ blkOf (some (⟨g, 0, none⟩ : Addr)) ≠ some z) d x v :=
    fun x v hx => Tree.mod hmo (fun z hz _ e => hz.2 (by subst e; rfl)) _ _ _ hx
  refine ⟨h.own.set6 hi y, by simpa using h.len, fun j hj hj' => ?_⟩
  by_cases e : i = j
  · subst e
    simp only [List.getElem_set_self]
    exact key _ _ hy
  · simp only [List.getElem_set_ne e]
    exact key _ _ (h.tree j (by simpa using hj) (by simpa using hj'))
theorem Kids.cut {w : World} {B d n c g i : Nat} {G : Nat → Prop} {xs : List VA} {vs : List VT} (h : Kids (TrV d) 29 6 VA.enc w B G (some ⟨g, 0, none⟩) n c xs vs) (hi : i ≤ n) :
    Kids (TrV d) 29 6 VA.enc w B G (some ⟨g, 0, none⟩) i c (xs.take i) (vs.take i) :=
  ⟨h.own.cut hi, by have := h.len; simp; omega, fun j hj hj' => by
    simp only [List.getElem_take]
    exact h.tree j (by simp at hj; omega) (by simp at hj'; omega)⟩
theorem sum_le_zip {α β : Type} (f : α → Nat) (g : β → Nat) (C : Nat) : ∀ (xs : List α) (ys : List β), xs.length = ys.length → (∀ i (h : i < xs.length) (h' : i < ys.length), f xs[i] ≤ C * g ys[i]) → (xs.map f).sum ≤ C * (ys.map g).sum
  | [], [], _, _ => by simp
  | x :: xs, y :: ys, hl, h => by
    have h0 := h 0 (by simp) (by simp)
    have ih := sum_le_zip f g C xs ys (by simpa using hl) (fun i hi hi' => by
      have := h (i + 1) (by simpa using hi) (by simpa using hi')
      simpa using this)
    simp only [List.getElem_cons_zero] at h0
    simp only [List.map_cons, List.sum_cons, Nat.mul_add]
    omega
  | [], y :: ys, hl, _ => by simp at hl
  | x :: xs, [], hl, _ => by simp at hl
theorem list_part_le (D : Nat) (v : VT) : 40 + (v.list.map fun x => vW D x + 1).sum + (v.mem.map fun p => vW D p.2 + (6 * p.1.size + 4)).sum ≤ vW (D + 1) v := by
  simp only [vW]; omega
theorem steps_le (D : Nat) (v : VT) (j : Nat) : ((v.list.take j).map fun u => 1 + 1000 * vW D u).sum ≤ 1000 * (v.list.map fun x => vW D x + 1).sum := by
  have h1 := sum_map_le (fun u => 1 + 1000 * vW D u) v.list j
  have h2 : (v.list.map fun u => 1 + 1000 * vW D u).sum ≤ 1000 * (v.list.map fun x => vW D x + 1).sum := sum_le_zip _ _ 1000 _ _ rfl (fun i h h' => by omega)
  omega
theorem near_list_w {D : Nat} {v : VT} {us : List VT} (k : Int) (f : Bool) (n : Int) (hl : vW (D + 3) v = vW (D + 1) v) (e1 : (v.list.map fun x => vW (D + 2) x + 1).sum = (v.list.map fun x => vW D x + 1).sum) (hs : (us.map fun u => vW (D + 2) u + 1).sum ≤ 7000 * (v.list.map fun x => vW D x + 1).sum + 900) :
    vW (D + 3) (.mk k f n v.words us v.mem) ≤ 7000 * vW (D + 1) v := by
  have a1 : vW (D + 3) v = 40 + 6 * v.words.size + ((v.list.map fun x => vW (D + 2) x + 1).sum + (v.mem.map fun p => vW (D + 2) p.2 + (6 * p.1.size + 4)).sum) := rfl
  have a2 : vW (D + 1) v = 40 + 6 * v.words.size + ((v.list.map fun x => vW D x + 1).sum + (v.mem.map fun p => vW D p.2 + (6 * p.1.size + 4)).sum) := rfl
  have a3 : vW (D + 3) (.mk k f n v.words us v.mem) = 40 + 6 * v.words.size + ((us.map fun x => vW (D + 2) x + 1).sum + (v.mem.map fun p => vW (D + 2) p.2 + (6 * p.1.size + 4)).sum) := rfl
  omega
theorem near_list_wide {D m : Nat} {v : VT} {us : List VT} (k : Int) (f : Bool) (n : Int) (hv : Wide m (D + 3) v) (hl : us.length ≤ m + 1) (hu : ∀ u ∈ us, Wide (m + 1) (D + 2) u) : Wide (m + 1) (D + 3) (.mk k f n v.words us v.mem) := by
  obtain ⟨h1, h2, h3, h4, h5⟩ := hv
  exact ⟨hl, by show v.mem.length ≤ m + 1; omega, h3, hu, fun p hp => ⟨(h5 p hp).1, Wide.mono (by omega) _ _ (h5 p hp).2⟩⟩
theorem Kids.imp {α β : Type} {Tr : World → (Nat → Prop) → α → β → Prop} {t : TypeId} {sz : Nat} {enc : α → Nat → Value} {w : World} {B : Nat} {G G' : Nat → Prop} {A : Option Addr} {n c : Nat} {xs : List α} {vs : List β} (hT : TrOk Tr) (h : Kids Tr t sz enc w B G A n c xs vs) (hG : ∀ g, G g → g < w.heap.size → G' g) : Kids Tr t sz enc w B G' A n c xs vs :=
  ⟨h.own, h.len, fun i hi hi' => hT.imp (fun g hg hl => ⟨hG g hg.1 hl, hg.2⟩) (h.tree i hi hi')⟩
def mW (d : Nat) (p : ByteArray × VT) : Nat := vW d p.2 + (6 * p.1.size + 4)
theorem near_mem_w {D : Nat} {v : VT} {ps : List (ByteArray × VT)} (k : Int) (f : Bool) (n : Int) (hl : vW (D + 3) v = vW (D + 1) v) (e1 : (v.mem.map (mW (D + 2))).sum = (v.mem.map (mW D)).sum) (hs : (ps.map (mW (D + 2))).sum ≤ 7000 * (v.mem.map (mW D)).sum + 900) :
    vW (D + 3) (.mk k f n v.words v.list ps) ≤ 7000 * vW (D + 1) v := by
  have a1 : vW (D + 3) v = 40 + 6 * v.words.size + ((v.list.map fun x => vW (D + 2) x + 1).sum + (v.mem.map (mW (D + 2))).sum) := rfl
  have a2 : vW (D + 1) v = 40 + 6 * v.words.size + ((v.list.map fun x => vW D x + 1).sum + (v.mem.map (mW D)).sum) := rfl
  have a3 : vW (D + 3) (.mk k f n v.words v.list ps) = 40 + 6 * v.words.size + ((v.list.map fun x => vW (D + 2) x + 1).sum + (ps.map (mW (D + 2))).sum) := rfl
  omega
theorem near_mem_wide {D m : Nat} {v : VT} {ps : List (ByteArray × VT)} (k : Int) (f : Bool) (n : Int) (hv : Wide m (D + 3) v) (hl : ps.length ≤ m + 1) (hu : ∀ p ∈ ps, p.1.size ≤ 100000 ∧ Wide (m + 1) (D + 2) p.2) : Wide (m + 1) (D + 3) (.mk k f n v.words v.list ps) := by
  obtain ⟨h1, h2, h3, h4, h5⟩ := hv
  exact ⟨by show v.list.length ≤ m + 1; omega, hl, h3, fun x hx => Wide.mono (by omega) _ _ (h4 x hx), hu⟩
theorem mem_part_le (D : Nat) (v : VT) : 40 + (v.mem.map (mW D)).sum ≤ vW (D + 1) v := by
  have a2 : vW (D + 1) v = 40 + 6 * v.words.size + ((v.list.map fun x => vW D x + 1).sum + (v.mem.map (mW D)).sum) := rfl
  omega
theorem msteps_le (D : Nat) (v : VT) (j : Nat) : ((v.mem.take j).map fun p => 2 + 1000 * vW D p.2).sum ≤ 1000 * (v.mem.map (mW D)).sum := by
  have h1 := sum_map_le (fun p : ByteArray × VT => 2 + 1000 * vW D p.2) v.mem j
  have h2 : (v.mem.map fun p => 2 + 1000 * vW D p.2).sum ≤ 1000 * (v.mem.map (mW D)).sum := sum_le_zip _ _ 1000 _ _ rfl (fun i h h' => by unfold mW; omega)
  omega
def RNear (b : Nat) (w : World) (G : Nat → Prop) (D m : Nat) (v : VT) (k : Nat) (e : Ending) (w' : World) : Prop :=
  ∃ (x' : VA) (v' : VT), e = .returned x'.val ∧ Tree w' (fun g => G g ∨ w.heap.size ≤ g) (D + 2) x' v' ∧ vW (D + 2) v' ≤ 7000 * vW D v ∧ Wide (m + 1) (D + 2) v' ∧ SStep b w w' (k + 1000 * vW D v)
def NearSpec (D : Nat) : Prop := ∀ (b k : Nat) (w : World) (x : VA) (v : VT) (G : Nat → Prop) (m : Nat), SInv b w k → k + 1000 * vW D v < 4611686018426000000 → Tree w G D x v → Wide m D v → 10 ≤ m → m ≤ 900 →
  Calls Tryz.prog 6 #[.pointer (some ⟨b, 0, none⟩), x.val] w (RNear b w G D m v k)


set_option maxRecDepth 100000 in
set_option maxHeartbeats 1000000 in
theorem near_v (D : Nat) : NearSpec D := by
  induction D with
  | zero => intro b k w x v G m hs hk ht; exact ht.elim
  | succ D ih =>
    intro b k w x v G m hs hk ht hwd hm10 hm900
    have hb := hs.lt
    have h40 := vW_ge D v
    have HIH := Lib.hid ih
    have HWD := Lib.hid hwd
    have HTW := Lib.hid ht
    obtain ⟨xk, xf, xn, xw, xla, xln, xlc, xma, xmn, xmc⟩ := x
    clear ih hwd
    have X0 := Blk.new w 29 #[.int .i64 xk, .bool xf, .int .i64 xn, .string xw, .slice xla xln xlc, .slice xma xmn xmc]
    have m1 : New w (w.alloc (.cells #[.int .i64 xk, .bool xf, .int .i64 xn, .string xw, .slice xla xln xlc, .slice xma xmn xmc] 29)) := (Mod.refl _ _).alloc _
    have hsz : (w.alloc (.cells #[.int .i64 xk, .bool xf, .int .i64 xn, .string xw, .slice xla xln xlc, .slice xma xmn xmc] 29)).heap.size = w.heap.size + 1 := by simp
    have R0 := Blk.new (w.alloc (.cells #[.int .i64 xk, .bool xf, .int .i64 xn, .string xw, .slice xla xln xlc, .slice xma xmn xmc] 29)) 29 #[.int .i64 0, .bool false, .int .i64 0, .string ⟨#[]⟩, .slice none 0 0, .slice none 0 0]
    rw [hsz] at R0
    have m2 : New (w.alloc (.cells #[.int .i64 xk, .bool xf, .int .i64 xn, .string xw, .slice xla xln xlc, .slice xma xmn xmc] 29)) ((w.alloc (.cells #[.int .i64 xk, .bool xf, .int .i64 xn, .string xw, .slice xla xln xlc, .slice xma xmn xmc] 29)).alloc (.cells #[.int .i64 0, .bool false, .int .i64 0, .string ⟨#[]⟩, .slice none 0 0, .slice none 0 0] 29)) := (Mod.refl _ _).alloc _
    go_enter Tryz.func6, Tryz.ntmps6
    go_upto_region 1 with (fail)
    generalize w.alloc (.cells #[.int .i64 xk, .bool xf, .int .i64 xn, .string xw, .slice xla xln xlc, .slice xma xmn xmc] 29) = w1 at *
    generalize w1.alloc (.cells #[.int .i64 0, .bool false, .int .i64 0, .string ⟨#[]⟩, .slice none 0 0, .slice none 0 0] 29) = w2 at *
    have HX := Lib.hid (X0.mod m2 (fun e => e))
    have HR := Lib.hid R0
    have HT := Lib.hid (((SStep.refl hs).new m1).new m2)
    have HY : Hid (Tree w2 (fun g => G g ∧ g < w.heap.size) (D + 1) ⟨xk, xf, xn, xw, xla, xln, xlc, xma, xmn, xmc⟩ v) := Lib.hid (((Tree.imp (fun g hg hl => ⟨hg, hl⟩) _ _ _ ht).new m1).new m2)
    clear X0 R0 m1 m2 hsz ht hs
    generalize hxb : w.heap.size = xb at *
    generalize hrb : xb + 1 = rb at *
    have hbx : b < xb := by omega
    have hxr : xb < rb := by omega
    have hfl := flip_any b _ 3 _ HT.out.inv (by omega) (by omega) (by omega)
    go_wp2_with fail
    refine hfl.mono ?_
    clear hfl
    rintro e w3 ⟨m3, rfl, h3⟩
    have HX1 := Lib.hid (HX.out.mod h3.only (by omega))
    have HR1 := Lib.hid (HR.out.mod h3.only (by omega))
    have HY1 := Lib.hid (HY.out.stream h3 HT.out.inv.tb)
    have HT1 := Lib.hid (HT.out.trans h3)
    clear HX HR HY HT
    have HX := HX1
    have HR := HR1
    have HY := HY1
    have HT := HT1
    clear HX1 HR1 HY1 HT1
    clear h3
    cases m3 with
    | true =>
      have hrk2 : rvK 2 ≤ 600 := by decide
      have hrv := stream_rv 2 (by omega) b _ w3 HT.out.inv (by omega)
      have hxx := HX.out
      have e0 := hxx.cell 0
      have e1 := hxx.cell 1
      have e2 := hxx.cell 2
      have e3 := hxx.cell 3
      have e4 := hxx.cell 4
      have e5 := hxx.cell 5
      have el := hxx.lt
      have ef := hxx.frozen
      simp only [List.getElem?_toArray, List.getElem?_cons_zero, List.getElem?_cons_succ] at e0 e1 e2 e3 e4 e5
      clear hxx
      go_wp2_with fail
      refine hrv.mono ?_
      clear hrv
      rintro e w4 ⟨y, u, rfl, hty, hwu, hwdu, h4⟩
      have hzs : w3.heap.size ≤ w4.heap.size := h4.only.size
      have hrl3 : rb < w3.heap.size := HR.out.lt
      clear e0 e1 e2 e3 e4 e5 el ef
      have HX1 := Lib.hid (HX.out.mod h4.only (by omega))
      have HR1 := Lib.hid (HR.out.mod h4.only (by omega))
      have HY1 := Lib.hid (HY.out.stream h4 HT.out.inv.tb)
      have HT1 := Lib.hid (HT.out.trans h4)
      clear HX HR HY HT
      have HX := HX1
      have HR := HR1
      have HY := HY1
      have HT := HT1
      clear HX1 HR1 HY1 HT1
      obtain ⟨yk, yf, yn, yw, yla, yln, ylc, yma, ymn, ymc⟩ := y
      have rl := HR.out.lt
      have rf := HR.out.frozen
      have r0 := HR.out.cell 0
      have r1 := HR.out.cell 1
      have r2 := HR.out.cell 2
      have r3 := HR.out.cell 3
      have r4 := HR.out.cell 4
      have r5 := HR.out.cell 5
      have hne : rb ≠ xb := by omega
      simp only [List.getElem?_toArray, List.getElem?_cons_zero, List.getElem?_cons_succ] at r0 r1 r2 r3 r4 r5
      go_wp2_with fail
      obtain ⟨l1, l2, l3⟩ := hty.lift hwdu (show 3 ≤ D + 1 + 2 by omega)
      refine bodyPost_ret (v := VA.val ⟨yk, yf, yn, yw, yla, yln, ylc, yma, ymn, ymc⟩) (by simp [results, Tryz.results6, go_sem, r0, r1, r2, r3, r4, r5, rf]) rfl ⟨⟨yk, yf, yn, yw, yla, yln, ylc, yma, ymn, ymc⟩, u, rfl, ?_, ?_, ?_, ?_⟩
      · refine Tree.imp (G := fun g => w3.heap.size ≤ g) (fun g hg _ => .inr (by omega)) _ _ _ (Tree.mod (S := fun g => g = rb) ?_ (fun g hg _ e => by omega) _ _ _ l1)
        repeat (with_reducible (first | exact Mod.refl _ _ | refine Only.set ?_ _ _))
      · have : rvW 2 ≤ 6000 := by decide
        rw [l2]; omega
      · exact Wide.mono (by omega) _ _ l3
      · have : rvK 2 ≤ 600 := by decide
        repeat (with_reducible (first | exact HT.out.more (by omega) | (refine SStep.set ?_ ?_ _; rotate_left; (simp <;> omega))))
    | false =>
    have hxx := HX.out
    have e0 := hxx.cell 0
    have e1 := hxx.cell 1
    have e2 := hxx.cell 2
    have e3 := hxx.cell 3
    have e4 := hxx.cell 4
    have e5 := hxx.cell 5
    have el := hxx.lt
    have ef := hxx.frozen
    simp only [List.getElem?_toArray, List.getElem?_cons_zero, List.getElem?_cons_succ] at e0 e1 e2 e3 e4 e5
    clear hxx
    by_cases hk4 : xk = 4
    · subst hk4
      obtain ⟨xs, ms, hxs, hxl, hxt, -, -, -⟩ := Tree.rows HY.out
      have hln : v.list.length = xln := by rw [← hxl]; exact hxs.1
      have hlm : xln ≤ m := by rw [← hln]; exact HWD.out.1
      have hcl := cloneVA xs xla xln xlc w3 hxs.sl (by omega)
      have HXT := Lib.hid hxt
      have HLN := Lib.hid hln
      have HXL := Lib.hid (hxl.trans hln)
      have hxr3 : rb < w3.heap.size := HR.out.lt
      clear hxs hxl hxt hln
      go_wp2_with fail
      refine hcl.mono ?_
      clear hcl
      rintro e w4 ⟨A, cc, rfl, hown, m4⟩
      have HK0 : Hid (Kids (TrV (D + 2)) 29 6 VA.enc w4 (rb + 1) (fun g => (G g ∧ g < xb) ∨ rb < g) A xln cc xs v.list) := Lib.hid (by
        have h1 := Kids.cloned (trV_ok D) hown m4 HLN.out (fun i h h' => HXT.out i h h')
        exact ⟨h1.own.less (by omega), h1.len, fun i h h' => Tree.imp (fun g hg _ => ⟨.inl hg.1, hg.2⟩) _ _ _ ((h1.tree i h h').upto (by omega))⟩)
      have HXT4 : Hid (∀ i (h : i < xs.length) (h' : i < v.list.length), Tree w4 (fun g => G g ∧ g < xb) D xs[i] v.list[i]) := Lib.hid (fun i h h' => (HXT.out i h h').new m4)
      clear e0 e1 e2 e3 e4 e5 el ef
      have HX1 := Lib.hid (HX.out.mod m4 (fun e => e))
      have HR1 := Lib.hid (HR.out.mod m4 (fun e => e))
      have HY1 := Lib.hid (HY.out.new m4)
      have HT1 := Lib.hid (HT.out.new m4)
      clear HX HR HY HT
      have HX := HX1
      have HR := HR1
      have HY := HY1
      have HT := HT1
      clear HX1 HR1 HY1 HT1
      clear hown m4 HXT
      go_wp2_with fail
      go_loopw [24] (fun i wr => ∃ (j : Nat) (ys : List VA) (us : List VT), j ≤ xln ∧ i = .int .i64 j ∧ Hid (Blk wr xb 29 #[.int .i64 4, .bool xf, .int .i64 xn, .string xw, .slice xla xln xlc, .slice xma xmn xmc]) ∧ Hid (Blk wr rb 29 #[.int .i64 0, .bool false, .int .i64 0, .string ⟨#[]⟩, .slice none 0 0, .slice none 0 0]) ∧
        Hid (Tree wr (fun g => G g ∧ g < xb) (D + 1) ⟨4, xf, xn, xw, xla, xln, xlc, xma, xmn, xmc⟩ v) ∧ Hid (∀ i (h : i < xs.length) (h' : i < v.list.length), Tree wr (fun g => G g ∧ g < xb) D xs[i] v.list[i]) ∧
        Hid (Kids (TrV (D + 2)) 29 6 VA.enc wr (rb + 1) (fun g => (G g ∧ g < xb) ∨ rb < g) A xln cc ys us) ∧ Hid (∀ i (h : i < ys.length) (h' : i < xs.length), j ≤ i → ys[i] = xs[i]) ∧
        Hid (∀ i (h : i < us.length) (h' : i < v.list.length), vW (D + 2) us[i] ≤ 7000 * vW D v.list[i] ∧ Wide (m + 1) (D + 2) us[i]) ∧ Hid (SStep b w wr (k + 1 + ((v.list.take j).map fun u => 1 + 1000 * vW D u).sum))) (fun i _ => xln - (intOf i).toNat)
      case atStart => exact ⟨0, xs, v.list, Nat.zero_le _, rfl, HX, HR, HY, HXT4, HK0, Lib.hid (fun i h h' _ => rfl), Lib.hid (fun i h h' => by
        have hi : i < xs.length := by have := HXL.out; have := HLN.out; omega
        have hw := HWD.out.2.2.2.1 _ (List.getElem_mem h)
        obtain ⟨l1, l2, l3⟩ := (HXT4.out i hi h).lift hw (show D ≤ D + 2 by omega)
        exact ⟨by rw [l2]; omega, Wide.mono (by omega) _ _ l3⟩), by simpa using HT⟩
      case round =>
        clear HX HR HY HT HXT4 HK0
        rename World => wr
        obtain ⟨j, ys, us, hj, rfl, HX, HR, HY, HXT, HK, HE, HB, HT⟩ := hrel
        have HSUM := Lib.hid (steps_le D v j)
        have hst := HSUM.out
        have hwl := list_part_le D v
        by_cases hlt : j < xln
        · have hjl : j < v.list.length := by have := HLN.out; omega
          have hjx : j < xs.length := by have := HXL.out; omega
          have hst1 := HSUM.out
          have hsj : ((v.list.take (j + 1)).map fun u => 1 + 1000 * vW D u).sum = ((v.list.take j).map fun u => 1 + 1000 * vW D u).sum + (1 + 1000 * vW D v.list[j]) := sum_map_take (fun u => 1 + 1000 * vW D u) hjl
          have hst2 := steps_le D v (j + 1)
          rw [hsj] at hst2
          have HSJ := Lib.hid hsj
          clear hsj
          generalize ((v.list.take j).map fun u => 1 + 1000 * vW D u).sum = sj at *
          have hfl := flip_any b _ 2 _ HT.out.inv (by omega) (by omega) (by omega)
          go_wp2_with fail
          refine hfl.mono ?_
          clear hfl
          rintro e w5 ⟨m5, rfl, h5⟩
          have hbtb := HT.out.inv.tb
          have HXT1 : Hid (∀ i (h : i < xs.length) (h' : i < v.list.length), Tree w5 (fun g => G g ∧ g < xb) D xs[i] v.list[i]) := Lib.hid (fun i h h' => (HXT.out i h h').stream h5 hbtb)
          have HK1 := Lib.hid (HK.out.mod (trV_ok (D + 2)) h5.only (fun g hg ht e => by
            subst e
            rcases ht with ht | ht
            · exact ht.ne hbtb (by decide) rfl
            · exact ht.ne hbtb (by decide) rfl) (fun g hg e => by have := (HK.out.own.far' g hg).1; omega))
          have HX1 := Lib.hid (HX.out.mod h5.only (by omega))
          have HR1 := Lib.hid (HR.out.mod h5.only (by omega))
          have HY1 := Lib.hid (HY.out.stream h5 HT.out.inv.tb)
          have HT1 := Lib.hid (HT.out.trans h5)
          clear HX HR HY HT
          have HX := HX1
          have HR := HR1
          have HY := HY1
          have HT := HT1
          clear HX1 HR1 HY1 HT1
          clear h5 HXT HK hbtb
          cases m5 with
          | false =>
            go_wp2_with fail
            go_roundw
            case rel => exact ⟨j + 1, ys, us, by omega, by go_num, HX, HR, HY, HXT1, HK1, Lib.hid (fun i h h' hij => HE.out i h h' (by omega)), HB, Lib.hid (HT.out.more (by rw [HSJ.out]; omega))⟩
            case measure => simp [intOf]; omega
          | true =>
          obtain ⟨gA, hA, hBg, htbA, hc1, hc2⟩ := HK1.out.own.form (by omega)
          subst hA
          have hyl := HK1.out.own.1
          have hyj : ys[j]'(by omega) = xs[j] := HE.out j (by omega) hjx (Nat.le_refl _)
          have hcall := HIH.out b _ w5 xs[j] v.list[j] (fun g => G g ∧ g < xb) m HT.out.inv (by omega) (HXT1.out j hjx hjl) (HWD.out.2.2.2.1 _ (List.getElem_mem hjl)) hm10 hm900
          have HROW : Hid (∀ W, Own W (rb + 1) 29 6 VA.enc (some ⟨gA, 0, none⟩) xln cc ys → ∀ q, q < 6 → W.cell? ⟨gA, j * 6 + q, none⟩ = some (xs[j].enc q)) := Lib.hid (fun W ho q hq => by
            obtain ⟨g', o', hA', _, hc⟩ := ho.sl.2 (by omega)
            injection hA' with hA'
            injection hA' with h1 h2
            subst h1 h2
            have := hc j (by omega) q hq
            rw [Nat.zero_add, hyj] at this
            exact this)
          have hc := HROW.out w5 HK1.out.own
          have hgl := htbA.lt
          generalize hz : xs[j] = z at *
          obtain ⟨zk, zf, zn, zw, zla, zln, zlc, zma, zmn, zmc⟩ := z
          have c0 := hc 0 (by omega)
          have c1 := hc 1 (by omega)
          have c2 := hc 2 (by omega)
          have c3 := hc 3 (by omega)
          have c4 := hc 4 (by omega)
          have c5 := hc 5 (by omega)
          simp only [VA.enc, Nat.add_zero] at c0 c1 c2 c3 c4 c5
          have hb1 : (0 : Int) ≤ j := by omega
          have hb2 : (j : Int) < xln := by omega
          clear hc
          go_wp2_with fail
          refine hcall.mono ?_
          clear hcall
          rintro e w6 ⟨y, u2, rfl, hty, hwu, hwdu, h6⟩
          have hbtb := HT.out.inv.tb
          have hs56 := h6.only.size
          have HXT6 : Hid (∀ i (h : i < xs.length) (h' : i < v.list.length), Tree w6 (fun g => G g ∧ g < xb) D xs[i] v.list[i]) := Lib.hid (fun i h h' => (HXT1.out i h h').stream h6 hbtb)
          have HK6 := Lib.hid (HK1.out.mod (trV_ok (D + 2)) h6.only (fun g hg ht e => by
            subst e
            rcases ht with ht | ht
            · exact ht.ne hbtb (by decide) rfl
            · exact ht.ne hbtb (by decide) rfl) (fun g hg e => by have := (HK1.out.own.far' g hg).1; omega))
          have HX1 := Lib.hid (HX.out.mod h6.only (by omega))
          have HR1 := Lib.hid (HR.out.mod h6.only (by omega))
          have HY1 := Lib.hid (HY.out.stream h6 HT.out.inv.tb)
          have HT1 := Lib.hid (HT.out.trans h6)
          clear HX HR HY HT
          have HX := HX1
          have HR := HR1
          have HY := HY1
          have HT := HT1
          clear HX1 HR1 HY1 HT1
          have HTY : Hid (Tree w6 (fun z => ((G z ∧ z < xb) ∨ rb < z) ∧ blkOf (some (⟨gA, 0, none⟩ : Addr)) ≠ some z) (D + 2) y u2) := Lib.hid (Tree.imp (fun g hg _ => by
            rcases hg with hg | hg
            · exact ⟨.inl hg, fun e => by injection e with e; simp only at e; have := hg.2; omega⟩
            · exact ⟨.inr (by omega), fun e => by injection e with e; simp only at e; omega⟩) _ _ _ hty)
          have HUB := Lib.hid hwu
          have HUW := Lib.hid hwdu
          clear hty hwu hwdu h6 HXT1 HK1 hbtb c0 c1 c2 c3 c4 c5
          obtain ⟨yk, yf, yn, yw, yla, yln, ylc, yma, ymn, ymc⟩ := y
          have hc := HROW.out w6 HK6.out.own
          have c0 := hc 0 (by omega)
          have c1 := hc 1 (by omega)
          have c2 := hc 2 (by omega)
          have c3 := hc 3 (by omega)
          have c4 := hc 4 (by omega)
          have c5 := hc 5 (by omega)
          simp only [VA.enc, Nat.add_zero] at c0 c1 c2 c3 c4 c5
          have cf := HK6.out.own.frozen
          have cl : gA < w6.heap.size := by omega
          clear hc
          go_upto_region 10 with (fail)
          have hmo : Only gA w6 ((((((w6.setCell ⟨gA, j * 6, none⟩ (.int .i64 yk)).setCell ⟨gA, j * 6 + 1, none⟩ (.bool yf)).setCell ⟨gA, j * 6 + 2, none⟩ (.int .i64 yn)).setCell ⟨gA, j * 6 + 3, none⟩ (.string yw)).setCell ⟨gA, j * 6 + 4, none⟩ (.slice yla yln ylc)).setCell ⟨gA, j * 6 + 5, none⟩ (.slice yma ymn ymc)) := (((((Only.set (Mod.refl _ _) _ _).set _ _).set _ _).set _ _).set _ _).set _ _
          have hyj2 : j < ys.length := by omega
          have hk : Kids (TrV (D + 2)) 29 6 VA.enc ((((((w6.setCell ⟨gA, j * 6, none⟩ (.int .i64 yk)).setCell ⟨gA, j * 6 + 1, none⟩ (.bool yf)).setCell ⟨gA, j * 6 + 2, none⟩ (.int .i64 yn)).setCell ⟨gA, j * 6 + 3, none⟩ (.string yw)).setCell ⟨gA, j * 6 + 4, none⟩ (.slice yla yln ylc)).setCell ⟨gA, j * 6 + 5, none⟩ (.slice yma ymn ymc)) (rb + 1) (fun g => (G g ∧ g < xb) ∨ rb < g) (some ⟨gA, 0, none⟩) xln cc (ys.set j ⟨yk, yf, yn, yw, yla, yln, ylc, yma, ymn, ymc⟩) (us.set j u2) := HK6.out.set6 hyj2 ⟨yk, yf, yn, yw, yla, yln, ylc, yma, ymn, ymc⟩ u2 HTY.out
          have HX7 := Lib.hid (HX.out.mod hmo (by omega))
          have HR7 := Lib.hid (HR.out.mod hmo (by omega))
          have HY7 := Lib.hid (Tree.mod hmo (fun g hg _ e => by have := hg.2; omega) _ _ _ HY.out)
          have HXT7 : Hid (∀ i (h : i < xs.length) (h' : i < v.list.length), Tree ((((((w6.setCell ⟨gA, j * 6, none⟩ (.int .i64 yk)).setCell ⟨gA, j * 6 + 1, none⟩ (.bool yf)).setCell ⟨gA, j * 6 + 2, none⟩ (.int .i64 yn)).setCell ⟨gA, j * 6 + 3, none⟩ (.string yw)).setCell ⟨gA, j * 6 + 4, none⟩ (.slice yla yln ylc)).setCell ⟨gA, j * 6 + 5, none⟩ (.slice yma ymn ymc)) (fun g => G g ∧ g < xb) D xs[i] v.list[i]) := Lib.hid (fun i h h' => Tree.mod hmo (fun g hg _ e => by have := hg.2; omega) _ _ _ (HXT6.out i h h'))
          have HT7 := Lib.hid (HT.out.mod hmo (fun i e => by omega))
          have HK7 := Lib.hid hk
          clear hmo hk HX HR HY HT HXT6 HK6 c0 c1 c2 c3 c4 c5 cf cl HTY
          generalize ((((((w6.setCell ⟨gA, j * 6, none⟩ (.int .i64 yk)).setCell ⟨gA, j * 6 + 1, none⟩ (.bool yf)).setCell ⟨gA, j * 6 + 2, none⟩ (.int .i64 yn)).setCell ⟨gA, j * 6 + 3, none⟩ (.string yw)).setCell ⟨gA, j * 6 + 4, none⟩ (.slice yla yln ylc)).setCell ⟨gA, j * 6 + 5, none⟩ (.slice yma ymn ymc)) = w7 at *
          go_wp2_with fail
          go_roundw
          case rel => exact ⟨j + 1, ys.set j ⟨yk, yf, yn, yw, yla, yln, ylc, yma, ymn, ymc⟩, us.set j u2, by omega, by go_num, HX7, HR7, HY7, HXT7, HK7, Lib.hid (fun i h h' hij => by
            have hne : j ≠ i := by omega
            rw [List.getElem_set_ne hne]
            exact HE.out i (by simpa using h) h' (by omega)), Lib.hid (fun i h h' => by
            by_cases e : j = i
            · subst e
              rw [List.getElem_set_self]
              exact ⟨HUB.out, HUW.out⟩
            · rw [List.getElem_set_ne e]
              exact HB.out i (by simpa using h) h'), Lib.hid (HT7.out.more (by rw [HSJ.out]; omega))⟩
          case measure => simp [intOf]; omega
        · obtain rfl : j = xln := by omega
          have hww := HWD.out
          obtain ⟨l1, l2, l3⟩ := HY.out.lift HWD.out (show D + 1 ≤ D + 3 by omega)
          have HLV := Lib.hid l2
          have HWL := Lib.hid l3
          have HXW : Hid (v.words = xw) := Lib.hid (Tree.fields HY.out).2.2.2.1
          have hul : us.length = j := HK.out.len
          have hE1 : (v.list.map fun x => vW (D + 2) x + 1) = v.list.map fun x => vW D x + 1 := List.map_congr_left (fun y hy => by
            obtain ⟨i, hi, rfl⟩ := List.mem_iff_getElem.1 hy
            have hx : i < xs.length := by have := HXL.out; have := HLN.out; omega
            obtain ⟨-, q2, -⟩ := (HXT.out i hx hi).lift (hww.2.2.2.1 _ hy) (show D ≤ D + 2 by omega)
            rw [q2])
          have HE1 : Hid ((v.list.map fun x => vW (D + 2) x + 1).sum = (v.list.map fun x => vW D x + 1).sum) := Lib.hid (by rw [hE1])
          have hsu : (us.map fun u => vW (D + 2) u + 1).sum ≤ 7000 * (v.list.map fun x => vW D x + 1).sum := sum_le_zip _ _ 7000 _ _ (by rw [hul]; exact HLN.out.symm) (fun i h h' => by have := (HB.out i h h').1; omega)
          have huw : ∀ u ∈ us, Wide (m + 1) (D + 2) u := fun u hu => by
            obtain ⟨i, hi, rfl⟩ := List.mem_iff_getElem.1 hu
            exact (HB.out i hi (by have := HLN.out; omega)).2
          have HSU0 := Lib.hid hsu
          have HUW0 := Lib.hid huw
          have HUL := Lib.hid hul
          have hst3 : ((v.list.take j).map fun u => 1 + 1000 * vW D u).sum ≤ 1000 * (v.list.map fun x => vW D x + 1).sum := hst
          generalize ((v.list.take j).map fun u => 1 + 1000 * vW D u).sum = sj at *
          have hrk1 : rvK 1 ≤ 100 := by decide
          have hrw1 : rvW 1 ≤ 880 := by decide
          clear hww l1 l2 l3 hE1 hsu huw HSUM hst HE HB HXT hul
          have hfl := flip_any b _ 3 _ HT.out.inv (by omega) (by omega) (by omega)
          go_wp2_with fail
          refine hfl.mono ?_
          clear hfl
          rintro e w5 ⟨m5, rfl, h5⟩
          have hbtb := HT.out.inv.tb
          have HK1 := Lib.hid (HK.out.mod (trV_ok (D + 2)) h5.only (fun g hg ht e => by
            subst e
            rcases ht with ht | ht
            · exact ht.ne hbtb (by decide) rfl
            · exact ht.ne hbtb (by decide) rfl) (fun g hg e => by have := (HK.out.own.far' g hg).1; omega))
          have HX1 := Lib.hid (HX.out.mod h5.only (by omega))
          have HR1 := Lib.hid (HR.out.mod h5.only (by omega))
          have HY1 := Lib.hid (HY.out.stream h5 HT.out.inv.tb)
          have HT1 := Lib.hid (HT.out.trans h5)
          clear HX HR HY HT
          have HX := HX1
          have HR := HR1
          have HY := HY1
          have HT := HT1
          clear HX1 HR1 HY1 HT1
          clear h5 HK hbtb
          have HK := HK1
          clear HK1
          cases m5 with
          | true =>
            have hrv := stream_rv 1 (by omega) b _ w5 HT.out.inv (by omega)
            go_wp2_with fail
            refine hrv.mono ?_
            clear hrv
            rintro e w6 ⟨y, u, rfl, hty, hwu, hwdu, h6⟩
            have hbtb := HT.out.inv.tb
            have hrl5 : rb < w5.heap.size := HR.out.lt
            have hfar : ∀ g, blkOf A = some g → g < w5.heap.size := fun g hg => (HK.out.own.far' g hg).2.1
            have HK6 := Lib.hid (HK.out.mod (trV_ok (D + 2)) h6.only (fun g hg ht e => by
              subst e
              rcases ht with ht | ht
              · exact ht.ne hbtb (by decide) rfl
              · exact ht.ne hbtb (by decide) rfl) (fun g hg e => by have := (HK.out.own.far' g hg).1; omega))
            obtain ⟨q1, q2, q3⟩ := hty.lift hwdu (show 2 ≤ D + 2 by omega)
            have HTU : Hid (Tree w6 (fun g => ((G g ∧ g < xb) ∨ rb < g) ∧ blkOf A ≠ some g) (D + 2) y u) := Lib.hid (Tree.imp (fun g (hg : w5.heap.size ≤ g) _ => ⟨.inr (by omega), fun e => by have := hfar g e; omega⟩) _ _ _ q1)
            have HX1 := Lib.hid (HX.out.mod h6.only (by omega))
            have HR1 := Lib.hid (HR.out.mod h6.only (by omega))
            have HY1 := Lib.hid (HY.out.stream h6 HT.out.inv.tb)
            have HT1 := Lib.hid (HT.out.trans h6)
            clear HX HR HY HT
            have HX := HX1
            have HR := HR1
            have HY := HY1
            have HT := HT1
            clear HX1 HR1 HY1 HT1
            have HUX : Hid (vW (D + 2) u ≤ 880 ∧ Wide (m + 1) (D + 2) u) := Lib.hid ⟨by rw [q2]; omega, Wide.mono (by omega) _ _ q3⟩
            clear hty hwu hwdu h6 hbtb hfar HK q1 q2 q3
            obtain ⟨yk, yf, yn, yw, yla, yln, ylc, yma, ymn, ymc⟩ := y
            have m7 : New w6 (w6.alloc (.cells #[.int .i64 yk, .bool yf, .int .i64 yn, .string yw, .slice yla yln ylc, .slice yma ymn ymc] 29)) := (Mod.refl _ _).alloc _
            have hk7 := HK6.out.new (trV_ok (D + 2)) m7
            have hty7 := HTU.out.new m7
            have blk7 : Blk (w6.alloc (.cells #[.int .i64 yk, .bool yf, .int .i64 yn, .string yw, .slice yla yln ylc, .slice yma ymn ymc] 29)) w6.heap.size 29 (encL 6 VA.enc ⟨yk, yf, yn, yw, yla, yln, ylc, yma, ymn, ymc⟩).toArray := Blk.new _ _ _
            have HX1 := Lib.hid (HX.out.mod m7 (fun e => e))
            have HR1 := Lib.hid (HR.out.mod m7 (fun e => e))
            have HY1 := Lib.hid (HY.out.new m7)
            have HT1 := Lib.hid (HT.out.new m7)
            clear HX HR HY HT
            have HX := HX1
            have HR := HR1
            have HY := HY1
            have HT := HT1
            clear HX1 HR1 HY1 HT1
            have hzz : rb + 1 ≤ (w6.alloc (.cells #[.int .i64 yk, .bool yf, .int .i64 yn, .string yw, .slice yla yln ylc, .slice yma ymn ymc] 29)).heap.size := HR.out.lt
            go_upto_region 15 with (at_builtin; refine wpList_push rfl _ _ _ rfl 88 Tryz.underlying26 einfo_val rfl hk7.own ⟨yk, yf, yn, yw, yla, yln, ylc, yma, ymn, ymc⟩ w6.heap.size rfl blk7 (fun j hj => VA.one _ j hj) (by omega) (by omega) hzz ?_; intro g9 cap9 w9 own9 hm9 hat9 hlt9)
            have HK9 := Lib.hid (hk7.push (trV_ok (D + 2)) hty7 own9 hm9 hat9)
            have HX1 := Lib.hid (HX.out.mod hm9 (fun e => by have := (hk7.own.far' _ e).1; omega))
            have HR1 := Lib.hid (HR.out.mod hm9 (fun e => by have := (hk7.own.far' _ e).1; omega))
            have HY1 := Lib.hid (Tree.mod hm9 (fun g hg _ e => by have := (hk7.own.far' _ e).1; have := hg.2; omega) _ _ _ HY.out)
            have HT1 := Lib.hid (HT.out.mod hm9 (fun i e => by have := (hk7.own.far' _ e).1; omega))
            clear HX HR HY HT
            have HX := HX1
            have HR := HR1
            have HY := HY1
            have HT := HT1
            clear HX1 HR1 HY1 HT1
            have HK := HK9
            have HSU : Hid (((us ++ [u]).map fun u => vW (D + 2) u + 1).sum ≤ 7000 * (v.list.map fun x => vW D x + 1).sum + 900) := Lib.hid (by
              have h1 := HSU0.out
              have h2 := HUX.out.1
              simp only [List.map_append, List.sum_append, List.map_cons, List.map_nil, List.sum_cons, List.sum_nil]
              omega)
            have HUW : Hid (∀ z ∈ us ++ [u], Wide (m + 1) (D + 2) z) := Lib.hid (fun z hz => by
              rcases List.mem_append.1 hz with hz | hz
              · exact HUW0.out z hz
              · simp only [List.mem_singleton] at hz; subst hz; exact HUX.out.2)
            have HLU : Hid ((us ++ [u]).length = j + 1) := Lib.hid (by rw [List.length_append, HUL.out]; rfl)
            clear hk7 hty7 own9 hm9 hat9 hlt9 HK9 HK6 HTU m7 blk7
            have hxx := HX.out
            have e0 := hxx.cell 0
            have e1 := hxx.cell 1
            have e2 := hxx.cell 2
            have e3 := hxx.cell 3
            have e4 := hxx.cell 4
            have e5 := hxx.cell 5
            have el := hxx.lt
            have ef := hxx.frozen
            simp only [List.getElem?_toArray, List.getElem?_cons_zero, List.getElem?_cons_succ] at e0 e1 e2 e3 e4 e5
            clear hxx
            go_upto_region 29 with (fail)
            have hmo : Only xb w9 ((w9).setCell ⟨xb, 4, none⟩ (.slice (some ⟨g9, 0, none⟩) (j + 1) cap9)) := Only.set (Mod.refl _ _) 4 _
            have HX8 := Lib.hid (HX.out.set 4 (.slice (some ⟨g9, 0, none⟩) (j + 1) cap9))
            simp only [Array.setIfInBounds, List.size_toArray, List.length_cons, List.length_nil, Nat.reduceAdd, Nat.reduceLT, ↓reduceDIte, List.set_toArray, List.set_cons_zero, List.set_cons_succ] at HX8
            have HR8 := Lib.hid (HR.out.mod hmo (by omega))
            have HT8 := Lib.hid (HT.out.set (p := ⟨xb, 4, none⟩) (by simp only; omega) (.slice (some ⟨g9, 0, none⟩) (j + 1) cap9))
            have hk8 := HK.out.mod (trV_ok (D + 2)) hmo (fun g hg _ e => by rcases hg with h | h <;> omega) (fun g hg e => by have := (HK.out.own.far' g hg).1; omega)
            have hy8 := Tree.mod hmo (fun g hg _ e => by have := hg.2; omega) _ _ _ HY.out
            have HTY := Lib.hid (Tree.set_list (d := D + 2) (Tree.imp (G' := fun g => (G g ∧ g < xb) ∨ rb < g) (fun g hg _ => .inl hg) _ _ _ (hy8.upto (show D + 1 ≤ D + 2 + 1 by omega))) hk8 (fun g hg _ => hg) (fun g hg => .inr (by omega)))
            clear hmo hk8 hy8 HX HR HY HT HK e0 e1 e2 e3 e4 e5 el ef
            generalize (w9).setCell ⟨xb, 4, none⟩ (.slice (some ⟨g9, 0, none⟩) (j + 1) cap9) = w8 at *
            have HX := HX8
            have HR := HR8
            have HT := HT8
            clear HX8 HR8 HT8
            have hxx := HX.out
            have e0 := hxx.cell 0
            have e1 := hxx.cell 1
            have e2 := hxx.cell 2
            have e3 := hxx.cell 3
            have e4 := hxx.cell 4
            have e5 := hxx.cell 5
            have el := hxx.lt
            have ef := hxx.frozen
            simp only [List.getElem?_toArray, List.getElem?_cons_zero, List.getElem?_cons_succ] at e0 e1 e2 e3 e4 e5
            clear hxx
            have rl := HR.out.lt
            have rf := HR.out.frozen
            have r0 := HR.out.cell 0
            have r1 := HR.out.cell 1
            have r2 := HR.out.cell 2
            have r3 := HR.out.cell 3
            have r4 := HR.out.cell 4
            have r5 := HR.out.cell 5
            have hne : rb ≠ xb := by omega
            simp only [List.getElem?_toArray, List.getElem?_cons_zero, List.getElem?_cons_succ] at r0 r1 r2 r3 r4 r5
            go_wp2_with fail
            refine bodyPost_ret (v := VA.val ⟨4, xf, xn, xw, (some ⟨g9, 0, none⟩), (j + 1), cap9, xma, xmn, xmc⟩) (by simp [results, Tryz.results6, go_sem, r0, r1, r2, r3, r4, r5, rf, hne]) rfl ⟨⟨4, xf, xn, xw, (some ⟨g9, 0, none⟩), (j + 1), cap9, xma, xmn, xmc⟩, .mk 4 xf xn xw (us ++ [u]) v.mem, rfl, ?_, ?_, ?_, ?_⟩
            · refine Tree.imp (G := fun g => (G g ∧ g < xb) ∨ rb < g) (fun g hg _ => by rcases hg with h | h; exact .inl h.1; exact .inr (by omega)) _ _ _ (Tree.mod (S := fun g => g = rb) ?_ (fun g hg _ e => by rcases hg with h | h <;> omega) _ _ _ HTY.out)
              repeat (with_reducible (first | exact Mod.refl _ _ | refine Only.set ?_ _ _))
            · have := near_list_w (us := (us ++ [u])) 4 xf xn HLV.out HE1.out HSU.out
              rw [HXW.out] at this
              exact this
            · have := near_list_wide (us := (us ++ [u])) 4 xf xn HWL.out (by have := HLU.out; omega) HUW.out
              rw [HXW.out] at this
              exact this
            · repeat (with_reducible (first | exact HT.out.more (by omega) | (refine SStep.set ?_ ?_ _; rotate_left; (simp <;> omega))))
          | false =>
            have hfl := flip_any b _ 3 _ HT.out.inv (by omega) (by omega) (by omega)
            have HSU : Hid ((us.map fun u => vW (D + 2) u + 1).sum ≤ 7000 * (v.list.map fun x => vW D x + 1).sum + 900) := Lib.hid (by have h1 := HSU0.out; omega)
            have HLU : Hid (us.length ≤ j + 1) := Lib.hid (by have := HUL.out; omega)
            go_wp2_with fail
            refine hfl.mono ?_
            clear hfl
            rintro e w7 ⟨m7, rfl, h7⟩
            have hbtb := HT.out.inv.tb
            have HK1 := Lib.hid (HK.out.mod (trV_ok (D + 2)) h7.only (fun g hg ht e => by
              subst e
              rcases ht with ht | ht
              · exact ht.ne hbtb (by decide) rfl
              · exact ht.ne hbtb (by decide) rfl) (fun g hg e => by have := (HK.out.own.far' g hg).1; omega))
            have HX1 := Lib.hid (HX.out.mod h7.only (by omega))
            have HR1 := Lib.hid (HR.out.mod h7.only (by omega))
            have HY1 := Lib.hid (HY.out.stream h7 HT.out.inv.tb)
            have HT1 := Lib.hid (HT.out.trans h7)
            clear HX HR HY HT
            have HX := HX1
            have HR := HR1
            have HY := HY1
            have HT := HT1
            clear HX1 HR1 HY1 HT1
            clear h7 HK hbtb
            have HK := HK1
            clear HK1
            by_cases hcut : m7 = true ∧ 0 < j
            · obtain ⟨rfl, hj0⟩ := hcut
              have hjp : (0 : Int) < j := by omega
              obtain ⟨gA, hA, hBg, htbA, hcc1, hcc2⟩ := HK.out.own.form hj0
              subst hA
              have hcp1 : (j : Int) ≤ cc := by omega
              have hb1 : (0 : Int) ≤ (j : Int) - 1 := by omega
              have hb2 : (j : Int) - 1 ≤ cc := by omega
              go_upto_region 15 with (fail)
              have HKC := Lib.hid (HK.out.cut (show j - 1 ≤ j by omega))
              have HSU1 : Hid (((us.take (j - 1)).map fun u => vW (D + 2) u + 1).sum ≤ 7000 * (v.list.map fun x => vW D x + 1).sum + 900) := Lib.hid (Nat.le_trans (sum_map_le (fun u => vW (D + 2) u + 1) us (j - 1)) HSU.out)
              have HUW : Hid (∀ z ∈ us.take (j - 1), Wide (m + 1) (D + 2) z) := Lib.hid (fun z hz => HUW0.out z (List.mem_of_mem_take hz))
              have HLU1 : Hid ((us.take (j - 1)).length ≤ j + 1) := Lib.hid (by have := HUL.out; simp; omega)
              clear HK HSU HLU
              have HK := HKC
              have HSU := HSU1
              have HLU := HLU1
              clear HKC HSU1 HLU1
              have hxx := HX.out
              have e0 := hxx.cell 0
              have e1 := hxx.cell 1
              have e2 := hxx.cell 2
              have e3 := hxx.cell 3
              have e4 := hxx.cell 4
              have e5 := hxx.cell 5
              have el := hxx.lt
              have ef := hxx.frozen
              simp only [List.getElem?_toArray, List.getElem?_cons_zero, List.getElem?_cons_succ] at e0 e1 e2 e3 e4 e5
              clear hxx
              go_upto_region 29 with (fail)
              have hmo : Only xb w7 ((w7).setCell ⟨xb, 4, none⟩ (.slice (some ⟨gA, 0, none⟩) (j - 1) cc)) := Only.set (Mod.refl _ _) 4 _
              have HX8 := Lib.hid (HX.out.set 4 (.slice (some ⟨gA, 0, none⟩) (j - 1) cc))
              simp only [Array.setIfInBounds, List.size_toArray, List.length_cons, List.length_nil, Nat.reduceAdd, Nat.reduceLT, ↓reduceDIte, List.set_toArray, List.set_cons_zero, List.set_cons_succ] at HX8
              have HR8 := Lib.hid (HR.out.mod hmo (by omega))
              have HT8 := Lib.hid (HT.out.set (p := ⟨xb, 4, none⟩) (by simp only; omega) (.slice (some ⟨gA, 0, none⟩) (j - 1) cc))
              have hk8 := HK.out.mod (trV_ok (D + 2)) hmo (fun g hg _ e => by rcases hg with h | h <;> omega) (fun g hg e => by have := (HK.out.own.far' g hg).1; omega)
              have hy8 := Tree.mod hmo (fun g hg _ e => by have := hg.2; omega) _ _ _ HY.out
              have HTY := Lib.hid (Tree.set_list (d := D + 2) (Tree.imp (G' := fun g => (G g ∧ g < xb) ∨ rb < g) (fun g hg _ => .inl hg) _ _ _ (hy8.upto (show D + 1 ≤ D + 2 + 1 by omega))) hk8 (fun g hg _ => hg) (fun g hg => .inr (by omega)))
              clear hmo hk8 hy8 HX HR HY HT HK e0 e1 e2 e3 e4 e5 el ef
              generalize (w7).setCell ⟨xb, 4, none⟩ (.slice (some ⟨gA, 0, none⟩) (j - 1) cc) = w8 at *
              have HX := HX8
              have HR := HR8
              have HT := HT8
              clear HX8 HR8 HT8
              have hxx := HX.out
              have e0 := hxx.cell 0
              have e1 := hxx.cell 1
              have e2 := hxx.cell 2
              have e3 := hxx.cell 3
              have e4 := hxx.cell 4
              have e5 := hxx.cell 5
              have el := hxx.lt
              have ef := hxx.frozen
              simp only [List.getElem?_toArray, List.getElem?_cons_zero, List.getElem?_cons_succ] at e0 e1 e2 e3 e4 e5
              clear hxx
              have rl := HR.out.lt
              have rf := HR.out.frozen
              have r0 := HR.out.cell 0
              have r1 := HR.out.cell 1
              have r2 := HR.out.cell 2
              have r3 := HR.out.cell 3
              have r4 := HR.out.cell 4
              have r5 := HR.out.cell 5
              have hne : rb ≠ xb := by omega
              simp only [List.getElem?_toArray, List.getElem?_cons_zero, List.getElem?_cons_succ] at r0 r1 r2 r3 r4 r5
              go_wp2_with fail
              refine bodyPost_ret (v := VA.val ⟨4, xf, xn, xw, (some ⟨gA, 0, none⟩), (j - 1), cc, xma, xmn, xmc⟩) (by simp [results, Tryz.results6, go_sem, r0, r1, r2, r3, r4, r5, rf, hne]) rfl ⟨⟨4, xf, xn, xw, (some ⟨gA, 0, none⟩), (j - 1), cc, xma, xmn, xmc⟩, .mk 4 xf xn xw (us.take (j - 1)) v.mem, rfl, ?_, ?_, ?_, ?_⟩
              · refine Tree.imp (G := fun g => (G g ∧ g < xb) ∨ rb < g) (fun g hg _ => by rcases hg with h | h; exact .inl h.1; exact .inr (by omega)) _ _ _ (Tree.mod (S := fun g => g = rb) ?_ (fun g hg _ e => by rcases hg with h | h <;> omega) _ _ _ HTY.out)
                repeat (with_reducible (first | exact Mod.refl _ _ | refine Only.set ?_ _ _))
              · have := near_list_w (us := (us.take (j - 1))) 4 xf xn HLV.out HE1.out HSU.out
                rw [HXW.out] at this
                exact this
              · have := near_list_wide (us := (us.take (j - 1))) 4 xf xn HWL.out (by have := HLU.out; omega) HUW.out
                rw [HXW.out] at this
                exact this
              · repeat (with_reducible (first | exact HT.out.more (by omega) | (refine SStep.set ?_ ?_ _; rotate_left; (simp <;> omega))))
            · have HUW := HUW0
              cases m7 with
              | false =>
                have hxx := HX.out
                have e0 := hxx.cell 0
                have e1 := hxx.cell 1
                have e2 := hxx.cell 2
                have e3 := hxx.cell 3
                have e4 := hxx.cell 4
                have e5 := hxx.cell 5
                have el := hxx.lt
                have ef := hxx.frozen
                simp only [List.getElem?_toArray, List.getElem?_cons_zero, List.getElem?_cons_succ] at e0 e1 e2 e3 e4 e5
                clear hxx
                go_upto_region 29 with (fail)
                have hmo : Only xb w7 ((w7).setCell ⟨xb, 4, none⟩ (.slice A j cc)) := Only.set (Mod.refl _ _) 4 _
                have HX8 := Lib.hid (HX.out.set 4 (.slice A j cc))
                simp only [Array.setIfInBounds, List.size_toArray, List.length_cons, List.length_nil, Nat.reduceAdd, Nat.reduceLT, ↓reduceDIte, List.set_toArray, List.set_cons_zero, List.set_cons_succ] at HX8
                have HR8 := Lib.hid (HR.out.mod hmo (by omega))
                have HT8 := Lib.hid (HT.out.set (p := ⟨xb, 4, none⟩) (by simp only; omega) (.slice A j cc))
                have hk8 := HK.out.mod (trV_ok (D + 2)) hmo (fun g hg _ e => by rcases hg with h | h <;> omega) (fun g hg e => by have := (HK.out.own.far' g hg).1; omega)
                have hy8 := Tree.mod hmo (fun g hg _ e => by have := hg.2; omega) _ _ _ HY.out
                have HTY := Lib.hid (Tree.set_list (d := D + 2) (Tree.imp (G' := fun g => (G g ∧ g < xb) ∨ rb < g) (fun g hg _ => .inl hg) _ _ _ (hy8.upto (show D + 1 ≤ D + 2 + 1 by omega))) hk8 (fun g hg _ => hg) (fun g hg => .inr (by omega)))
                clear hmo hk8 hy8 HX HR HY HT HK e0 e1 e2 e3 e4 e5 el ef
                generalize (w7).setCell ⟨xb, 4, none⟩ (.slice A j cc) = w8 at *
                have HX := HX8
                have HR := HR8
                have HT := HT8
                clear HX8 HR8 HT8
                have hxx := HX.out
                have e0 := hxx.cell 0
                have e1 := hxx.cell 1
                have e2 := hxx.cell 2
                have e3 := hxx.cell 3
                have e4 := hxx.cell 4
                have e5 := hxx.cell 5
                have el := hxx.lt
                have ef := hxx.frozen
                simp only [List.getElem?_toArray, List.getElem?_cons_zero, List.getElem?_cons_succ] at e0 e1 e2 e3 e4 e5
                clear hxx
                have rl := HR.out.lt
                have rf := HR.out.frozen
                have r0 := HR.out.cell 0
                have r1 := HR.out.cell 1
                have r2 := HR.out.cell 2
                have r3 := HR.out.cell 3
                have r4 := HR.out.cell 4
                have r5 := HR.out.cell 5
                have hne : rb ≠ xb := by omega
                simp only [List.getElem?_toArray, List.getElem?_cons_zero, List.getElem?_cons_succ] at r0 r1 r2 r3 r4 r5
                go_wp2_with fail
                refine bodyPost_ret (v := VA.val ⟨4, xf, xn, xw, A, j, cc, xma, xmn, xmc⟩) (by simp [results, Tryz.results6, go_sem, r0, r1, r2, r3, r4, r5, rf, hne]) rfl ⟨⟨4, xf, xn, xw, A, j, cc, xma, xmn, xmc⟩, .mk 4 xf xn xw us v.mem, rfl, ?_, ?_, ?_, ?_⟩
                · refine Tree.imp (G := fun g => (G g ∧ g < xb) ∨ rb < g) (fun g hg _ => by rcases hg with h | h; exact .inl h.1; exact .inr (by omega)) _ _ _ (Tree.mod (S := fun g => g = rb) ?_ (fun g hg _ e => by rcases hg with h | h <;> omega) _ _ _ HTY.out)
                  repeat (with_reducible (first | exact Mod.refl _ _ | refine Only.set ?_ _ _))
                · have := near_list_w (us := us) 4 xf xn HLV.out HE1.out HSU.out
                  rw [HXW.out] at this
                  exact this
                · have := near_list_wide (us := us) 4 xf xn HWL.out (by have := HLU.out; omega) HUW.out
                  rw [HXW.out] at this
                  exact this
                · repeat (with_reducible (first | exact HT.out.more (by omega) | (refine SStep.set ?_ ?_ _; rotate_left; (simp <;> omega))))
              | true =>
                have hj0 : j = 0 := by
                  rcases Nat.eq_zero_or_pos j with h | h
                  · exact h
                  · exact absurd ⟨rfl, h⟩ hcut
                have hjd : decide ((0 : Int) < (j : Int)) = false := by simp; omega
                have hjn : ¬ (0 : Int) < (j : Int) := by omega
                clear hj0 hcut
                have hxx := HX.out
                have e0 := hxx.cell 0
                have e1 := hxx.cell 1
                have e2 := hxx.cell 2
                have e3 := hxx.cell 3
                have e4 := hxx.cell 4
                have e5 := hxx.cell 5
                have el := hxx.lt
                have ef := hxx.frozen
                simp only [List.getElem?_toArray, List.getElem?_cons_zero, List.getElem?_cons_succ] at e0 e1 e2 e3 e4 e5
                clear hxx
                go_upto_region 29 with (fail)
                have hmo : Only xb w7 ((w7).setCell ⟨xb, 4, none⟩ (.slice A j cc)) := Only.set (Mod.refl _ _) 4 _
                have HX8 := Lib.hid (HX.out.set 4 (.slice A j cc))
                simp only [Array.setIfInBounds, List.size_toArray, List.length_cons, List.length_nil, Nat.reduceAdd, Nat.reduceLT, ↓reduceDIte, List.set_toArray, List.set_cons_zero, List.set_cons_succ] at HX8
                have HR8 := Lib.hid (HR.out.mod hmo (by omega))
                have HT8 := Lib.hid (HT.out.set (p := ⟨xb, 4, none⟩) (by simp only; omega) (.slice A j cc))
                have hk8 := HK.out.mod (trV_ok (D + 2)) hmo (fun g hg _ e => by rcases hg with h | h <;> omega) (fun g hg e => by have := (HK.out.own.far' g hg).1; omega)
                have hy8 := Tree.mod hmo (fun g hg _ e => by have := hg.2; omega) _ _ _ HY.out
                have HTY := Lib.hid (Tree.set_list (d := D + 2) (Tree.imp (G' := fun g => (G g ∧ g < xb) ∨ rb < g) (fun g hg _ => .inl hg) _ _ _ (hy8.upto (show D + 1 ≤ D + 2 + 1 by omega))) hk8 (fun g hg _ => hg) (fun g hg => .inr (by omega)))
                clear hmo hk8 hy8 HX HR HY HT HK e0 e1 e2 e3 e4 e5 el ef
                generalize (w7).setCell ⟨xb, 4, none⟩ (.slice A j cc) = w8 at *
                have HX := HX8
                have HR := HR8
                have HT := HT8
                clear HX8 HR8 HT8
                have hxx := HX.out
                have e0 := hxx.cell 0
                have e1 := hxx.cell 1
                have e2 := hxx.cell 2
                have e3 := hxx.cell 3
                have e4 := hxx.cell 4
                have e5 := hxx.cell 5
                have el := hxx.lt
                have ef := hxx.frozen
                simp only [List.getElem?_toArray, List.getElem?_cons_zero, List.getElem?_cons_succ] at e0 e1 e2 e3 e4 e5
                clear hxx
                have rl := HR.out.lt
                have rf := HR.out.frozen
                have r0 := HR.out.cell 0
                have r1 := HR.out.cell 1
                have r2 := HR.out.cell 2
                have r3 := HR.out.cell 3
                have r4 := HR.out.cell 4
                have r5 := HR.out.cell 5
                have hne : rb ≠ xb := by omega
                simp only [List.getElem?_toArray, List.getElem?_cons_zero, List.getElem?_cons_succ] at r0 r1 r2 r3 r4 r5
                go_wp2_with fail
                refine bodyPost_ret (v := VA.val ⟨4, xf, xn, xw, A, j, cc, xma, xmn, xmc⟩) (by simp [results, Tryz.results6, go_sem, r0, r1, r2, r3, r4, r5, rf, hne]) rfl ⟨⟨4, xf, xn, xw, A, j, cc, xma, xmn, xmc⟩, .mk 4 xf xn xw us v.mem, rfl, ?_, ?_, ?_, ?_⟩
                · refine Tree.imp (G := fun g => (G g ∧ g < xb) ∨ rb < g) (fun g hg _ => by rcases hg with h | h; exact .inl h.1; exact .inr (by omega)) _ _ _ (Tree.mod (S := fun g => g = rb) ?_ (fun g hg _ e => by rcases hg with h | h <;> omega) _ _ _ HTY.out)
                  repeat (with_reducible (first | exact Mod.refl _ _ | refine Only.set ?_ _ _))
                · have := near_list_w (us := us) 4 xf xn HLV.out HE1.out HSU.out
                  rw [HXW.out] at this
                  exact this
                · have := near_list_wide (us := us) 4 xf xn HWL.out (by have := HLU.out; omega) HUW.out
                  rw [HXW.out] at this
                  exact this
                · repeat (with_reducible (first | exact HT.out.more (by omega) | (refine SStep.set ?_ ?_ _; rotate_left; (simp <;> omega))))
    by_cases hk5 : xk = 5
    · subst hk5
      have f4 : ((5 : Int) == 4) = false := rfl
      have hmn : v.mem.length = xmn := (Tree.fields HY.out).2.2.2.2.2
      have hlm : xmn ≤ m := by rw [← hmn]; exact HWD.out.2.1
      have HMN := Lib.hid hmn
      clear hmn
      go_wp2_with fail
      clear e0 e1 e2 e3 e4 e5 el ef
      go_loopw [7, 69] (fun t i wr => ∃ (j n c : Nat) (A : Option Addr) (ms : List MA) (ps : List (ByteArray × VT)), j ≤ xmn ∧ i = .int .i64 j ∧ t = .slice A n c ∧ n ≤ j ∧ Hid (Blk wr xb 29 #[.int .i64 5, .bool xf, .int .i64 xn, .string xw, .slice xla xln xlc, .slice xma xmn xmc]) ∧ Hid (Blk wr rb 29 #[.int .i64 0, .bool false, .int .i64 0, .string ⟨#[]⟩, .slice none 0 0, .slice none 0 0]) ∧
        Hid (Tree wr (fun g => G g ∧ g < xb) (D + 1) ⟨5, xf, xn, xw, xla, xln, xlc, xma, xmn, xmc⟩ v) ∧
        Hid (Kids (TrM (D + 2)) 54 7 MA.enc wr (rb + 1) (fun g => (G g ∧ g < xb) ∨ rb < g) A n c ms ps) ∧
        Hid ((ps.map (mW (D + 2))).sum ≤ 7000 * ((v.mem.take j).map (mW D)).sum) ∧ Hid (∀ p ∈ ps, p.1.size ≤ 100000 ∧ Wide (m + 1) (D + 2) p.2) ∧ Hid (SStep b w wr (k + 1 + ((v.mem.take j).map fun p => 2 + 1000 * vW D p.2).sum))) (fun _ i _ => xmn - (intOf i).toNat)
      case atStart => exact ⟨0, 0, 0, none, [], [], Nat.zero_le _, rfl, rfl, Nat.le_refl _, HX, HR, HY, Lib.hid Kids.nil, Lib.hid (by simp), Lib.hid (fun p hp => by simp at hp), by simpa using HT⟩
      case round =>
        clear HX HR HY HT
        rename World => wr
        obtain ⟨j, n, c, A, ms, ps, hj, rfl, rfl, hnj, HX, HR, HY, HK, HS, HB, HT⟩ := hrel
        have hst := msteps_le D v j
        have hmp := mem_part_le D v
        by_cases hlt : j < xmn
        · have hjl : j < v.mem.length := by have := HMN.out; omega
          have hsj : ((v.mem.take (j + 1)).map fun p => 2 + 1000 * vW D p.2).sum = ((v.mem.take j).map fun p => 2 + 1000 * vW D p.2).sum + (2 + 1000 * vW D v.mem[j].2) := sum_map_take (fun p : ByteArray × VT => 2 + 1000 * vW D p.2) hjl
          have hwj : ((v.mem.take (j + 1)).map (mW D)).sum = ((v.mem.take j).map (mW D)).sum + mW D v.mem[j] := sum_map_take (mW D) hjl
          have hst2 := msteps_le D v (j + 1)
          rw [hsj] at hst2
          have HSJ := Lib.hid hsj
          have HWJ := Lib.hid hwj
          have hmwj : mW D v.mem[j] = vW D v.mem[j].2 + (6 * v.mem[j].1.size + 4) := rfl
          have HMWJ := Lib.hid hmwj
          clear hsj hwj hmwj
          generalize ((v.mem.take j).map fun p => 2 + 1000 * vW D p.2).sum = sj at *
          generalize ((v.mem.take j).map (mW D)).sum = wj at *
          obtain ⟨g, o, y, hA, hgl, htb, hGg, hcn, hc, hty⟩ := HY.out.member hjl
          simp only at hA
          subst hA
          obtain ⟨hnz, hwdj⟩ := HWD.out.2.2.2.2 _ (List.getElem_mem hjl)
          obtain ⟨yk, yf, yn, yw, yla, yln, ylc, yma, ymn, ymc⟩ := y
          have c0 := hc 0 (by omega)
          have c1 := hc 1 (by omega)
          have c2 := hc 2 (by omega)
          have c3 := hc 3 (by omega)
          have c4 := hc 4 (by omega)
          have c5 := hc 5 (by omega)
          simp only [VA.enc, Nat.add_zero, Nat.zero_add] at c0 c1 c2 c3 c4 c5
          clear hc
          generalize hnm : v.mem[j].1 = nm at *
          have hb1 : (0 : Int) ≤ j := by omega
          have hb2 : (j : Int) < xmn := by omega
          have hma : New wr (wr.alloc (.cells #[.string nm, .int .i64 yk, .bool yf, .int .i64 yn, .string yw, .slice yla yln ylc, .slice yma ymn ymc] 54)) := (Mod.refl _ _).alloc _
          have hmx := Blk.new wr 54 #[.string nm, .int .i64 yk, .bool yf, .int .i64 yn, .string yw, .slice yla yln ylc, .slice yma ymn ymc]
          have HMX := Lib.hid hmx
          have HKI := Lib.hid ((HK.out.imp (trM_ok (D + 2)) (G' := fun g => ((G g ∧ g < xb) ∨ rb < g) ∧ g < wr.heap.size) (fun g hg hl => ⟨hg, hl⟩)).new (trM_ok (D + 2)) hma)
          have hfar : ∀ g, blkOf A = some g → g < wr.heap.size ∧ rb < g := fun g hg => by have := HK.out.own.far' g hg; omega
          have HTYM := Lib.hid (hty.new hma)
          have hrw : rb < wr.heap.size := HR.out.lt
          clear hty hmx htb hGg
          go_upto_region 21 with (fail)
          have HX1 := Lib.hid (HX.out.mod hma (fun e => e))
          have HR1 := Lib.hid (HR.out.mod hma (fun e => e))
          have HY1 := Lib.hid (HY.out.new hma)
          have HT1 := Lib.hid (HT.out.new hma)
          clear HX HR HY HT
          have HX := HX1
          have HR := HR1
          have HY := HY1
          have HT := HT1
          clear HX1 HR1 HY1 HT1
          generalize wr.alloc (.cells #[.string nm, .int .i64 yk, .bool yf, .int .i64 yn, .string yw, .slice yla yln ylc, .slice yma ymn ymc] 54) = wm at *
          generalize wr.heap.size = mb at *
          clear hma HK c0 c1 c2 c3 c4 c5 hcn hgl
          have hfl := flip_any b _ 4 _ HT.out.inv (by omega) (by omega) (by omega)
          go_wp2_with fail
          refine hfl.mono ?_
          clear hfl
          rintro e w5 ⟨m5, rfl, h5⟩
          have hbtb := HT.out.inv.tb
          have HK1 := Lib.hid (HKI.out.mod (trM_ok (D + 2)) h5.only (fun g hg ht e => by
            subst e
            rcases ht with ht | ht
            · exact ht.ne hbtb (by decide) rfl
            · exact ht.ne hbtb (by decide) rfl) (fun g hg e => by have := hfar g hg; omega))
          have HM1 := Lib.hid (HMX.out.mod h5.only (by omega))
          have HTY1 := Lib.hid (HTYM.out.stream h5 hbtb)
          have HX1 := Lib.hid (HX.out.mod h5.only (by omega))
          have HR1 := Lib.hid (HR.out.mod h5.only (by omega))
          have HY1 := Lib.hid (HY.out.stream h5 HT.out.inv.tb)
          have HT1 := Lib.hid (HT.out.trans h5)
          clear HX HR HY HT
          have HX := HX1
          have HR := HR1
          have HY := HY1
          have HT := HT1
          clear HX1 HR1 HY1 HT1
          clear h5 HKI HMX HTYM hbtb
          cases m5 with
          | true =>
            go_wp2_with fail
            go_roundw
            case rel => exact ⟨j + 1, n, c, A, ms, ps, by omega, by go_num, rfl, by omega, HX, HR, HY, Lib.hid (HK1.out.imp (trM_ok (D + 2)) (fun g hg _ => hg.1)), Lib.hid (by rw [HWJ.out]; have := HS.out; omega), HB, Lib.hid (HT.out.more (by rw [HSJ.out]; omega))⟩
            case measure => simp [intOf]; omega
          | false =>
          have hfl := flip_any b _ 2 _ HT.out.inv (by omega) (by omega) (by omega)
          go_wp2_with fail
          refine hfl.mono ?_
          clear hfl
          rintro e w6 ⟨m6, rfl, h6⟩
          have hbtb := HT.out.inv.tb
          have HK6 := Lib.hid (HK1.out.mod (trM_ok (D + 2)) h6.only (fun g hg ht e => by
            subst e
            rcases ht with ht | ht
            · exact ht.ne hbtb (by decide) rfl
            · exact ht.ne hbtb (by decide) rfl) (fun g hg e => by have := hfar g hg; omega))
          have HM6 := Lib.hid (HM1.out.mod h6.only (by omega))
          have HTY6 := Lib.hid (HTY1.out.stream h6 hbtb)
          have HX1 := Lib.hid (HX.out.mod h6.only (by omega))
          have HR1 := Lib.hid (HR.out.mod h6.only (by omega))
          have HY1 := Lib.hid (HY.out.stream h6 HT.out.inv.tb)
          have HT1 := Lib.hid (HT.out.trans h6)
          clear HX HR HY HT
          have HX := HX1
          have HR := HR1
          have HY := HY1
          have HT := HT1
          clear HX1 HR1 HY1 HT1
          clear h6 HK1 HM1 HTY1 hbtb
          cases m6 with
          | false =>
            have HK := Lib.hid (HK6.out.imp (trM_ok (D + 2)) (G' := fun g => (G g ∧ g < xb) ∨ rb < g) (fun g hg _ => hg.1))
            obtain ⟨q1, q2, q3⟩ := HTY6.out.lift hwdj (show D ≤ D + 2 by omega)
            have HTU : Hid (Tree w6 (fun g => ((G g ∧ g < xb) ∨ rb < g) ∧ blkOf A ≠ some g) (D + 2) ⟨yk, yf, yn, yw, yla, yln, ylc, yma, ymn, ymc⟩ v.mem[j].2) := Lib.hid (Tree.imp (fun g hg _ => ⟨.inl hg, fun e => by have := hfar g e; have := hg.2; omega⟩) _ _ _ q1)
            have HUX : Hid (vW (D + 2) v.mem[j].2 ≤ 7000 * vW D v.mem[j].2 ∧ Wide (m + 1) (D + 2) v.mem[j].2) := Lib.hid ⟨by rw [q2]; omega, Wide.mono (by omega) _ _ q3⟩
            have HMB := HM6
            clear q1 q2 q3 HK6 HM6 HTY6
            have m7 : New w6 ((w6).alloc (.cells #[.string nm, .int .i64 yk, .bool yf, .int .i64 yn, .string yw, .slice yla yln ylc, .slice yma ymn ymc] 54)) := (Mod.refl _ _).alloc _
            have hk7 := HK.out.new (trM_ok (D + 2)) m7
            have hty7 := HTU.out.new m7
            have blk7 : Blk ((w6).alloc (.cells #[.string nm, .int .i64 yk, .bool yf, .int .i64 yn, .string yw, .slice yla yln ylc, .slice yma ymn ymc] 54)) (w6).heap.size 54 (encL 7 MA.enc ⟨nm, ⟨yk, yf, yn, yw, yla, yln, ylc, yma, ymn, ymc⟩⟩).toArray := Blk.new _ _ _
            have n0 := HMB.out.cell 0
            have n1 := HMB.out.cell 1
            have n2 := HMB.out.cell 2
            have n3 := HMB.out.cell 3
            have n4 := HMB.out.cell 4
            have n5 := HMB.out.cell 5
            have n6 := HMB.out.cell 6
            have nl := HMB.out.lt
            simp only [List.getElem?_toArray, List.getElem?_cons_zero, List.getElem?_cons_succ] at n0 n1 n2 n3 n4 n5 n6
            have HX1 := Lib.hid (HX.out.mod m7 (fun e => e))
            have HR1 := Lib.hid (HR.out.mod m7 (fun e => e))
            have HY1 := Lib.hid (HY.out.new m7)
            have HT1 := Lib.hid (HT.out.new m7)
            clear HX HR HY HT
            have HX := HX1
            have HR := HR1
            have HY := HY1
            have HT := HT1
            clear HX1 HR1 HY1 HT1
            have hzz : rb + 1 ≤ ((w6).alloc (.cells #[.string nm, .int .i64 yk, .bool yf, .int .i64 yn, .string yw, .slice yla yln ylc, .slice yma ymn ymc] 54)).heap.size := HR.out.lt
            go_upto_region 25 with (at_builtin; refine wpList_push rfl _ _ _ rfl 104 Tryz.underlying27 einfo_memM rfl hk7.own ⟨nm, ⟨yk, yf, yn, yw, yla, yln, ylc, yma, ymn, ymc⟩⟩ (w6).heap.size rfl blk7 (fun j hj => MA.one _ j hj) (by omega) (by omega) hzz ?_; intro g9 cap9 w9 own9 hm9 hat9 hlt9)
            have HK9 := Lib.hid (hk7.push (trM_ok (D + 2)) (y := (⟨nm, ⟨yk, yf, yn, yw, yla, yln, ylc, yma, ymn, ymc⟩⟩ : MA)) (u := (nm, v.mem[j].2)) ⟨rfl, hty7⟩ own9 hm9 hat9)
            have HX1 := Lib.hid (HX.out.mod hm9 (fun e => by have := (hk7.own.far' _ e).1; omega))
            have HR1 := Lib.hid (HR.out.mod hm9 (fun e => by have := (hk7.own.far' _ e).1; omega))
            have HY1 := Lib.hid (Tree.mod hm9 (fun g hg _ e => by have := (hk7.own.far' _ e).1; have := hg.2; omega) _ _ _ HY.out)
            have HT1 := Lib.hid (HT.out.mod hm9 (fun i e => by have := (hk7.own.far' _ e).1; omega))
            clear HX HR HY HT
            have HX := HX1
            have HR := HR1
            have HY := HY1
            have HT := HT1
            clear HX1 HR1 HY1 HT1
            clear hk7 hty7 own9 hm9 hat9 hlt9 HK HTU m7 blk7 n0 n1 n2 n3 n4 n5 n6 nl HMB
            go_wp2_with fail
            go_roundw
            case rel => exact ⟨j + 1, n + 1, cap9, some ⟨g9, 0, none⟩, _, ps ++ [(nm, v.mem[j].2)], by omega, by go_num, rfl, by omega, HX, HR, HY, HK9, Lib.hid (by
              have h1 := HS.out
              have h2 := HUX.out.1
              have h3 := HMWJ.out
              rw [HWJ.out]
              have h4 : mW (D + 2) (nm, v.mem[j].2) = vW (D + 2) v.mem[j].2 + (6 * nm.size + 4) := rfl
              simp only [List.map_append, List.sum_append, List.map_cons, List.map_nil, List.sum_cons, List.sum_nil, h4]
              omega), Lib.hid (fun z hz => by
              rcases List.mem_append.1 hz with hz | hz
              · exact HB.out z hz
              · simp only [List.mem_singleton] at hz; subst hz; exact ⟨hnz, HUX.out.2⟩), Lib.hid (HT.out.more (by rw [HSJ.out]; omega))⟩
            case measure => simp [intOf]; omega
          | true =>
            have hcall := HIH.out b _ w6 ⟨yk, yf, yn, yw, yla, yln, ylc, yma, ymn, ymc⟩ v.mem[j].2 (fun g => G g ∧ g < xb) m HT.out.inv (by omega) HTY6.out hwdj hm10 hm900
            have n1 := HM6.out.cell 1
            have n2 := HM6.out.cell 2
            have n3 := HM6.out.cell 3
            have n4 := HM6.out.cell 4
            have n5 := HM6.out.cell 5
            have n6 := HM6.out.cell 6
            have nl := HM6.out.lt
            simp only [List.getElem?_toArray, List.getElem?_cons_zero, List.getElem?_cons_succ] at n1 n2 n3 n4 n5 n6
            go_wp2_with fail
            refine hcall.mono ?_
            clear hcall
            rintro e w7 ⟨y2, u2, rfl, hty, hwu, hwdu, h7⟩
            have hbtb := HT.out.inv.tb
            have hs67 := h7.only.size
            have HK7 := Lib.hid (HK6.out.mod (trM_ok (D + 2)) h7.only (fun g hg ht e => by
              subst e
              rcases ht with ht | ht
              · exact ht.ne hbtb (by decide) rfl
              · exact ht.ne hbtb (by decide) rfl) (fun g hg e => by have := hfar g hg; omega))
            have HM7 := Lib.hid (HM6.out.mod h7.only (by omega))
            have HX1 := Lib.hid (HX.out.mod h7.only (by omega))
            have HR1 := Lib.hid (HR.out.mod h7.only (by omega))
            have HY1 := Lib.hid (HY.out.stream h7 HT.out.inv.tb)
            have HT1 := Lib.hid (HT.out.trans h7)
            clear HX HR HY HT
            have HX := HX1
            have HR := HR1
            have HY := HY1
            have HT := HT1
            clear HX1 HR1 HY1 HT1
            have HTU7 : Hid (Tree w7 (fun z => (((G z ∧ z < xb) ∨ rb < z) ∧ blkOf A ≠ some z) ∧ z ≠ mb) (D + 2) y2 u2) := Lib.hid (Tree.imp (fun g hg _ => by
              rcases hg with hg | hg
              · exact ⟨⟨.inl hg, fun e => by have := hfar g e; have := hg.2; omega⟩, by have := hg.2; omega⟩
              · exact ⟨⟨.inr (by omega), fun e => by have := hfar g e; omega⟩, by omega⟩) _ _ _ hty)
            have HUX : Hid (vW (D + 2) u2 ≤ 7000 * vW D v.mem[j].2 ∧ Wide (m + 1) (D + 2) u2) := Lib.hid ⟨hwu, hwdu⟩
            clear hty hwu hwdu h7 HK6 HM6 HTY6 hbtb n1 n2 n3 n4 n5 n6 nl
            obtain ⟨zk, zf, zn, zw, zla, zln, zlc, zma, zmn, zmc⟩ := y2
            have n1 := HM7.out.cell 1
            have n2 := HM7.out.cell 2
            have n3 := HM7.out.cell 3
            have n4 := HM7.out.cell 4
            have n5 := HM7.out.cell 5
            have n6 := HM7.out.cell 6
            have nf := HM7.out.frozen
            have nl := HM7.out.lt
            simp only [List.getElem?_toArray, List.getElem?_cons_zero, List.getElem?_cons_succ] at n1 n2 n3 n4 n5 n6
            go_upto_region 24 with (fail)
            have hmo : Only mb w7 ((((((w7.setCell ⟨mb, 1, none⟩ (.int .i64 zk)).setCell ⟨mb, 2, none⟩ (.bool zf)).setCell ⟨mb, 3, none⟩ (.int .i64 zn)).setCell ⟨mb, 4, none⟩ (.string zw)).setCell ⟨mb, 5, none⟩ (.slice zla zln zlc)).setCell ⟨mb, 6, none⟩ (.slice zma zmn zmc)) := (((((Only.set (Mod.refl _ _) 1 _).set 2 _).set 3 _).set 4 _).set 5 _).set 6 _
            have HMB := Lib.hid ((((((HM7.out.set 1 (.int .i64 zk)).set 2 (.bool zf)).set 3 (.int .i64 zn)).set 4 (.string zw)).set 5 (.slice zla zln zlc)).set 6 (.slice zma zmn zmc))
            simp only [Array.setIfInBounds, List.size_toArray, List.length_cons, List.length_nil, Nat.reduceAdd, Nat.reduceLT, ↓reduceDIte, List.set_toArray, List.set_cons_zero, List.set_cons_succ] at HMB
            have HX1 := Lib.hid (HX.out.mod hmo (by omega))
            have HR1 := Lib.hid (HR.out.mod hmo (by omega))
            have HY1 := Lib.hid (Tree.mod hmo (fun g hg _ e => by have := hg.2; omega) _ _ _ HY.out)
            have HT1 := Lib.hid (HT.out.mod hmo (fun i e => by omega))
            clear HX HR HY HT
            have HX := HX1
            have HR := HR1
            have HY := HY1
            have HT := HT1
            clear HX1 HR1 HY1 HT1
            have HK := Lib.hid ((HK7.out.mod (trM_ok (D + 2)) hmo (fun g hg _ e => by have := hg.2; omega) (fun g hg e => by have := hfar g hg; omega)).imp (trM_ok (D + 2)) (G' := fun g => (G g ∧ g < xb) ∨ rb < g) (fun g hg _ => hg.1))
            have HTU := Lib.hid (Tree.imp (G' := fun z => ((G z ∧ z < xb) ∨ rb < z) ∧ blkOf A ≠ some z) (fun g hg _ => hg.1) _ _ _ (Tree.mod hmo (fun g hg _ e => hg.2 e) _ _ _ HTU7.out))
            clear hmo HK7 HM7 HTU7 n1 n2 n3 n4 n5 n6 nf nl
            generalize ((((((w7.setCell ⟨mb, 1, none⟩ (.int .i64 zk)).setCell ⟨mb, 2, none⟩ (.bool zf)).setCell ⟨mb, 3, none⟩ (.int .i64 zn)).setCell ⟨mb, 4, none⟩ (.string zw)).setCell ⟨mb, 5, none⟩ (.slice zla zln zlc)).setCell ⟨mb, 6, none⟩ (.slice zma zmn zmc)) = w8 at *
            have m7 : New w8 ((w8).alloc (.cells #[.string nm, .int .i64 zk, .bool zf, .int .i64 zn, .string zw, .slice zla zln zlc, .slice zma zmn zmc] 54)) := (Mod.refl _ _).alloc _
            have hk7 := HK.out.new (trM_ok (D + 2)) m7
            have hty7 := HTU.out.new m7
            have blk7 : Blk ((w8).alloc (.cells #[.string nm, .int .i64 zk, .bool zf, .int .i64 zn, .string zw, .slice zla zln zlc, .slice zma zmn zmc] 54)) (w8).heap.size 54 (encL 7 MA.enc ⟨nm, ⟨zk, zf, zn, zw, zla, zln, zlc, zma, zmn, zmc⟩⟩).toArray := Blk.new _ _ _
            have n0 := HMB.out.cell 0
            have n1 := HMB.out.cell 1
            have n2 := HMB.out.cell 2
            have n3 := HMB.out.cell 3
            have n4 := HMB.out.cell 4
            have n5 := HMB.out.cell 5
            have n6 := HMB.out.cell 6
            have nl := HMB.out.lt
            simp only [List.getElem?_toArray, List.getElem?_cons_zero, List.getElem?_cons_succ] at n0 n1 n2 n3 n4 n5 n6
            have HX1 := Lib.hid (HX.out.mod m7 (fun e => e))
            have HR1 := Lib.hid (HR.out.mod m7 (fun e => e))
            have HY1 := Lib.hid (HY.out.new m7)
            have HT1 := Lib.hid (HT.out.new m7)
            clear HX HR HY HT
            have HX := HX1
            have HR := HR1
            have HY := HY1
            have HT := HT1
            clear HX1 HR1 HY1 HT1
            have hzz : rb + 1 ≤ ((w8).alloc (.cells #[.string nm, .int .i64 zk, .bool zf, .int .i64 zn, .string zw, .slice zla zln zlc, .slice zma zmn zmc] 54)).heap.size := HR.out.lt
            go_upto_region 25 with (at_builtin; refine wpList_push rfl _ _ _ rfl 104 Tryz.underlying27 einfo_memM rfl hk7.own ⟨nm, ⟨zk, zf, zn, zw, zla, zln, zlc, zma, zmn, zmc⟩⟩ (w8).heap.size rfl blk7 (fun j hj => MA.one _ j hj) (by omega) (by omega) hzz ?_; intro g9 cap9 w9 own9 hm9 hat9 hlt9)
            have HK9 := Lib.hid (hk7.push (trM_ok (D + 2)) (y := (⟨nm, ⟨zk, zf, zn, zw, zla, zln, zlc, zma, zmn, zmc⟩⟩ : MA)) (u := (nm, u2)) ⟨rfl, hty7⟩ own9 hm9 hat9)
            have HX1 := Lib.hid (HX.out.mod hm9 (fun e => by have := (hk7.own.far' _ e).1; omega))
            have HR1 := Lib.hid (HR.out.mod hm9 (fun e => by have := (hk7.own.far' _ e).1; omega))
            have HY1 := Lib.hid (Tree.mod hm9 (fun g hg _ e => by have := (hk7.own.far' _ e).1; have := hg.2; omega) _ _ _ HY.out)
            have HT1 := Lib.hid (HT.out.mod hm9 (fun i e => by have := (hk7.own.far' _ e).1; omega))
            clear HX HR HY HT
            have HX := HX1
            have HR := HR1
            have HY := HY1
            have HT := HT1
            clear HX1 HR1 HY1 HT1
            clear hk7 hty7 own9 hm9 hat9 hlt9 HK HTU m7 blk7 n0 n1 n2 n3 n4 n5 n6 nl HMB
            go_wp2_with fail
            go_roundw
            case rel => exact ⟨j + 1, n + 1, cap9, some ⟨g9, 0, none⟩, _, ps ++ [(nm, u2)], by omega, by go_num, rfl, by omega, HX, HR, HY, HK9, Lib.hid (by
              have h1 := HS.out
              have h2 := HUX.out.1
              have h3 := HMWJ.out
              rw [HWJ.out]
              have h4 : mW (D + 2) (nm, u2) = vW (D + 2) u2 + (6 * nm.size + 4) := rfl
              simp only [List.map_append, List.sum_append, List.map_cons, List.map_nil, List.sum_cons, List.sum_nil, h4]
              omega), Lib.hid (fun z hz => by
              rcases List.mem_append.1 hz with hz | hz
              · exact HB.out z hz
              · simp only [List.mem_singleton] at hz; subst hz; exact ⟨hnz, HUX.out.2⟩), Lib.hid (HT.out.more (by rw [HSJ.out]; omega))⟩
            case measure => simp [intOf]; omega
        · obtain rfl : j = xmn := by omega
          have hww := HWD.out
          obtain ⟨l1, l2, l3⟩ := HY.out.lift HWD.out (show D + 1 ≤ D + 3 by omega)
          have HLV := Lib.hid l2
          have HWL := Lib.hid l3
          have HXW : Hid (v.words = xw) := Lib.hid (Tree.fields HY.out).2.2.2.1
          have hul : ps.length = n := HK.out.len
          have hE1 : v.mem.map (mW (D + 2)) = v.mem.map (mW D) := List.map_congr_left (fun y hy => by
            obtain ⟨i, hi, rfl⟩ := List.mem_iff_getElem.1 hy
            obtain ⟨_, _, y', _, _, _, _, _, _, ht⟩ := HY.out.member hi
            obtain ⟨-, q2, -⟩ := ht.lift (hww.2.2.2.2 _ hy).2 (show D ≤ D + 2 by omega)
            unfold mW
            rw [q2])
          have HE1 : Hid ((v.mem.map (mW (D + 2))).sum = (v.mem.map (mW D)).sum) := Lib.hid (by rw [hE1])
          have hsu := HS.out
          rw [List.take_of_length_le (by have := HMN.out; omega)] at hsu
          have HSU0 := Lib.hid hsu
          have HUL := Lib.hid hul
          generalize ((v.mem.take j).map fun p => 2 + 1000 * vW D p.2).sum = sj at *
          have hrk1 : rvK 1 ≤ 100 := by decide
          have hrw1 : rvW 1 ≤ 880 := by decide
          clear hww l1 l2 l3 hE1 hsu hul HS
          rcases Nat.eq_zero_or_pos n with hn0 | hn0
          · have hnb : ((n : Int) == 0) = true := by simp; omega
            clear hn0
            have hrv := stream_rv 1 (by omega) b _ wr HT.out.inv (by omega)
            go_wp2_with fail
            refine hrv.mono ?_
            clear hrv
            rintro e w8 ⟨y, u, rfl, hty, hwu, hwdu, h8⟩
            have hbtb := HT.out.inv.tb
            have hrl5 : rb < (wr).heap.size := HR.out.lt
            have hfar : ∀ g, blkOf A = some g → g < (wr).heap.size := fun g hg => (HK.out.own.far' g hg).2.1
            have HK6 := Lib.hid (HK.out.mod (trM_ok (D + 2)) h8.only (fun g hg ht e => by
              subst e
              rcases ht with ht | ht
              · exact ht.ne hbtb (by decide) rfl
              · exact ht.ne hbtb (by decide) rfl) (fun g hg e => by have := (HK.out.own.far' g hg).1; omega))
            obtain ⟨q1, q2, q3⟩ := hty.lift hwdu (show 2 ≤ D + 2 by omega)
            have HTU : Hid (Tree w8 (fun g => ((G g ∧ g < xb) ∨ rb < g) ∧ blkOf A ≠ some g) (D + 2) y u) := Lib.hid (Tree.imp (fun g (hg : (wr).heap.size ≤ g) _ => ⟨.inr (by omega), fun e => by have := hfar g e; omega⟩) _ _ _ q1)
            have HX1 := Lib.hid (HX.out.mod h8.only (by omega))
            have HR1 := Lib.hid (HR.out.mod h8.only (by omega))
            have HY1 := Lib.hid (HY.out.stream h8 HT.out.inv.tb)
            have HT1 := Lib.hid (HT.out.trans h8)
            clear HX HR HY HT
            have HX := HX1
            have HR := HR1
            have HY := HY1
            have HT := HT1
            clear HX1 HR1 HY1 HT1
            have HUX : Hid (vW (D + 2) u ≤ 880 ∧ Wide (m + 1) (D + 2) u) := Lib.hid ⟨by rw [q2]; omega, Wide.mono (by omega) _ _ q3⟩
            clear hty hwu hwdu h8 hbtb hfar HK q1 q2 q3
            obtain ⟨yk, yf, yn, yw, yla, yln, ylc, yma, ymn, ymc⟩ := y
            have m7 : New w8 (w8.alloc (.cells #[.string ⟨#[122]⟩, .int .i64 yk, .bool yf, .int .i64 yn, .string yw, .slice yla yln ylc, .slice yma ymn ymc] 54)) := (Mod.refl _ _).alloc _
            have hk7 := HK6.out.new (trM_ok (D + 2)) m7
            have hty7 := HTU.out.new m7
            have blk7 : Blk (w8.alloc (.cells #[.string ⟨#[122]⟩, .int .i64 yk, .bool yf, .int .i64 yn, .string yw, .slice yla yln ylc, .slice yma ymn ymc] 54)) w8.heap.size 54 (encL 7 MA.enc ⟨⟨#[122]⟩, ⟨yk, yf, yn, yw, yla, yln, ylc, yma, ymn, ymc⟩⟩).toArray := Blk.new _ _ _
            have HX1 := Lib.hid (HX.out.mod m7 (fun e => e))
            have HR1 := Lib.hid (HR.out.mod m7 (fun e => e))
            have HY1 := Lib.hid (HY.out.new m7)
            have HT1 := Lib.hid (HT.out.new m7)
            clear HX HR HY HT
            have HX := HX1
            have HR := HR1
            have HY := HY1
            have HT := HT1
            clear HX1 HR1 HY1 HT1
            have hzz : rb + 1 ≤ (w8.alloc (.cells #[.string ⟨#[122]⟩, .int .i64 yk, .bool yf, .int .i64 yn, .string yw, .slice yla yln ylc, .slice yma ymn ymc] 54)).heap.size := HR.out.lt
            go_upto_region 28 with (at_builtin; refine wpList_push rfl _ _ _ rfl 104 Tryz.underlying27 einfo_memM rfl hk7.own ⟨⟨#[122]⟩, ⟨yk, yf, yn, yw, yla, yln, ylc, yma, ymn, ymc⟩⟩ w8.heap.size rfl blk7 (fun j hj => MA.one _ j hj) (by omega) (by omega) hzz ?_; intro g9 cap9 w9 own9 hm9 hat9 hlt9)
            have HK9 := Lib.hid (hk7.push (trM_ok (D + 2)) (y := (⟨⟨#[122]⟩, ⟨yk, yf, yn, yw, yla, yln, ylc, yma, ymn, ymc⟩⟩ : MA)) (u := ((⟨#[122]⟩ : ByteArray), u)) ⟨rfl, hty7⟩ own9 hm9 hat9)
            have HX1 := Lib.hid (HX.out.mod hm9 (fun e => by have := (hk7.own.far' _ e).1; omega))
            have HR1 := Lib.hid (HR.out.mod hm9 (fun e => by have := (hk7.own.far' _ e).1; omega))
            have HY1 := Lib.hid (Tree.mod hm9 (fun g hg _ e => by have := (hk7.own.far' _ e).1; have := hg.2; omega) _ _ _ HY.out)
            have HT1 := Lib.hid (HT.out.mod hm9 (fun i e => by have := (hk7.own.far' _ e).1; omega))
            clear HX HR HY HT
            have HX := HX1
            have HR := HR1
            have HY := HY1
            have HT := HT1
            clear HX1 HR1 HY1 HT1
            have HK := HK9
            have HSU : Hid (((ps ++ [((⟨#[122]⟩ : ByteArray), u)]).map (mW (D + 2))).sum ≤ 7000 * (v.mem.map (mW D)).sum + 900) := Lib.hid (by
              have h1 := HSU0.out
              have h2 := HUX.out.1
              have h3 : mW (D + 2) ((⟨#[122]⟩ : ByteArray), u) = vW (D + 2) u + (6 * 1 + 4) := rfl
              simp only [List.map_append, List.sum_append, List.map_cons, List.map_nil, List.sum_cons, List.sum_nil, h3]
              omega)
            have HUW : Hid (∀ p ∈ ps ++ [((⟨#[122]⟩ : ByteArray), u)], p.1.size ≤ 100000 ∧ Wide (m + 1) (D + 2) p.2) := Lib.hid (fun z hz => by
              rcases List.mem_append.1 hz with hz | hz
              · exact HB.out z hz
              · simp only [List.mem_singleton] at hz; subst hz; exact ⟨by show (⟨#[122]⟩ : ByteArray).size ≤ 100000; decide, HUX.out.2⟩)
            have HLU : Hid ((ps ++ [((⟨#[122]⟩ : ByteArray), u)]).length ≤ j + 1) := Lib.hid (by rw [List.length_append, HUL.out]; simp; omega)
            clear hk7 hty7 own9 hm9 hat9 hlt9 HK9 HK6 HTU m7 blk7
            have hxx := HX.out
            have e0 := hxx.cell 0
            have e1 := hxx.cell 1
            have e2 := hxx.cell 2
            have e3 := hxx.cell 3
            have e4 := hxx.cell 4
            have e5 := hxx.cell 5
            have el := hxx.lt
            have ef := hxx.frozen
            simp only [List.getElem?_toArray, List.getElem?_cons_zero, List.getElem?_cons_succ] at e0 e1 e2 e3 e4 e5
            clear hxx
            go_upto_region 29 with (fail)
            have hmo : Only xb w9 ((w9).setCell ⟨xb, 5, none⟩ (.slice (some ⟨g9, 0, none⟩) (n + 1) cap9)) := Only.set (Mod.refl _ _) 5 _
            have HX8 := Lib.hid (HX.out.set 5 (.slice (some ⟨g9, 0, none⟩) (n + 1) cap9))
            simp only [Array.setIfInBounds, List.size_toArray, List.length_cons, List.length_nil, Nat.reduceAdd, Nat.reduceLT, ↓reduceDIte, List.set_toArray, List.set_cons_zero, List.set_cons_succ] at HX8
            have HR8 := Lib.hid (HR.out.mod hmo (by omega))
            have HT8 := Lib.hid (HT.out.set (p := ⟨xb, 5, none⟩) (by simp only; omega) (.slice (some ⟨g9, 0, none⟩) (n + 1) cap9))
            have hk8 := HK.out.mod (trM_ok (D + 2)) hmo (fun g hg _ e => by rcases hg with h | h <;> omega) (fun g hg e => by have := (HK.out.own.far' g hg).1; omega)
            have hy8 := Tree.mod hmo (fun g hg _ e => by have := hg.2; omega) _ _ _ HY.out
            have HTY := Lib.hid (Tree.set_mem (d := D + 2) (Tree.imp (G' := fun g => (G g ∧ g < xb) ∨ rb < g) (fun g hg _ => .inl hg) _ _ _ (hy8.upto (show D + 1 ≤ D + 2 + 1 by omega))) hk8 (fun g hg _ => hg) (fun g hg => .inr (by omega)))
            clear hmo hk8 hy8 HX HR HY HT HK e0 e1 e2 e3 e4 e5 el ef
            generalize (w9).setCell ⟨xb, 5, none⟩ (.slice (some ⟨g9, 0, none⟩) (n + 1) cap9) = w8 at *
            have HX := HX8
            have HR := HR8
            have HT := HT8
            clear HX8 HR8 HT8
            have hxx := HX.out
            have e0 := hxx.cell 0
            have e1 := hxx.cell 1
            have e2 := hxx.cell 2
            have e3 := hxx.cell 3
            have e4 := hxx.cell 4
            have e5 := hxx.cell 5
            have el := hxx.lt
            have ef := hxx.frozen
            simp only [List.getElem?_toArray, List.getElem?_cons_zero, List.getElem?_cons_succ] at e0 e1 e2 e3 e4 e5
            clear hxx
            have rl := HR.out.lt
            have rf := HR.out.frozen
            have r0 := HR.out.cell 0
            have r1 := HR.out.cell 1
            have r2 := HR.out.cell 2
            have r3 := HR.out.cell 3
            have r4 := HR.out.cell 4
            have r5 := HR.out.cell 5
            have hne : rb ≠ xb := by omega
            simp only [List.getElem?_toArray, List.getElem?_cons_zero, List.getElem?_cons_succ] at r0 r1 r2 r3 r4 r5
            go_wp2_with fail
            refine bodyPost_ret (v := VA.val ⟨5, xf, xn, xw, xla, xln, xlc, (some ⟨g9, 0, none⟩), (n + 1), cap9⟩) (by simp [results, Tryz.results6, go_sem, r0, r1, r2, r3, r4, r5, rf, hne]) rfl ⟨⟨5, xf, xn, xw, xla, xln, xlc, (some ⟨g9, 0, none⟩), (n + 1), cap9⟩, .mk 5 xf xn xw v.list (ps ++ [((⟨#[122]⟩ : ByteArray), u)]), rfl, ?_, ?_, ?_, ?_⟩
            · refine Tree.imp (G := fun g => (G g ∧ g < xb) ∨ rb < g) (fun g hg _ => by rcases hg with h | h; exact .inl h.1; exact .inr (by omega)) _ _ _ (Tree.mod (S := fun g => g = rb) ?_ (fun g hg _ e => by rcases hg with h | h <;> omega) _ _ _ HTY.out)
              repeat (with_reducible (first | exact Mod.refl _ _ | refine Only.set ?_ _ _))
            · have := near_mem_w (ps := (ps ++ [((⟨#[122]⟩ : ByteArray), u)])) 5 xf xn HLV.out HE1.out HSU.out
              rw [HXW.out] at this
              exact this
            · have := near_mem_wide (ps := (ps ++ [((⟨#[122]⟩ : ByteArray), u)])) 5 xf xn HWL.out (by have := HLU.out; omega) HUW.out
              rw [HXW.out] at this
              exact this
            · repeat (with_reducible (first | exact HT.out.more (by omega) | (refine SStep.set ?_ ?_ _; rotate_left; (simp <;> omega))))
          · have hnb : ((n : Int) == 0) = false := by simp; omega
            obtain ⟨gA, hA, hBg, htbA, hcc1, hcc2⟩ := HK.out.own.form hn0
            subst hA
            have hml := HK.out.own.1
            have hcl : wr.cell? ⟨gA, (n - 1) * 7, none⟩ = some (.string (ms[n - 1]'(by omega)).name) := by
              obtain ⟨g', o', hA', _, hc⟩ := HK.out.own.sl.2 hn0
              injection hA' with hA'
              injection hA' with h1 h2
              subst h1 h2
              have := hc (n - 1) (by omega) 0 (by omega)
              rw [Nat.zero_add, Nat.add_zero] at this
              exact this
            generalize (ms[n - 1]'(by omega)).name = nm at *
            have hgl := htbA.lt
            have hb1 : (0 : Int) ≤ (n : Int) - 1 := by omega
            have hb2 : (n : Int) - 1 < n := by omega
            obtain ⟨B, hB⟩ : ∃ B, Op.bytesLess nm.toList [122] = B := ⟨_, rfl⟩
            cases B with
            | false =>
              have HUW := HB
              have HSU : Hid ((ps.map (mW (D + 2))).sum ≤ 7000 * (v.mem.map (mW D)).sum + 900) := Lib.hid (by have h1 := HSU0.out; omega)
              have HLU : Hid (ps.length ≤ j + 1) := Lib.hid (by have := HUL.out; omega)
              go_upto_region 28 with (fail)
              have hxx := HX.out
              have e0 := hxx.cell 0
              have e1 := hxx.cell 1
              have e2 := hxx.cell 2
              have e3 := hxx.cell 3
              have e4 := hxx.cell 4
              have e5 := hxx.cell 5
              have el := hxx.lt
              have ef := hxx.frozen
              simp only [List.getElem?_toArray, List.getElem?_cons_zero, List.getElem?_cons_succ] at e0 e1 e2 e3 e4 e5
              clear hxx
              go_upto_region 29 with (fail)
              have hmo : Only xb wr ((wr).setCell ⟨xb, 5, none⟩ (.slice (some ⟨gA, 0, none⟩) n c)) := Only.set (Mod.refl _ _) 5 _
              have HX8 := Lib.hid (HX.out.set 5 (.slice (some ⟨gA, 0, none⟩) n c))
              simp only [Array.setIfInBounds, List.size_toArray, List.length_cons, List.length_nil, Nat.reduceAdd, Nat.reduceLT, ↓reduceDIte, List.set_toArray, List.set_cons_zero, List.set_cons_succ] at HX8
              have HR8 := Lib.hid (HR.out.mod hmo (by omega))
              have HT8 := Lib.hid (HT.out.set (p := ⟨xb, 5, none⟩) (by simp only; omega) (.slice (some ⟨gA, 0, none⟩) n c))
              have hk8 := HK.out.mod (trM_ok (D + 2)) hmo (fun g hg _ e => by rcases hg with h | h <;> omega) (fun g hg e => by have := (HK.out.own.far' g hg).1; omega)
              have hy8 := Tree.mod hmo (fun g hg _ e => by have := hg.2; omega) _ _ _ HY.out
              have HTY := Lib.hid (Tree.set_mem (d := D + 2) (Tree.imp (G' := fun g => (G g ∧ g < xb) ∨ rb < g) (fun g hg _ => .inl hg) _ _ _ (hy8.upto (show D + 1 ≤ D + 2 + 1 by omega))) hk8 (fun g hg _ => hg) (fun g hg => .inr (by omega)))
              clear hmo hk8 hy8 HX HR HY HT HK e0 e1 e2 e3 e4 e5 el ef
              generalize (wr).setCell ⟨xb, 5, none⟩ (.slice (some ⟨gA, 0, none⟩) n c) = w8 at *
              have HX := HX8
              have HR := HR8
              have HT := HT8
              clear HX8 HR8 HT8
              have hxx := HX.out
              have e0 := hxx.cell 0
              have e1 := hxx.cell 1
              have e2 := hxx.cell 2
              have e3 := hxx.cell 3
              have e4 := hxx.cell 4
              have e5 := hxx.cell 5
              have el := hxx.lt
              have ef := hxx.frozen
              simp only [List.getElem?_toArray, List.getElem?_cons_zero, List.getElem?_cons_succ] at e0 e1 e2 e3 e4 e5
              clear hxx
              have rl := HR.out.lt
              have rf := HR.out.frozen
              have r0 := HR.out.cell 0
              have r1 := HR.out.cell 1
              have r2 := HR.out.cell 2
              have r3 := HR.out.cell 3
              have r4 := HR.out.cell 4
              have r5 := HR.out.cell 5
              have hne : rb ≠ xb := by omega
              simp only [List.getElem?_toArray, List.getElem?_cons_zero, List.getElem?_cons_succ] at r0 r1 r2 r3 r4 r5
              go_wp2_with fail
              refine bodyPost_ret (v := VA.val ⟨5, xf, xn, xw, xla, xln, xlc, (some ⟨gA, 0, none⟩), n, c⟩) (by simp [results, Tryz.results6, go_sem, r0, r1, r2, r3, r4, r5, rf, hne]) rfl ⟨⟨5, xf, xn, xw, xla, xln, xlc, (some ⟨gA, 0, none⟩), n, c⟩, .mk 5 xf xn xw v.list ps, rfl, ?_, ?_, ?_, ?_⟩
              · refine Tree.imp (G := fun g => (G g ∧ g < xb) ∨ rb < g) (fun g hg _ => by rcases hg with h | h; exact .inl h.1; exact .inr (by omega)) _ _ _ (Tree.mod (S := fun g => g = rb) ?_ (fun g hg _ e => by rcases hg with h | h <;> omega) _ _ _ HTY.out)
                repeat (with_reducible (first | exact Mod.refl _ _ | refine Only.set ?_ _ _))
              · have := near_mem_w (ps := ps) 5 xf xn HLV.out HE1.out HSU.out
                rw [HXW.out] at this
                exact this
              · have := near_mem_wide (ps := ps) 5 xf xn HWL.out (by have := HLU.out; omega) HUW.out
                rw [HXW.out] at this
                exact this
              · repeat (with_reducible (first | exact HT.out.more (by omega) | (refine SStep.set ?_ ?_ _; rotate_left; (simp <;> omega))))
            | true =>
              have hfl := flip_any b _ 3 _ HT.out.inv (by omega) (by omega) (by omega)
              go_wp2_with fail
              refine hfl.mono ?_
              clear hfl
              rintro e w5 ⟨m5, rfl, h5⟩
              have hbtb := HT.out.inv.tb
              have HK1 := Lib.hid (HK.out.mod (trM_ok (D + 2)) h5.only (fun g hg ht e => by
                subst e
                rcases ht with ht | ht
                · exact ht.ne hbtb (by decide) rfl
                · exact ht.ne hbtb (by decide) rfl) (fun g hg e => by have := (HK.out.own.far' g hg).1; omega))
              have HX1 := Lib.hid (HX.out.mod h5.only (by omega))
              have HR1 := Lib.hid (HR.out.mod h5.only (by omega))
              have HY1 := Lib.hid (HY.out.stream h5 HT.out.inv.tb)
              have HT1 := Lib.hid (HT.out.trans h5)
              clear HX HR HY HT
              have HX := HX1
              have HR := HR1
              have HY := HY1
              have HT := HT1
              clear HX1 HR1 HY1 HT1
              clear h5 HK hbtb hcl hgl
              have HK := HK1
              clear HK1
              cases m5 with
              | false =>
                have HUW := HB
                have HSU : Hid ((ps.map (mW (D + 2))).sum ≤ 7000 * (v.mem.map (mW D)).sum + 900) := Lib.hid (by have h1 := HSU0.out; omega)
                have HLU : Hid (ps.length ≤ j + 1) := Lib.hid (by have := HUL.out; omega)
                go_upto_region 28 with (fail)
                have hxx := HX.out
                have e0 := hxx.cell 0
                have e1 := hxx.cell 1
                have e2 := hxx.cell 2
                have e3 := hxx.cell 3
                have e4 := hxx.cell 4
                have e5 := hxx.cell 5
                have el := hxx.lt
                have ef := hxx.frozen
                simp only [List.getElem?_toArray, List.getElem?_cons_zero, List.getElem?_cons_succ] at e0 e1 e2 e3 e4 e5
                clear hxx
                go_upto_region 29 with (fail)
                have hmo : Only xb w5 ((w5).setCell ⟨xb, 5, none⟩ (.slice (some ⟨gA, 0, none⟩) n c)) := Only.set (Mod.refl _ _) 5 _
                have HX8 := Lib.hid (HX.out.set 5 (.slice (some ⟨gA, 0, none⟩) n c))
                simp only [Array.setIfInBounds, List.size_toArray, List.length_cons, List.length_nil, Nat.reduceAdd, Nat.reduceLT, ↓reduceDIte, List.set_toArray, List.set_cons_zero, List.set_cons_succ] at HX8
                have HR8 := Lib.hid (HR.out.mod hmo (by omega))
                have HT8 := Lib.hid (HT.out.set (p := ⟨xb, 5, none⟩) (by simp only; omega) (.slice (some ⟨gA, 0, none⟩) n c))
                have hk8 := HK.out.mod (trM_ok (D + 2)) hmo (fun g hg _ e => by rcases hg with h | h <;> omega) (fun g hg e => by have := (HK.out.own.far' g hg).1; omega)
                have hy8 := Tree.mod hmo (fun g hg _ e => by have := hg.2; omega) _ _ _ HY.out
                have HTY := Lib.hid (Tree.set_mem (d := D + 2) (Tree.imp (G' := fun g => (G g ∧ g < xb) ∨ rb < g) (fun g hg _ => .inl hg) _ _ _ (hy8.upto (show D + 1 ≤ D + 2 + 1 by omega))) hk8 (fun g hg _ => hg) (fun g hg => .inr (by omega)))
                clear hmo hk8 hy8 HX HR HY HT HK e0 e1 e2 e3 e4 e5 el ef
                generalize (w5).setCell ⟨xb, 5, none⟩ (.slice (some ⟨gA, 0, none⟩) n c) = w8 at *
                have HX := HX8
                have HR := HR8
                have HT := HT8
                clear HX8 HR8 HT8
                have hxx := HX.out
                have e0 := hxx.cell 0
                have e1 := hxx.cell 1
                have e2 := hxx.cell 2
                have e3 := hxx.cell 3
                have e4 := hxx.cell 4
                have e5 := hxx.cell 5
                have el := hxx.lt
                have ef := hxx.frozen
                simp only [List.getElem?_toArray, List.getElem?_cons_zero, List.getElem?_cons_succ] at e0 e1 e2 e3 e4 e5
                clear hxx
                have rl := HR.out.lt
                have rf := HR.out.frozen
                have r0 := HR.out.cell 0
                have r1 := HR.out.cell 1
                have r2 := HR.out.cell 2
                have r3 := HR.out.cell 3
                have r4 := HR.out.cell 4
                have r5 := HR.out.cell 5
                have hne : rb ≠ xb := by omega
                simp only [List.getElem?_toArray, List.getElem?_cons_zero, List.getElem?_cons_succ] at r0 r1 r2 r3 r4 r5
                go_wp2_with fail
                refine bodyPost_ret (v := VA.val ⟨5, xf, xn, xw, xla, xln, xlc, (some ⟨gA, 0, none⟩), n, c⟩) (by simp [results, Tryz.results6, go_sem, r0, r1, r2, r3, r4, r5, rf, hne]) rfl ⟨⟨5, xf, xn, xw, xla, xln, xlc, (some ⟨gA, 0, none⟩), n, c⟩, .mk 5 xf xn xw v.list ps, rfl, ?_, ?_, ?_, ?_⟩
                · refine Tree.imp (G := fun g => (G g ∧ g < xb) ∨ rb < g) (fun g hg _ => by rcases hg with h | h; exact .inl h.1; exact .inr (by omega)) _ _ _ (Tree.mod (S := fun g => g = rb) ?_ (fun g hg _ e => by rcases hg with h | h <;> omega) _ _ _ HTY.out)
                  repeat (with_reducible (first | exact Mod.refl _ _ | refine Only.set ?_ _ _))
                · have := near_mem_w (ps := ps) 5 xf xn HLV.out HE1.out HSU.out
                  rw [HXW.out] at this
                  exact this
                · have := near_mem_wide (ps := ps) 5 xf xn HWL.out (by have := HLU.out; omega) HUW.out
                  rw [HXW.out] at this
                  exact this
                · repeat (with_reducible (first | exact HT.out.more (by omega) | (refine SStep.set ?_ ?_ _; rotate_left; (simp <;> omega))))
              | true =>
                generalize hAA : (some (⟨gA, 0, none⟩ : Addr)) = A at *
                have hrv := stream_rv 1 (by omega) b _ w5 HT.out.inv (by omega)
                go_wp2_with fail
                refine hrv.mono ?_
                clear hrv
                rintro e w8 ⟨y, u, rfl, hty, hwu, hwdu, h8⟩
                have hbtb := HT.out.inv.tb
                have hrl5 : rb < (w5).heap.size := HR.out.lt
                have hfar : ∀ g, blkOf A = some g → g < (w5).heap.size := fun g hg => (HK.out.own.far' g hg).2.1
                have HK6 := Lib.hid (HK.out.mod (trM_ok (D + 2)) h8.only (fun g hg ht e => by
                  subst e
                  rcases ht with ht | ht
                  · exact ht.ne hbtb (by decide) rfl
                  · exact ht.ne hbtb (by decide) rfl) (fun g hg e => by have := (HK.out.own.far' g hg).1; omega))
                obtain ⟨q1, q2, q3⟩ := hty.lift hwdu (show 2 ≤ D + 2 by omega)
                have HTU : Hid (Tree w8 (fun g => ((G g ∧ g < xb) ∨ rb < g) ∧ blkOf A ≠ some g) (D + 2) y u) := Lib.hid (Tree.imp (fun g (hg : (w5).heap.size ≤ g) _ => ⟨.inr (by omega), fun e => by have := hfar g e; omega⟩) _ _ _ q1)
                have HX1 := Lib.hid (HX.out.mod h8.only (by omega))
                have HR1 := Lib.hid (HR.out.mod h8.only (by omega))
                have HY1 := Lib.hid (HY.out.stream h8 HT.out.inv.tb)
                have HT1 := Lib.hid (HT.out.trans h8)
                clear HX HR HY HT
                have HX := HX1
                have HR := HR1
                have HY := HY1
                have HT := HT1
                clear HX1 HR1 HY1 HT1
                have HUX : Hid (vW (D + 2) u ≤ 880 ∧ Wide (m + 1) (D + 2) u) := Lib.hid ⟨by rw [q2]; omega, Wide.mono (by omega) _ _ q3⟩
                clear hty hwu hwdu h8 hbtb hfar HK q1 q2 q3
                obtain ⟨yk, yf, yn, yw, yla, yln, ylc, yma, ymn, ymc⟩ := y
                have m7 : New w8 (w8.alloc (.cells #[.string ⟨#[122]⟩, .int .i64 yk, .bool yf, .int .i64 yn, .string yw, .slice yla yln ylc, .slice yma ymn ymc] 54)) := (Mod.refl _ _).alloc _
                have hk7 := HK6.out.new (trM_ok (D + 2)) m7
                have hty7 := HTU.out.new m7
                have blk7 : Blk (w8.alloc (.cells #[.string ⟨#[122]⟩, .int .i64 yk, .bool yf, .int .i64 yn, .string yw, .slice yla yln ylc, .slice yma ymn ymc] 54)) w8.heap.size 54 (encL 7 MA.enc ⟨⟨#[122]⟩, ⟨yk, yf, yn, yw, yla, yln, ylc, yma, ymn, ymc⟩⟩).toArray := Blk.new _ _ _
                have HX1 := Lib.hid (HX.out.mod m7 (fun e => e))
                have HR1 := Lib.hid (HR.out.mod m7 (fun e => e))
                have HY1 := Lib.hid (HY.out.new m7)
                have HT1 := Lib.hid (HT.out.new m7)
                clear HX HR HY HT
                have HX := HX1
                have HR := HR1
                have HY := HY1
                have HT := HT1
                clear HX1 HR1 HY1 HT1
                have hzz : rb + 1 ≤ (w8.alloc (.cells #[.string ⟨#[122]⟩, .int .i64 yk, .bool yf, .int .i64 yn, .string yw, .slice yla yln ylc, .slice yma ymn ymc] 54)).heap.size := HR.out.lt
                go_upto_region 28 with (at_builtin; refine wpList_push rfl _ _ _ rfl 104 Tryz.underlying27 einfo_memM rfl hk7.own ⟨⟨#[122]⟩, ⟨yk, yf, yn, yw, yla, yln, ylc, yma, ymn, ymc⟩⟩ w8.heap.size rfl blk7 (fun j hj => MA.one _ j hj) (by omega) (by omega) hzz ?_; intro g9 cap9 w9 own9 hm9 hat9 hlt9)
                have HK9 := Lib.hid (hk7.push (trM_ok (D + 2)) (y := (⟨⟨#[122]⟩, ⟨yk, yf, yn, yw, yla, yln, ylc, yma, ymn, ymc⟩⟩ : MA)) (u := ((⟨#[122]⟩ : ByteArray), u)) ⟨rfl, hty7⟩ own9 hm9 hat9)
                have HX1 := Lib.hid (HX.out.mod hm9 (fun e => by have := (hk7.own.far' _ e).1; omega))
                have HR1 := Lib.hid (HR.out.mod hm9 (fun e => by have := (hk7.own.far' _ e).1; omega))
                have HY1 := Lib.hid (Tree.mod hm9 (fun g hg _ e => by have := (hk7.own.far' _ e).1; have := hg.2; omega) _ _ _ HY.out)
                have HT1 := Lib.hid (HT.out.mod hm9 (fun i e => by have := (hk7.own.far' _ e).1; omega))
                clear HX HR HY HT
                have HX := HX1
                have HR := HR1
                have HY := HY1
                have HT := HT1
                clear HX1 HR1 HY1 HT1
                have HK := HK9
                have HSU : Hid (((ps ++ [((⟨#[122]⟩ : ByteArray), u)]).map (mW (D + 2))).sum ≤ 7000 * (v.mem.map (mW D)).sum + 900) := Lib.hid (by
                  have h1 := HSU0.out
                  have h2 := HUX.out.1
                  have h3 : mW (D + 2) ((⟨#[122]⟩ : ByteArray), u) = vW (D + 2) u + (6 * 1 + 4) := rfl
                  simp only [List.map_append, List.sum_append, List.map_cons, List.map_nil, List.sum_cons, List.sum_nil, h3]
                  omega)
                have HUW : Hid (∀ p ∈ ps ++ [((⟨#[122]⟩ : ByteArray), u)], p.1.size ≤ 100000 ∧ Wide (m + 1) (D + 2) p.2) := Lib.hid (fun z hz => by
                  rcases List.mem_append.1 hz with hz | hz
                  · exact HB.out z hz
                  · simp only [List.mem_singleton] at hz; subst hz; exact ⟨by show (⟨#[122]⟩ : ByteArray).size ≤ 100000; decide, HUX.out.2⟩)
                have HLU : Hid ((ps ++ [((⟨#[122]⟩ : ByteArray), u)]).length ≤ j + 1) := Lib.hid (by rw [List.length_append, HUL.out]; simp; omega)
                clear hk7 hty7 own9 hm9 hat9 hlt9 HK9 HK6 HTU m7 blk7
                have hxx := HX.out
                have e0 := hxx.cell 0
                have e1 := hxx.cell 1
                have e2 := hxx.cell 2
                have e3 := hxx.cell 3
                have e4 := hxx.cell 4
                have e5 := hxx.cell 5
                have el := hxx.lt
                have ef := hxx.frozen
                simp only [List.getElem?_toArray, List.getElem?_cons_zero, List.getElem?_cons_succ] at e0 e1 e2 e3 e4 e5
                clear hxx
                go_upto_region 29 with (fail)
                have hmo : Only xb w9 ((w9).setCell ⟨xb, 5, none⟩ (.slice (some ⟨g9, 0, none⟩) (n + 1) cap9)) := Only.set (Mod.refl _ _) 5 _
                have HX8 := Lib.hid (HX.out.set 5 (.slice (some ⟨g9, 0, none⟩) (n + 1) cap9))
                simp only [Array.setIfInBounds, List.size_toArray, List.length_cons, List.length_nil, Nat.reduceAdd, Nat.reduceLT, ↓reduceDIte, List.set_toArray, List.set_cons_zero, List.set_cons_succ] at HX8
                have HR8 := Lib.hid (HR.out.mod hmo (by omega))
                have HT8 := Lib.hid (HT.out.set (p := ⟨xb, 5, none⟩) (by simp only; omega) (.slice (some ⟨g9, 0, none⟩) (n + 1) cap9))
                have hk8 := HK.out.mod (trM_ok (D + 2)) hmo (fun g hg _ e => by rcases hg with h | h <;> omega) (fun g hg e => by have := (HK.out.own.far' g hg).1; omega)
                have hy8 := Tree.mod hmo (fun g hg _ e => by have := hg.2; omega) _ _ _ HY.out
                have HTY := Lib.hid (Tree.set_mem (d := D + 2) (Tree.imp (G' := fun g => (G g ∧ g < xb) ∨ rb < g) (fun g hg _ => .inl hg) _ _ _ (hy8.upto (show D + 1 ≤ D + 2 + 1 by omega))) hk8 (fun g hg _ => hg) (fun g hg => .inr (by omega)))
                clear hmo hk8 hy8 HX HR HY HT HK e0 e1 e2 e3 e4 e5 el ef
                generalize (w9).setCell ⟨xb, 5, none⟩ (.slice (some ⟨g9, 0, none⟩) (n + 1) cap9) = w8 at *
                have HX := HX8
                have HR := HR8
                have HT := HT8
                clear HX8 HR8 HT8
                have hxx := HX.out
                have e0 := hxx.cell 0
                have e1 := hxx.cell 1
                have e2 := hxx.cell 2
                have e3 := hxx.cell 3
                have e4 := hxx.cell 4
                have e5 := hxx.cell 5
                have el := hxx.lt
                have ef := hxx.frozen
                simp only [List.getElem?_toArray, List.getElem?_cons_zero, List.getElem?_cons_succ] at e0 e1 e2 e3 e4 e5
                clear hxx
                have rl := HR.out.lt
                have rf := HR.out.frozen
                have r0 := HR.out.cell 0
                have r1 := HR.out.cell 1
                have r2 := HR.out.cell 2
                have r3 := HR.out.cell 3
                have r4 := HR.out.cell 4
                have r5 := HR.out.cell 5
                have hne : rb ≠ xb := by omega
                simp only [List.getElem?_toArray, List.getElem?_cons_zero, List.getElem?_cons_succ] at r0 r1 r2 r3 r4 r5
                go_wp2_with fail
                refine bodyPost_ret (v := VA.val ⟨5, xf, xn, xw, xla, xln, xlc, (some ⟨g9, 0, none⟩), (n + 1), cap9⟩) (by simp [results, Tryz.results6, go_sem, r0, r1, r2, r3, r4, r5, rf, hne]) rfl ⟨⟨5, xf, xn, xw, xla, xln, xlc, (some ⟨g9, 0, none⟩), (n + 1), cap9⟩, .mk 5 xf xn xw v.list (ps ++ [((⟨#[122]⟩ : ByteArray), u)]), rfl, ?_, ?_, ?_, ?_⟩
                · refine Tree.imp (G := fun g => (G g ∧ g < xb) ∨ rb < g) (fun g hg _ => by rcases hg with h | h; exact .inl h.1; exact .inr (by omega)) _ _ _ (Tree.mod (S := fun g => g = rb) ?_ (fun g hg _ e => by rcases hg with h | h <;> omega) _ _ _ HTY.out)
                  repeat (with_reducible (first | exact Mod.refl _ _ | refine Only.set ?_ _ _))
                · have := near_mem_w (ps := (ps ++ [((⟨#[122]⟩ : ByteArray), u)])) 5 xf xn HLV.out HE1.out HSU.out
                  rw [HXW.out] at this
                  exact this
                · have := near_mem_wide (ps := (ps ++ [((⟨#[122]⟩ : ByteArray), u)])) 5 xf xn HWL.out (by have := HLU.out; omega) HUW.out
                  rw [HXW.out] at this
                  exact this
                · repeat (with_reducible (first | exact HT.out.more (by omega) | (refine SStep.set ?_ ?_ _; rotate_left; (simp <;> omega))))
    have f4 : (xk == 4) = false := by simpa using hk4
    have f5 : (xk == 5) = false := by simpa using hk5
    have rl := HR.out.lt
    have rf := HR.out.frozen
    have r0 := HR.out.cell 0
    have r1 := HR.out.cell 1
    have r2 := HR.out.cell 2
    have r3 := HR.out.cell 3
    have r4 := HR.out.cell 4
    have r5 := HR.out.cell 5
    have hne : rb ≠ xb := by omega
    simp only [List.getElem?_toArray, List.getElem?_cons_zero, List.getElem?_cons_succ] at r0 r1 r2 r3 r4 r5
    go_wp2_with fail
    obtain ⟨l1, l2, l3⟩ := HY.out.lift HWD.out (show D + 1 ≤ D + 1 + 2 by omega)
    refine bodyPost_ret (v := VA.val ⟨xk, xf, xn, xw, xla, xln, xlc, xma, xmn, xmc⟩) (by simp [results, Tryz.results6, go_sem, r0, r1, r2, r3, r4, r5, rf, hne]) rfl ⟨⟨xk, xf, xn, xw, xla, xln, xlc, xma, xmn, xmc⟩, v, rfl, ?_, ?_, ?_, ?_⟩
    · refine Tree.imp (G := fun g => G g ∧ g < xb) (fun g hg _ => .inl hg.1) _ _ _ (Tree.mod (S := fun g => g = rb) ?_ (fun g hg _ e => by have := hg.2; omega) _ _ _ l1)
      repeat (with_reducible (first | exact Mod.refl _ _ | refine Only.set ?_ _ _))
    · rw [l2]; omega
    · exact Wide.mono (by omega) _ _ l3
    · repeat (with_reducible (first | exact HT.out.more (by omega) | (refine SStep.set ?_ ?_ _; rotate_left; (simp <;> omega))))

end Go.Proofs.YtjfgfkbgbhbhjaaGreatDoor
