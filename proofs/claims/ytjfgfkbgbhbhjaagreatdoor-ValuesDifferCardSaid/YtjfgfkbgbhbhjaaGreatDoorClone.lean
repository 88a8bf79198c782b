/- value.Clone: a copy of a value is the same tree, in new memory. Conditions: rows of at most 1000. -/
import Derived.Test.YtjfgfkbgbhbhjaaGreatDoorValK
import Derived.Test.YtjfgfkbgbhbhjaaGreatDoorVal1Grp
import Derived.Laws.MakeOwn
import Derived.Test.YtjfgfkbgbhbhjaaGreatDoorHeldGrp
import Derived.Deep.CutBlock
namespace Go.Proofs.YtjfgfkbgbhbhjaaGreatDoor
open Go.RowKit
set_option linter.unusedVariables false
set_option linter.unusedSimpArgs false

theorem make_own {α : Type} (enc : α → Nat → Value) {P : Program} (w : World) {ts t : TypeId} {sz bytes : Nat} (hu : P.underlying ts = some (.slice t)) (hi : EInfo P t sz bytes) (n : Nat) (hn : n ≤ 1000000) (hb : bytes ≤ 1000000) :
    ∃ w', (Instr.makeSlice ts (.int .i64 0) (.int .i64 (n : Int))).run P w = .ok (.slice (some ⟨w.heap.size, 0, none⟩) 0 n) w' ∧ Own w' w.heap.size t sz enc (some ⟨w.heap.size, 0, none⟩) 0 n ([] : List α) ∧ New w w' ∧ w.heap.size < w'.heap.size := by
  obtain ⟨i, z, hi0, hz, hsz, hby, hzs, h0⟩ := hi
  have hm : n * bytes ≤ 1000000 * 1000000 := Nat.mul_le_mul hn hb
  obtain ⟨w', h1, h2, h3⟩ := run_make_own w w.heap.size ts t i z sz hu hi0 hz hsz .i64 .i64 n (by rw [hby, Nat.mul_comm]; omega) (by unfold maxLen; omega) (Nat.le_refl _)
  have ho : Own w' w.heap.size t sz enc (some ⟨w.heap.size, 0, none⟩) 0 n ([] : List α) := ⟨rfl, by simpa using h2⟩
  refine ⟨w', h1, ho, (Mod.refl (fun _ => False) w).grown h3 (fun k e => by cases e), ?_⟩
  rcases ho.blk with ⟨hA, _⟩ | ⟨g, hA, hB, ht⟩
  · cases hA
  · injection hA with hA; injection hA with hA; have := ht.lt; omega

def RTV (w : World) (G : Nat → Prop) (d : Nat) (A : Option Addr) (n : Nat) (vs : List VT) : Prop := ∃ xs : List VA, Row w G 29 6 VA.enc A n xs ∧ xs.length = vs.length ∧ ∀ i (h : i < xs.length) (h' : i < vs.length), Tree w G d xs[i] vs[i]
def RTM (w : World) (G : Nat → Prop) (d : Nat) (A : Option Addr) (n : Nat) (ps : List (ByteArray × VT)) : Prop := ∃ ms : List MA, Row w G 54 7 MA.enc A n ms ∧ ms.length = ps.length ∧ ∀ i (h : i < ms.length) (h' : i < ps.length), ms[i].name = ps[i].1 ∧ Tree w G d ms[i].v ps[i].2
theorem RTV.mod {w w' : World} {G S : Nat → Prop} {d n : Nat} {A : Option Addr} {vs : List VT} (h : RTV w G d A n vs) (hm : Mod S w w') (hs : ∀ g, G g → ¬ S g) : RTV w' G d A n vs := by
  obtain ⟨xs, h1, h2, h3⟩ := h
  exact ⟨xs, h1.mod hm (fun g hg _ => hs g hg), h2, fun i hi hi' => Tree.mod hm (fun g hg _ => hs g hg) _ _ _ (h3 i hi hi')⟩
theorem RTM.mod {w w' : World} {G S : Nat → Prop} {d n : Nat} {A : Option Addr} {vs : List (ByteArray × VT)} (h : RTM w G d A n vs) (hm : Mod S w w') (hs : ∀ g, G g → ¬ S g) : RTM w' G d A n vs := by
  obtain ⟨xs, h1, h2, h3⟩ := h
  exact ⟨xs, h1.mod hm (fun g hg _ => hs g hg), h2, fun i hi hi' => ⟨(h3 i hi hi').1, Tree.mod hm (fun g hg _ => hs g hg) _ _ _ (h3 i hi hi').2⟩⟩
theorem RTV.imp {w : World} {G G' : Nat → Prop} {d n : Nat} {A : Option Addr} {vs : List VT} (h : RTV w G d A n vs) (hG : ∀ g, G g → g < w.heap.size → G' g) : RTV w G' d A n vs := by
  obtain ⟨xs, h1, h2, h3⟩ := h
  exact ⟨xs, h1.imp hG, h2, fun i hi hi' => Tree.imp hG _ _ _ (h3 i hi hi')⟩
theorem Kids.rtv {w : World} {B d m c : Nat} {G G' : Nat → Prop} {A : Option Addr} {xs : List VA} {vs : List VT} (h : Kids (TrV d) 29 6 VA.enc w B G A m c xs vs) (h1 : ∀ g, G g → G' g) (h2 : ∀ g, B ≤ g → G' g) : RTV w G' d A m vs :=
  ⟨xs, h.own.row' (fun g _ hB => h2 g hB), by rw [h.own.1, h.len], fun i hi hi' => Tree.imp (fun g hg _ => h1 g hg.1) _ _ _ (h.tree i hi hi')⟩
theorem Kids.rtm {w : World} {B d m c : Nat} {G G' : Nat → Prop} {A : Option Addr} {xs : List MA} {vs : List (ByteArray × VT)} (h : Kids (TrM d) 54 7 MA.enc w B G A m c xs vs) (h1 : ∀ g, G g → G' g) (h2 : ∀ g, B ≤ g → G' g) : RTM w G' d A m vs :=
  ⟨xs, h.own.row' (fun g _ hB => h2 g hB), by rw [h.own.1, h.len], fun i hi hi' => ⟨(h.tree i hi hi').1, Tree.imp (fun g hg _ => h1 g hg.1) _ _ _ (h.tree i hi hi').2⟩⟩
theorem RTV.none (w : World) (G : Nat → Prop) (d : Nat) (A : Option Addr) : RTV w G d A 0 [] := ⟨[], Row.nil, rfl, fun i h => absurd h (by simp)⟩
theorem RTM.none (w : World) (G : Nat → Prop) (d : Nat) (A : Option Addr) : RTM w G d A 0 [] := ⟨[], Row.nil, rfl, fun i h => absurd h (by simp)⟩

def RClone (w : World) (d : Nat) (v : VT) (e : Ending) (w' : World) : Prop := ∃ y : VA, e = .returned y.val ∧ Tree w' (fun g => w.heap.size ≤ g) d y v ∧ New w w'
def CloneSpec (d : Nat) : Prop := ∀ (x : VA) (v : VT) (w : World), Tree w (fun _ => True) d x v → Wide 1000 d v → Calls Tryz.prog 31 #[x.val] w (RClone w d v)

set_option maxRecDepth 100000 in
set_option maxHeartbeats 1000000 in
theorem clone_walk (d : Nat) (IH : CloneSpec d) : CloneSpec (d + 1) := by
  intro x v w ht hw
  obtain ⟨vs, ps, rfl, ⟨xs, h1, h2, h3⟩, ⟨ms, h4, h5, h6⟩⟩ := ht
  obtain ⟨w1, w2, -, w4, w5⟩ := hw
  simp only [VT.list, VT.mem] at w1 w2 w4 w5
  obtain ⟨xk, xf, xn, xw, xla, xln, xlc, xma, xmn, xmc⟩ := x
  simp only at h1 h4
  have hln : xln ≤ 1000 := by have := h1.1; omega
  have hmn : xmn ≤ 1000 := by have := h4.1; omega
  have HIH := Lib.hid IH
  have HL := Lib.hid h1
  have HVL := Lib.hid h2
  have HVT := Lib.hid h3
  have HM := Lib.hid h4
  have HML := Lib.hid h5
  have HMT := Lib.hid h6
  have HWL := Lib.hid w4
  have HWM := Lib.hid w5
  clear IH h1 h2 h3 h4 h5 h6 w1 w2 w4 w5
  have hx := Blk.new w 29 #[.int .i64 xk, .bool xf, .int .i64 xn, .string xw, .slice xla xln xlc, .slice xma xmn xmc]
  have m1 : New w (w.alloc (.cells #[.int .i64 xk, .bool xf, .int .i64 xn, .string xw, .slice xla xln xlc, .slice xma xmn xmc] 29)) := (Mod.refl _ _).alloc _
  have z1 : (w.alloc (.cells #[.int .i64 xk, .bool xf, .int .i64 xn, .string xw, .slice xla xln xlc, .slice xma xmn xmc] 29)).heap.size = w.heap.size + 1 := by simp
  go_enter Tryz.func31, Tryz.ntmps31
  go_upto_region 1 with (fail)
  generalize w.alloc (.cells #[.int .i64 xk, .bool xf, .int .i64 xn, .string xw, .slice xla xln xlc, .slice xma xmn xmc] 29) = w1 at *
  have hz := Blk.new w1 29 #[.int .i64 0, .bool false, .int .i64 0, .string ⟨#[]⟩, .slice none 0 0, .slice none 0 0]
  have m2 : New w1 (w1.alloc (.cells #[.int .i64 0, .bool false, .int .i64 0, .string ⟨#[]⟩, .slice none 0 0, .slice none 0 0] 29)) := (Mod.refl _ _).alloc _
  generalize w1.alloc (.cells #[.int .i64 0, .bool false, .int .i64 0, .string ⟨#[]⟩, .slice none 0 0, .slice none 0 0] 29) = w2 at *
  rw [z1] at hz
  have HX := Lib.hid (hx.mod m2 (fun e => e))
  have HR := Lib.hid hz
  have HN := Lib.hid (m1.trans m2)
  have HZ2 : Hid (w.heap.size + 1 < w2.heap.size) := Lib.hid hz.lt
  clear hx hz m1 m2 z1
  generalize hxb : w.heap.size = xb at *
  have e0 := HX.out.cell 0
  have e1 := HX.out.cell 1
  have e2 := HX.out.cell 2
  have e3 := HX.out.cell 3
  have e4 := HX.out.cell 4
  have e5 := HX.out.cell 5
  have el := HX.out.lt
  have ef := HX.out.frozen
  simp only [List.getElem?_toArray, List.getElem?_cons_zero, List.getElem?_cons_succ] at e0 e1 e2 e3 e4 e5
  have hnn := fun w : World => Go.run_neq_slice_nil_any (P := Tryz.prog) w 26 29 xla xln xlc 0 0 Tryz.underlying26
  have hnm := fun w : World => Go.run_neq_slice_nil_any (P := Tryz.prog) w 27 54 xma xmn xmc 0 0 Tryz.underlying27
  have HNM := Lib.hid hnm
  clear hnm
  go_upto_if 11 with (fail)
  go_cut [] (fun wx => ∃ (A : Option Addr) (c : Nat), Hid (Blk wx xb 29 #[.int .i64 xk, .bool xf, .int .i64 xn, .string xw, .slice A xln c, .slice xma xmn xmc]) ∧ Hid (Blk wx (xb + 1) 29 #[.int .i64 0, .bool false, .int .i64 0, .string ⟨#[]⟩, .slice none 0 0, .slice none 0 0]) ∧ Hid (RTV wx (fun g => xb + 1 < g) d A xln vs) ∧ Hid (New w wx))
  case first =>
    cases hxl : xla with
    | none =>
      subst hxl
      have h0 : xln = 0 := by
        rcases Nat.eq_zero_or_pos xln with h | h
        · exact h
        · obtain ⟨g, o, hA, -⟩ := HL.out.2 h; cases hA
      subst h0
      have hvs : vs = [] := by
        have h1 := HVL.out
        have h2 := HL.out.1
        exact List.eq_nil_of_length_eq_zero (by omega)
      subst hvs
      simp only [Option.isNone_none, Bool.not_true] at hnn
      go_wp2_with fail
      go_meet
      case rel => exact ⟨none, xlc, HX, HR, Lib.hid (RTV.none _ _ _ _), HN⟩
    | some a =>
      subst hxl
      simp only [Option.isNone_some, Bool.not_false] at hnn
      simp only [Option.isSome_some]
      obtain ⟨wm, hmk, own, mm, zm⟩ := make_own VA.enc (P := Tryz.prog) w2 Tryz.underlying26 einfo_val xln (by omega) (by omega)
      go_upto_region 3 with (fail)
      have HX2 := Lib.hid (HX.out.mod mm (fun e => e))
      have HR2 := Lib.hid (HR.out.mod mm (fun e => e))
      have HN2 := Lib.hid (HN.out.trans mm)
      have HK2 : Hid (Kids (TrV d) 29 6 VA.enc wm w2.heap.size (fun g => xb + 1 < g) (some ⟨w2.heap.size, 0, none⟩) 0 xln [] []) := Lib.hid ⟨own, rfl, fun i h => absurd h (by simp)⟩
      clear hmk own mm HX HR HN
      clear e0 e1 e2 e3 e4 e5 el ef
      have HX := HX2
      have HR := HR2
      have e0 := HX.out.cell 0
      have e1 := HX.out.cell 1
      have e2 := HX.out.cell 2
      have e3 := HX.out.cell 3
      have e4 := HX.out.cell 4
      have e5 := HX.out.cell 5
      have el := HX.out.lt
      have ef := HX.out.frozen
      simp only [List.getElem?_toArray, List.getElem?_cons_zero, List.getElem?_cons_succ] at e0 e1 e2 e3 e4 e5
      go_wp2_with fail
      go_loopw [3, 19] (fun t i wr => ∃ (j c : Nat) (A : Option Addr) (ys : List VA), j ≤ xln ∧ i = .int .i64 j ∧ t = .slice A j c ∧ w2.heap.size ≤ wr.heap.size ∧ Hid (Blk wr xb 29 #[.int .i64 xk, .bool xf, .int .i64 xn, .string xw, .slice (some a) xln xlc, .slice xma xmn xmc]) ∧ Hid (Blk wr (xb + 1) 29 #[.int .i64 0, .bool false, .int .i64 0, .string ⟨#[]⟩, .slice none 0 0, .slice none 0 0]) ∧ Hid (Kids (TrV d) 29 6 VA.enc wr w2.heap.size (fun g => xb + 1 < g) A j c ys (vs.take j)) ∧ Hid (New w wr)) (fun _ i _ => xln - (intOf i).toNat)
      case atStart => exact ⟨0, xln, _, [], Nat.zero_le _, rfl, rfl, by omega, HX, HR, HK2, HN2⟩
      case round =>
        clear HX HR HK2 HN2 HX2 HR2
        clear e0 e1 e2 e3 e4 e5 el ef
        rename World => wr
        obtain ⟨j, c, A, ys, hj, rfl, rfl, hsz, HX, HR, HK, HN⟩ := hrel
        by_cases hlt : j < xln
        · have hjx : j < xs.length := by have := HL.out.1; omega
          have hjv : j < vs.length := by have := HVL.out; omega
          obtain ⟨g, o, hA, htb, hc0⟩ := ((HL.out.imp (G' := fun _ => True) (fun _ _ _ => trivial)).sl.new HN.out).2 (by omega)
          have hgl := htb.lt
          have hc := fun q (hq : q < 6) => hc0 j hjx q hq
          have HTY := Lib.hid ((HVT.out j hjx hjv).new HN.out)
          have HWJ := Lib.hid (HWL.out _ (List.getElem_mem hjv))
          have HTK : Hid (vs.take (j + 1) = vs.take j ++ [vs[j]]) := Lib.hid (List.take_succ_eq_append_getElem hjv)
          clear hc0 htb
          generalize xs[j] = y at *
          generalize vs[j] = u at *
          injection hA with hA
          subst hA
          obtain ⟨yk, yf, yn, yw, yla, yln, ylc, yma, ymn, ymc⟩ := y
          have b0 := hc 0 (by omega)
          have b1 := hc 1 (by omega)
          have b2 := hc 2 (by omega)
          have b3 := hc 3 (by omega)
          have b4 := hc 4 (by omega)
          have b5 := hc 5 (by omega)
          simp only [VA.enc, Nat.add_zero] at b0 b1 b2 b3 b4 b5
          clear hc
          have hb1 : (0 : Int) ≤ j := by omega
          have hb2 : (j : Int) < xln := by omega
          have m5 : New wr (wr.alloc (.cells #[.int .i64 yk, .bool yf, .int .i64 yn, .string yw, .slice yla yln ylc, .slice yma ymn ymc] 29)) := (Mod.refl _ _).alloc _
          have h5 := Blk.new wr 29 #[.int .i64 yk, .bool yf, .int .i64 yn, .string yw, .slice yla yln ylc, .slice yma ymn ymc]
          go_upto_region 6 with (fail)
          have HM5 := Lib.hid m5
          generalize wr.alloc (.cells #[.int .i64 yk, .bool yf, .int .i64 yn, .string yw, .slice yla yln ylc, .slice yma ymn ymc] 29) = w5 at *
          have d0 := h5.cell 0
          have d1 := h5.cell 1
          have d2 := h5.cell 2
          have d3 := h5.cell 3
          have d4 := h5.cell 4
          have d5 := h5.cell 5
          have dl := h5.lt
          simp only [List.getElem?_toArray, List.getElem?_cons_zero, List.getElem?_cons_succ] at d0 d1 d2 d3 d4 d5
          have hcall := HIH.out ⟨yk, yf, yn, yw, yla, yln, ylc, yma, ymn, ymc⟩ u w5 (HTY.out.new m5) HWJ.out
          clear b0 b1 b2 b3 b4 b5 m5 h5 hgl
          go_wp2_with fail
          refine hcall.mono ?_
          clear hcall
          rintro e w6 ⟨y, rfl, hty, m6⟩
          clear d0 d1 d2 d3 d4 d5 dl
          have HM6 := Lib.hid (HM5.out.trans m6)
          have hlow : xb + 1 < w5.heap.size := (HR.out.mod HM5.out (fun e => e)).lt
          have hfar : ∀ g, blkOf A = some g → g < w5.heap.size := fun g hg => by have := (HK.out.own.far' g hg).2.1; have := HM5.out.size; omega
          have hty6 : Tree w6 (fun g => xb + 1 < g ∧ blkOf A ≠ some g) d y u := Tree.imp (fun g (hg : w5.heap.size ≤ g) _ => ⟨by omega, fun e => by have := hfar g e; omega⟩) _ _ _ hty
          have HTY6 := Lib.hid hty6
          obtain ⟨yk, yf, yn, yw, yla, yln, ylc, yma, ymn, ymc⟩ := y
          have m7 : New w6 (w6.alloc (.cells #[.int .i64 yk, .bool yf, .int .i64 yn, .string yw, .slice yla yln ylc, .slice yma ymn ymc] 29)) := (Mod.refl _ _).alloc _
          have hk7 := (HK.out.new (trV_ok d) HM6.out).new (trV_ok d) m7
          have hty7 := HTY6.out.new m7
          have blk7 : Blk (w6.alloc (.cells #[.int .i64 yk, .bool yf, .int .i64 yn, .string yw, .slice yla yln ylc, .slice yma ymn ymc] 29)) w6.heap.size 29 (encL 6 VA.enc ⟨yk, yf, yn, yw, yla, yln, ylc, yma, ymn, ymc⟩).toArray := Blk.new _ _ _
          have hz2 : w2.heap.size ≤ w6.heap.size := by have := HM6.out.size; omega
          go_wp2_with (at_builtin; refine wpList_push rfl _ _ 26 rfl 88 Tryz.underlying26 einfo_val rfl hk7.own ⟨yk, yf, yn, yw, yla, yln, ylc, yma, ymn, ymc⟩ w6.heap.size rfl blk7 (fun j hj => VA.one _ j hj) (by omega) (by omega) (by have := m7.size; omega) ?_; intro g9 cap9 w9 own9 hm9 hat9 hlt9)
          have hnx : ∀ g, blkOf A = some g → xb + 1 < g := fun g hg => by
            have := (hk7.own.far' g hg).1
            have := HZ2.out
            omega
          have hg9 : xb + 1 < g9 := by
            rcases hat9 with h | h
            · exact hnx _ h
            · have := HZ2.out; have := m7.size; omega
          have HX9 := Lib.hid (((HX.out.mod HM6.out (fun e => e)).mod m7 (fun e => e)).mod hm9 (fun e => by have := hnx _ e; omega))
          have HR9 := Lib.hid (((HR.out.mod HM6.out (fun e => e)).mod m7 (fun e => e)).mod hm9 (fun e => by have := hnx _ e; omega))
          have HK9 := Lib.hid (hk7.push (trV_ok d) hty7 own9 hm9 hat9)
          have HN9 := Lib.hid (hk7.own.push_mod' ((HN.out.trans HM6.out).trans m7) hm9 (by have := HZ2.out; omega))
          have hz9 : w2.heap.size ≤ w9.heap.size := by have := hm9.size; have := m7.size; omega
          rw [← HTK.out] at HK9
          clear hk7 hty7 blk7 own9 hm9 hat9 hlt9 hnx hg9 m7 hty6 HTY6 m6 hty hfar
          go_wp2_with fail
          go_roundw
          case rel => exact ⟨j + 1, cap9, _, _, by omega, by go_num, rfl, hz9, HX9, HR9, HK9, HN9⟩
          case measure => simp [intOf]; omega
        · obtain rfl : j = xln := by omega
          have hvl : vs.take j = vs := List.take_of_length_le (by have := HVL.out; have := HL.out.1; omega)
          rw [hvl] at HK
          have e0 := HX.out.cell 0
          have e1 := HX.out.cell 1
          have e2 := HX.out.cell 2
          have e3 := HX.out.cell 3
          have e4 := HX.out.cell 4
          have e5 := HX.out.cell 5
          have el := HX.out.lt
          have ef := HX.out.frozen
          simp only [List.getElem?_toArray, List.getElem?_cons_zero, List.getElem?_cons_succ] at e0 e1 e2 e3 e4 e5
          have HX8 := Lib.hid (HX.out.set 4 (.slice A j c))
          have hms : Only xb wr (wr.setCell ⟨xb, 4, none⟩ (.slice A j c)) := Only.set (Mod.refl _ _) 4 _
          have HR8 := Lib.hid (HR.out.mod hms (by omega))
          have HN8 := Lib.hid (HN.out.step hms (fun i hi e => by omega))
          have HRT := Lib.hid ((HK.out.rtv (G' := fun g => xb + 1 < g) (fun g hg => hg) (fun g hg => by have := HZ2.out; omega)).mod hms (fun g hg e => by have : xb + 1 < g := hg; omega))
          simp only [Array.setIfInBounds, List.size_toArray, List.length_cons, List.length_nil, Nat.reduceAdd, Nat.reduceLT, ↓reduceDIte, List.set_toArray, List.set_cons_zero, List.set_cons_succ] at HX8
          clear hms
          go_wp2_with fail
          go_meet
          case rel => exact ⟨A, c, HX8, HR8, HRT, HN8⟩
  case rest =>
    rename World => wx
    clear HX HR HN hnn
    clear e0 e1 e2 e3 e4 e5 el ef
    obtain ⟨LA, lc, HX, HR, HLT, HN⟩ := hcut
    have e0 := HX.out.cell 0
    have e1 := HX.out.cell 1
    have e2 := HX.out.cell 2
    have e3 := HX.out.cell 3
    have e4 := HX.out.cell 4
    have e5 := HX.out.cell 5
    have el := HX.out.lt
    have ef := HX.out.frozen
    simp only [List.getElem?_toArray, List.getElem?_cons_zero, List.getElem?_cons_succ] at e0 e1 e2 e3 e4 e5
    have hnm := HNM.out
    go_upto_if 33 with (fail)
    go_cut [] (fun wy => ∃ (A : Option Addr) (c : Nat), Hid (Blk wy xb 29 #[.int .i64 xk, .bool xf, .int .i64 xn, .string xw, .slice LA xln lc, .slice A xmn c]) ∧ Hid (Blk wy (xb + 1) 29 #[.int .i64 0, .bool false, .int .i64 0, .string ⟨#[]⟩, .slice none 0 0, .slice none 0 0]) ∧ Hid (RTV wy (fun g => xb + 1 < g) d LA xln vs) ∧ Hid (RTM wy (fun g => xb + 1 < g) d A xmn ps) ∧ Hid (New w wy))
    case first =>
      cases hxm : xma with
      | none =>
        subst hxm
        have h0 : xmn = 0 := by
          rcases Nat.eq_zero_or_pos xmn with h | h
          · exact h
          · obtain ⟨g, o, hA, -⟩ := HM.out.2 h; cases hA
        subst h0
        have hvs : ps = [] := by
          have h1 := HML.out
          have h2 := HM.out.1
          exact List.eq_nil_of_length_eq_zero (by omega)
        subst hvs
        simp only [Option.isNone_none, Bool.not_true] at hnm
        go_wp2_with fail
        go_meet
        case rel => exact ⟨none, xmc, HX, HR, HLT, Lib.hid (RTM.none _ _ _ _), HN⟩
      | some a =>
        subst hxm
        simp only [Option.isNone_some, Bool.not_false] at hnm
        simp only [Option.isSome_some]
        obtain ⟨wm, hmk, own, mm, zm⟩ := make_own MA.enc (P := Tryz.prog) wx Tryz.underlying27 einfo_mem xmn (by omega) (by omega)
        have hzx : xb + 1 < wx.heap.size := HR.out.lt
        go_upto_region 11 with (fail)
        have HX2 := Lib.hid (HX.out.mod mm (fun e => e))
        have HR2 := Lib.hid (HR.out.mod mm (fun e => e))
        have HN2 := Lib.hid (HN.out.trans mm)
        have HLT2 := Lib.hid ((HLT.out.imp (G' := fun g => xb + 1 < g ∧ g < wx.heap.size) (fun g hg hl => ⟨hg, hl⟩)).mod mm (fun _ _ e => e))
        have HK2 : Hid (Kids (TrM d) 54 7 MA.enc wm wx.heap.size (fun g => wx.heap.size ≤ g) (some ⟨wx.heap.size, 0, none⟩) 0 xmn [] []) := Lib.hid ⟨own, rfl, fun i h => absurd h (by simp)⟩
        clear hmk own mm HX HR HN HLT
        clear e0 e1 e2 e3 e4 e5 el ef
        have HX := HX2
        have HR := HR2
        have e0 := HX.out.cell 0
        have e1 := HX.out.cell 1
        have e2 := HX.out.cell 2
        have e3 := HX.out.cell 3
        have e4 := HX.out.cell 4
        have e5 := HX.out.cell 5
        have el := HX.out.lt
        have ef := HX.out.frozen
        simp only [List.getElem?_toArray, List.getElem?_cons_zero, List.getElem?_cons_succ] at e0 e1 e2 e3 e4 e5
        go_wp2_with fail
        go_loopw [6, 41] (fun t i wr => ∃ (j c : Nat) (A : Option Addr) (ys : List MA), j ≤ xmn ∧ i = .int .i64 j ∧ t = .slice A j c ∧ wx.heap.size ≤ wr.heap.size ∧ Hid (Blk wr xb 29 #[.int .i64 xk, .bool xf, .int .i64 xn, .string xw, .slice LA xln lc, .slice (some a) xmn xmc]) ∧ Hid (Blk wr (xb + 1) 29 #[.int .i64 0, .bool false, .int .i64 0, .string ⟨#[]⟩, .slice none 0 0, .slice none 0 0]) ∧ Hid (Kids (TrM d) 54 7 MA.enc wr wx.heap.size (fun g => wx.heap.size ≤ g) A j c ys (ps.take j)) ∧ Hid (New w wr) ∧ Hid (RTV wr (fun g => xb + 1 < g ∧ g < wx.heap.size) d LA xln vs)) (fun _ i _ => xmn - (intOf i).toNat)
        case atStart => exact ⟨0, xmn, _, [], Nat.zero_le _, rfl, rfl, by omega, HX, HR, HK2, HN2, HLT2⟩
        case round =>
          clear HX HR HK2 HN2 HX2 HR2 HLT2
          clear e0 e1 e2 e3 e4 e5 el ef
          rename World => wr
          obtain ⟨j, c, A, ys, hj, rfl, rfl, hsz, HX, HR, HK, HN, HLT⟩ := hrel
          by_cases hlt : j < xmn
          · have hjx : j < ms.length := by have := HM.out.1; omega
            have hjv : j < ps.length := by have := HML.out; omega
            obtain ⟨g, o, hA, htb, hc0⟩ := ((HM.out.imp (G' := fun _ => True) (fun _ _ _ => trivial)).sl.new HN.out).2 (by omega)
            have hgl := htb.lt
            have hc := fun q (hq : q < 7) => hc0 j hjx q hq
            have HNA := Lib.hid (HMT.out j hjx hjv).1
            have HTY := Lib.hid ((HMT.out j hjx hjv).2.new HN.out)
            have HWJ := Lib.hid (HWM.out _ (List.getElem_mem hjv)).2
            have HTK : Hid (ps.take (j + 1) = ps.take j ++ [ps[j]]) := Lib.hid (List.take_succ_eq_append_getElem hjv)
            clear hc0 htb
            generalize ms[j] = y at *
            generalize ps[j] = u at *
            obtain ⟨un, u⟩ := u
            injection hA with hA
            subst hA
            obtain ⟨yn0, yk, yf, yn, yw, yla, yln, ylc, yma, ymn, ymc⟩ := y
            obtain rfl : yn0 = un := HNA.out
            have b0 := hc 0 (by omega)
            have b1 := hc 1 (by omega)
            have b2 := hc 2 (by omega)
            have b3 := hc 3 (by omega)
            have b4 := hc 4 (by omega)
            have b5 := hc 5 (by omega)
            have b6 := hc 6 (by omega)
            simp only [MA.enc, VA.enc, Nat.add_zero] at b0 b1 b2 b3 b4 b5 b6
            clear hc HNA
            have hb1 : (0 : Int) ≤ j := by omega
            have hb2 : (j : Int) < xmn := by omega
            have m5 : New wr (wr.alloc (.cells #[.string yn0, .int .i64 yk, .bool yf, .int .i64 yn, .string yw, .slice yla yln ylc, .slice yma ymn ymc] 54)) := (Mod.refl _ _).alloc _
            have h5 := Blk.new wr 54 #[.string yn0, .int .i64 yk, .bool yf, .int .i64 yn, .string yw, .slice yla yln ylc, .slice yma ymn ymc]
            go_upto_region 14 with (fail)
            have HM5 := Lib.hid m5
            have H5 := Lib.hid h5
            have HTY5 := Lib.hid (HTY.out.new m5)
            generalize wr.alloc (.cells #[.string yn0, .int .i64 yk, .bool yf, .int .i64 yn, .string yw, .slice yla yln ylc, .slice yma ymn ymc] 54) = w5 at *
            have hmb : wr.heap.size < w5.heap.size := h5.lt
            have hcall := HIH.out ⟨yk, yf, yn, yw, yla, yln, ylc, yma, ymn, ymc⟩ u w5.drew (HTY5.out.new (Mod.refl _ _).drew) HWJ.out
            clear b0 b1 b2 b3 b4 b5 b6 m5 h5 hgl
            have HS : Hid (∀ W, New w5 W → (W.cell? ⟨wr.heap.size, 0, none⟩ = some (.string yn0) ∧ W.cell? ⟨wr.heap.size, 1, none⟩ = some (.int .i64 yk) ∧ W.cell? ⟨wr.heap.size, 2, none⟩ = some (.bool yf) ∧ W.cell? ⟨wr.heap.size, 3, none⟩ = some (.int .i64 yn) ∧ W.cell? ⟨wr.heap.size, 4, none⟩ = some (.string yw) ∧ W.cell? ⟨wr.heap.size, 5, none⟩ = some (.slice yla yln ylc) ∧ W.cell? ⟨wr.heap.size, 6, none⟩ = some (.slice yma ymn ymc) ∧ wr.heap.size < W.heap.size)) := Lib.hid (fun W hW => by
              have b := H5.out.mod hW (fun e => e)
              exact ⟨(b.cell 0).trans rfl, (b.cell 1).trans rfl, (b.cell 2).trans rfl, (b.cell 3).trans rfl, (b.cell 4).trans rfl, (b.cell 5).trans rfl, (b.cell 6).trans rfl, b.lt⟩)
            refine wp_region_held_ord (fun W => W.cell? ⟨wr.heap.size, 0, none⟩ = some (.string yn0) ∧ W.cell? ⟨wr.heap.size, 1, none⟩ = some (.int .i64 yk) ∧ W.cell? ⟨wr.heap.size, 2, none⟩ = some (.bool yf) ∧ W.cell? ⟨wr.heap.size, 3, none⟩ = some (.int .i64 yn) ∧ W.cell? ⟨wr.heap.size, 4, none⟩ = some (.string yw) ∧ W.cell? ⟨wr.heap.size, 5, none⟩ = some (.slice yla yln ylc) ∧ W.cell? ⟨wr.heap.size, 6, none⟩ = some (.slice yma ymn ymc) ∧ wr.heap.size < W.heap.size) [5, 7, 8] [0, 1, 2, 3, 4, 5, 6, 7, 8] (by kernel_rfl) (by kernel_rfl) (fun _ _ d _ _ h => by cases d <;> exact h) ?_ (fun hHeld => ?_)
            · exact HS.out _ (Mod.refl _ _).drew
            simp only [List.length_cons, List.length_nil, List.drop_succ_cons, List.drop_zero]
            refine heldO_take ?_ (by rfl) (by rfl) (by rfl) (fun w hSw => ?_) ?_
            rotate_left
            · (try dsimp only at hSw); go_simp; any_goals (with_reducible rfl)
            simp only [Act.put, List.setIfInBounds_toArray, List.set_cons_zero, List.set_cons_succ]
            refine heldO_take ?_ (by rfl) (by rfl) (by rfl) (fun w hSw => ?_) ?_
            rotate_left
            · (try dsimp only at hSw); go_simp; any_goals (with_reducible rfl)
            simp only [Act.put, List.setIfInBounds_toArray, List.set_cons_zero, List.set_cons_succ]
            refine heldO_take ?_ (by rfl) (by rfl) (by rfl) (fun w hSw => ?_) ?_
            rotate_left
            · (try dsimp only at hSw); go_simp; any_goals (with_reducible rfl)
            simp only [Act.put, List.setIfInBounds_toArray, List.set_cons_zero, List.set_cons_succ]
            refine heldO_take ?_ (by rfl) (by rfl) (by rfl) (fun w hSw => ?_) ?_
            rotate_left
            · (try dsimp only at hSw); go_simp; any_goals (with_reducible rfl)
            simp only [Act.put, List.setIfInBounds_toArray, List.set_cons_zero, List.set_cons_succ]
            refine heldO_take ?_ (by rfl) (by rfl) (by rfl) (fun w hSw => ?_) ?_
            rotate_left
            · (try dsimp only at hSw); go_simp; any_goals (with_reducible rfl)
            simp only [Act.put, List.setIfInBounds_toArray, List.set_cons_zero, List.set_cons_succ]
            refine heldO_step (by rfl) (by rfl) (by rfl) (fun K hK => ?_)
            go_simp
            refine hcall.mono ?_
            clear hcall
            rintro e w6 ⟨y, rfl, hty, m6⟩
            have HM6 := Lib.hid ((HM5.out.trans (Mod.refl (fun _ => False) w5).drew).trans m6)
            have HN6 : Hid (New w5 w6) := Lib.hid ((Mod.refl (fun _ => False) w5).drew.trans m6)
            have hfar : ∀ g, blkOf A = some g → g < wr.heap.size := fun g hg => (HK.out.own.far' g hg).2.1
            have hty6 : Tree w6 (fun g => wx.heap.size ≤ g ∧ blkOf A ≠ some g) d y u := Tree.imp (fun g (hg : w5.drew.heap.size ≤ g) _ => by
              have hdz : w5.drew.heap.size = w5.heap.size := rfl
              exact ⟨by omega, fun e => by have := hfar g e; omega⟩) _ _ _ hty
            have HTY6 := Lib.hid hty6
            have hz6 : wx.heap.size ≤ w6.heap.size := by have := HM6.out.size; omega
            clear m6 hty hty6 hfar
            go_wp2_with fail
            refine hK.out _ _ (HS.out _ HN6.out) (fun hHeld => ?_)
            clear hK K
            try simp only [Act.put, List.setIfInBounds_toArray, List.set_cons_zero, List.set_cons_succ]
            obtain ⟨yk, yf, yn, yw, yla, yln, ylc, yma, ymn, ymc⟩ := y
            refine heldO_take ?_ (by rfl) (by rfl) (by rfl) (fun w hSw => ?_) ?_
            rotate_left
            · (try dsimp only at hSw); go_simp; any_goals (with_reducible rfl)
            simp only [Act.put, List.setIfInBounds_toArray, List.set_cons_zero, List.set_cons_succ]
            refine heldO_step (by rfl) (by rfl) (by rfl) (fun K hK => ?_)
            go_simp
            have m7 : New w6 (w6.alloc (.cells #[.string yn0, .int .i64 yk, .bool yf, .int .i64 yn, .string yw, .slice yla yln ylc, .slice yma ymn ymc] 54)) := (Mod.refl _ _).alloc _
            refine hK.out _ _ (HS.out _ (HN6.out.trans m7)) (fun hHeld => ?_)
            clear hK K
            try simp only [Act.put, List.setIfInBounds_toArray, List.set_cons_zero, List.set_cons_succ]
            have hk7 := (HK.out.new (trM_ok d) HM6.out).new (trM_ok d) m7
            have hty7 : TrM d (w6.alloc (.cells #[.string yn0, .int .i64 yk, .bool yf, .int .i64 yn, .string yw, .slice yla yln ylc, .slice yma ymn ymc] 54)) (fun g => wx.heap.size ≤ g ∧ blkOf A ≠ some g) ⟨yn0, ⟨yk, yf, yn, yw, yla, yln, ylc, yma, ymn, ymc⟩⟩ (yn0, u) := ⟨rfl, HTY6.out.new m7⟩
            have blk7 : Blk (w6.alloc (.cells #[.string yn0, .int .i64 yk, .bool yf, .int .i64 yn, .string yw, .slice yla yln ylc, .slice yma ymn ymc] 54)) w6.heap.size 54 (encL 7 MA.enc ⟨yn0, ⟨yk, yf, yn, yw, yla, yln, ylc, yma, ymn, ymc⟩⟩).toArray := Blk.new _ _ _
            refine heldO_step (by rfl) (by rfl) (by rfl) (fun K hK => ?_)
            refine wp_push (.tmp 45) (.tmp 52) _ rfl 104 Tryz.underlying27 einfo_mem rfl (by exact hk7.own) ⟨yn0, ⟨yk, yf, yn, yw, yla, yln, ylc, yma, ymn, ymc⟩⟩ w6.heap.size rfl (by exact blk7) (fun j hj => MA.one _ j hj) (by omega) (by omega) (by have := m7.size; omega) ?_
            intro g9 cap9 w9 own9 hm9 hat9 hlt9
            have hnx : ∀ g, blkOf A = some g → wx.heap.size ≤ g ∧ g < wr.heap.size := fun g hg => ⟨(HK.out.own.far' g hg).1, (HK.out.own.far' g hg).2.1⟩
            have hxx := HX.out.lt
            have HX9 := Lib.hid (((HX.out.mod HM6.out (fun e => e)).mod m7 (fun e => e)).mod hm9 (fun e => by have := hnx _ e; omega))
            have HR9 := Lib.hid (((HR.out.mod HM6.out (fun e => e)).mod m7 (fun e => e)).mod hm9 (fun e => by have := hnx _ e; omega))
            have HLT9 := Lib.hid (((HLT.out.mod HM6.out (fun _ _ e => e)).mod m7 (fun _ _ e => e)).mod hm9 (fun g hg e => by have := hnx _ e; omega))
            have HK9 := Lib.hid (hk7.push (trM_ok d) hty7 own9 hm9 hat9)
            have HN9 := Lib.hid (hk7.own.push_mod' ((HN.out.trans HM6.out).trans m7) hm9 (by have := HZ2.out; omega))
            have hz9 : wx.heap.size ≤ w9.heap.size := by have := hm9.size; have := m7.size; omega
            rw [← HTK.out] at HK9
            refine hK.out _ _ (by
              have b := ((H5.out.mod HN6.out (fun e => e)).mod m7 (fun e => e)).mod hm9 (fun e => by have := hnx _ e; omega)
              exact ⟨(b.cell 0).trans rfl, (b.cell 1).trans rfl, (b.cell 2).trans rfl, (b.cell 3).trans rfl, (b.cell 4).trans rfl, (b.cell 5).trans rfl, (b.cell 6).trans rfl, b.lt⟩) (fun hHeld => ?_)
            clear hK K
            try simp only [Act.put, List.setIfInBounds_toArray, List.set_cons_zero, List.set_cons_succ]
            refine heldO_nil ?_
            clear hk7 hty7 blk7 own9 hm9 hat9 hlt9 hnx m7 HTY6 hHeld
            go_wp2_with fail
            go_roundw
            case rel => exact ⟨j + 1, cap9, _, _, by omega, by go_num, rfl, hz9, HX9, HR9, HK9, HN9, HLT9⟩
            case measure => simp [intOf]; omega
          · obtain rfl : j = xmn := by omega
            have hvl : ps.take j = ps := List.take_of_length_le (by have := HML.out; have := HM.out.1; omega)
            rw [hvl] at HK
            have e0 := HX.out.cell 0
            have e1 := HX.out.cell 1
            have e2 := HX.out.cell 2
            have e3 := HX.out.cell 3
            have e4 := HX.out.cell 4
            have e5 := HX.out.cell 5
            have el := HX.out.lt
            have ef := HX.out.frozen
            simp only [List.getElem?_toArray, List.getElem?_cons_zero, List.getElem?_cons_succ] at e0 e1 e2 e3 e4 e5
            have HX8 := Lib.hid (HX.out.set 5 (.slice A j c))
            have hms : Only xb wr (wr.setCell ⟨xb, 5, none⟩ (.slice A j c)) := Only.set (Mod.refl _ _) 5 _
            have HR8 := Lib.hid (HR.out.mod hms (by omega))
            have HN8 := Lib.hid (HN.out.step hms (fun i hi e => by omega))
            have HRT := Lib.hid ((HK.out.rtm (G' := fun g => xb + 1 < g) (fun g hg => by have : wx.heap.size ≤ g := hg; omega) (fun g hg => by omega)).mod hms (fun g hg e => by have : xb + 1 < g := hg; omega))
            have HLT8 := Lib.hid ((HLT.out.imp (G' := fun g => xb + 1 < g) (fun g hg _ => hg.1)).mod hms (fun g hg e => by have : xb + 1 < g := hg; omega))
            simp only [Array.setIfInBounds, List.size_toArray, List.length_cons, List.length_nil, Nat.reduceAdd, Nat.reduceLT, ↓reduceDIte, List.set_toArray, List.set_cons_zero, List.set_cons_succ] at HX8
            clear hms
            go_wp2_with fail
            go_meet
            case rel => exact ⟨A, c, HX8, HR8, HLT8, HRT, HN8⟩
    case rest =>
      rename World => wy
      clear HX HR HN hnm HLT
      clear e0 e1 e2 e3 e4 e5 el ef
      obtain ⟨MA', mc', HX, HR, HLT, HMT2, HN⟩ := hcut
      have e0 := HX.out.cell 0
      have e1 := HX.out.cell 1
      have e2 := HX.out.cell 2
      have e3 := HX.out.cell 3
      have e4 := HX.out.cell 4
      have e5 := HX.out.cell 5
      have el := HX.out.lt
      have ef := HX.out.frozen
      simp only [List.getElem?_toArray, List.getElem?_cons_zero, List.getElem?_cons_succ] at e0 e1 e2 e3 e4 e5
      have r0 := HR.out.cell 0
      have r1 := HR.out.cell 1
      have r2 := HR.out.cell 2
      have r3 := HR.out.cell 3
      have r4 := HR.out.cell 4
      have r5 := HR.out.cell 5
      have rl := HR.out.lt
      have rf := HR.out.frozen
      simp only [List.getElem?_toArray, List.getElem?_cons_zero, List.getElem?_cons_succ] at r0 r1 r2 r3 r4 r5
      go_wp2_with fail
      refine bodyPost_ret (v := VA.val ⟨xk, xf, xn, xw, LA, xln, lc, MA', xmn, mc'⟩) (by simp [results, Tryz.results31, go_sem, r0, r1, r2, r3, r4, r5, rf]) rfl ⟨⟨xk, xf, xn, xw, LA, xln, lc, MA', xmn, mc'⟩, rfl, ?_, ?_⟩
      · have ht : Tree wy (fun g => xb + 1 < g) (d + 1) ⟨xk, xf, xn, xw, LA, xln, lc, MA', xmn, mc'⟩ (.mk xk xf xn xw vs ps) := by
          obtain ⟨xs2, a1, a2, a3⟩ := HLT.out
          obtain ⟨ms2, b1, b2, b3⟩ := HMT2.out
          exact ⟨vs, ps, rfl, ⟨xs2, a1, a2, a3⟩, ⟨ms2, b1, b2, b3⟩⟩
        refine Tree.imp (G := fun g => xb + 1 < g) (fun g hg _ => by have : xb + 1 < g := hg; omega) _ _ _ (Tree.mod (S := fun k => k = xb + 1) ?_ (fun g hg _ e => by have : xb + 1 < g := hg; omega) _ _ _ ht)
        repeat (with_reducible (first | exact Mod.refl _ _ | refine Only.set ?_ _ _))
      · repeat (with_reducible (first | exact HN.out | (refine Mod.setCell ?_ (.inr (by first | omega | (dsimp only; omega) | skip)) _)))
theorem clone_v : ∀ d, CloneSpec d
  | 0 => fun _ _ _ h => h.elim
  | d + 1 => clone_walk d (clone_v d)

end Go.Proofs.YtjfgfkbgbhbhjaaGreatDoor
