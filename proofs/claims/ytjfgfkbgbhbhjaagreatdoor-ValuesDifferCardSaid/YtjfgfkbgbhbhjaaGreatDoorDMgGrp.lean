/- Several texts in one. (1) The program: merged, members put into others. Conditions: names in order, rows bounded. (2) The program: value.Merge. Conditions: values that fit, rows bounded; utf8's tables. -/
import Derived.Test.YtjfgfkbgbhbhjaaGreatDoorDifLawGrp
import Derived.Test.YtjfgfkbgbhbhjaaGreatDoorChd
import Derived.Test.YtjfgfkbgbhbhjaaGreatDoorHeldGrp
import Derived.Test.YtjfgfkbgbhbhjaaGreatDoorValK
import Derived.Test.YtjfgfkbgbhbhjaaGreatDoorClone
import Derived.Test.YtjfgfkbgbhbhjaaGreatDoorVal9

namespace Go.Proofs.YtjfgfkbgbhbhjaaGreatDoor
open Go.RowKit
set_option linter.unusedVariables false
set_option linter.unusedSimpArgs false

def RMg (G : Nat → Prop) (d : Nat) (w : World) (r : VT) (e : Ending) (w' : World) : Prop := ∃ z : VA, e = .returned z.val ∧ Tree w' (fun g => G g ∨ w.heap.size ≤ g) d z r ∧ New w w'
def MgSpec (d : Nat) : Prop := ∀ (G : Nat → Prop) (x y : VA) (a b : VT) (m1 : Nat) (w : World), Tree w G d x a → Tree w G d y b → OwnM d a → OwnM d b → Wide m1 d a → Wide 1000 d b → m1 + 1000 * d ≤ 90000 →
  Calls Tryz.prog 29 #[x.val, y.val] w (RMg G d w (mrgP d a b))
/-- where the trees of a merged value may lie: not in the call's own boxes -/
abbrev MgG (G : Nat → Prop) (xb ob : Nat) : Nat → Prop := fun g => (G g ∧ g < xb) ∨ ob < g
/-- what the loop keeps -/
structure MgI (w : World) (xb rb ob d : Nat) (G : Nat → Prop) (L : List Mem) (A : Option Addr) (n c : Nat) (wr : World) : Prop where
  rcb : Blk wr rb 29 #[.int .i64 0, .bool false, .int .i64 0, .string ⟨#[]⟩, .slice none 0 0, .slice none 0 0]
  obb : Blk wr ob 29 #[.int .i64 5, .bool false, .int .i64 0, .string ⟨#[]⟩, .slice none 0 0, .slice A n c]
  row : ∃ ms : List MA, Own wr (ob + 1) 54 7 MA.enc A n c ms ∧ Al (TM wr (fun g => MgG G xb ob g ∧ blkOf A ≠ some g) d) ms L
  new : New w wr
  ord : w.heap.size = xb ∧ xb < rb ∧ rb < ob
theorem MgI.more {w wr w' : World} {xb rb ob d : Nat} {G : Nat → Prop} {L : List Mem} {A : Option Addr} {n c : Nat} (h : MgI w xb rb ob d G L A n c wr) (hm : New wr w') : MgI w xb rb ob d G L A n c w' := by
  obtain ⟨ms, h1, h2⟩ := h.row
  exact ⟨h.rcb.mod hm (fun e => e), h.obb.mod hm (fun e => e), ⟨ms, h1.new hm, Al.imp (fun _ _ q => ⟨q.1, q.2.new hm⟩) h2⟩, h.new.trans hm, h.ord⟩
theorem MgI.len {w wr : World} {xb rb ob d : Nat} {G : Nat → Prop} {L : List Mem} {A : Option Addr} {n c : Nat} (h : MgI w xb rb ob d G L A n c wr) : n = L.length := by
  obtain ⟨ms, h1, h2⟩ := h.row
  rw [← h2.len, h1.1]
/-- a tree that the row grows past -/
theorem tree_grow {w1 w2 : World} {GG : Nat → Prop} {A A' : Option Addr} {d : Nat} {x : VA} {v : VT} (h : Tree w1 (fun g => GG g ∧ blkOf A ≠ some g) d x v) (hm : Mod (fun k => blkOf A = some k) w1 w2) (hat : ∀ g, blkOf A' = some g → blkOf A = some g ∨ w1.heap.size ≤ g) : Tree w2 (fun g => GG g ∧ blkOf A' ≠ some g) d x v := by
  have h1 : Tree w1 (fun g => (GG g ∧ blkOf A ≠ some g) ∧ blkOf A' ≠ some g) d x v := Tree.imp (fun g hg hl => ⟨hg, fun e => by
    rcases hat g e with q | q
    · exact hg.2 q
    · omega⟩) _ _ _ h
  exact Tree.imp (fun g hg _ => ⟨hg.1.1, hg.2⟩) _ _ _ (Tree.mod hm (fun g hg _ e => hg.1.2 e) _ _ _ h1)
/-- behind a step that has put another row into out -/
theorem MgI.upd {w wr w1 w2 : World} {xb rb ob d : Nat} {G : Nat → Prop} {L L' : List Mem} {A A' : Option Addr} {n c n' c' : Nat} {ms' : List MA} (h : MgI w xb rb ob d G L A n c wr) (h1 : New wr w1) (h2 : Mod (fun k => blkOf A = some k) w1 w2)
    (ho : Own w2 (ob + 1) 54 7 MA.enc A' n' c' ms') (ha : Al (TM w2 (fun g => MgG G xb ob g ∧ blkOf A' ≠ some g) d) ms' L') :
    MgI w xb rb ob d G L' A' n' c' (w2.setCell ⟨ob, 5, none⟩ (.slice A' n' c')) := by
  obtain ⟨ms, h3, h4⟩ := h.row
  obtain ⟨o1, o2, o3⟩ := h.ord
  have hf : ∀ g, blkOf A = some g → ob + 1 ≤ g := fun g e => (h3.far' g e).1
  have hS : Only ob w2 (w2.setCell ⟨ob, 5, none⟩ (.slice A' n' c')) := Only.set (Mod.refl _ _) _ _
  have hob := ((h.obb.mod h1 (fun e => e)).mod h2 (fun e => by have := hf _ e; omega)).set 5 (.slice A' n' c')
  simp only [Array.setIfInBounds, List.size_toArray, List.length_cons, List.length_nil, Nat.reduceAdd, Nat.reduceLT, ↓reduceDIte, List.set_toArray, List.set_cons_zero, List.set_cons_succ] at hob
  refine ⟨((h.rcb.mod h1 (fun e => e)).mod h2 (fun e => by have := hf _ e; omega)).mod hS (by omega), hob, ⟨ms', ho.mod hS (fun g e => by have := (ho.far' g e).1; omega), Al.imp (fun _ _ q => ⟨q.1, Tree.mod hS (fun g hg _ e => by
    rcases hg.1 with q | q
    · omega
    · omega) _ _ _ q.2⟩) ha⟩, ?_, h.ord⟩
  exact ((h.new.trans h1).step h2 (fun i hi e => by have := hf _ e; omega)).step hS (fun i hi e => by omega)
/-- behind a step that has turned out's row alone -/
theorem MgI.upd0 {w wr w1 w2 : World} {xb rb ob d : Nat} {G : Nat → Prop} {L L' : List Mem} {A : Option Addr} {n c : Nat} {ms' : List MA} (h : MgI w xb rb ob d G L A n c wr) (h1 : New wr w1) (h2 : Mod (fun k => blkOf A = some k) w1 w2)
    (ho : Own w2 (ob + 1) 54 7 MA.enc A n c ms') (ha : Al (TM w2 (fun g => MgG G xb ob g ∧ blkOf A ≠ some g) d) ms' L') : MgI w xb rb ob d G L' A n c w2 := by
  obtain ⟨ms, h3, h4⟩ := h.row
  obtain ⟨o1, o2, o3⟩ := h.ord
  have hf : ∀ g, blkOf A = some g → ob + 1 ≤ g := fun g e => (h3.far' g e).1
  exact ⟨(h.rcb.mod h1 (fun e => e)).mod h2 (fun e => by have := hf _ e; omega), (h.obb.mod h1 (fun e => e)).mod h2 (fun e => by have := hf _ e; omega), ⟨ms', ho, ha⟩, (h.new.trans h1).step h2 (fun i hi e => by have := hf _ e; omega), h.ord⟩
set_option maxRecDepth 100000 in
set_option maxHeartbeats 700000 in
theorem merged_walk (d : Nat) (IH : MgSpec d) : MgSpec (d + 1) := by
  intro G x y a b m1 w htx hty hoa hob hwa hwb hmd
  replace htx := htx.oldG
  replace hty := hty.oldG
  obtain ⟨xl, xs, -, -, h1, h2⟩ := htx.als
  obtain ⟨yl, ys, -, -, h3, h4⟩ := hty.als
  obtain ⟨f1, -, -, -, -, f6⟩ := htx.fields
  obtain ⟨g1, -, -, -, -, g6⟩ := hty.fields
  have HL1 := Lib.hid h1
  have HL2 := Lib.hid h2
  have HL3 := Lib.hid h3
  have HL4 := Lib.hid h4
  have HTY := Lib.hid hty
  have HOW := Lib.hid (mgK_own hoa hob)
  have HWD := Lib.hid (mgK_wide (m1 := m1) (m2 := 1000) hwa hwb hob)
  have HWB := Lib.hid hwb
  have HOB := Lib.hid hob
  have hp1 := hwa.2.1
  have hp2 := hwb.2.1
  obtain ⟨xk, xf, xn, xw, xla, xln, xlc, xma, xmn, xmc⟩ := x
  obtain ⟨yk, yf, yn, yw, yla, yln, ylc, yma, ymn, ymc⟩ := y
  simp only at f1 g1 f6 g6 HL1 HL3
  have HF1 := Lib.hid f1
  have HG1 := Lib.hid g1
  have HF6 := Lib.hid f6
  have HG6 := Lib.hid g6
  have hxmn : xmn ≤ 90000 := by omega
  have hymn : ymn ≤ 1000 := by omega
  clear htx hty hoa hob hwa hwb h1 h2 h3 h4 f1 g1 f6 g6 hp1 hp2
  have hx := Blk.new w 29 #[.int .i64 xk, .bool xf, .int .i64 xn, .string xw, .slice xla xln xlc, .slice xma xmn xmc]
  have hm1 : New w (w.alloc (.cells #[.int .i64 xk, .bool xf, .int .i64 xn, .string xw, .slice xla xln xlc, .slice xma xmn xmc] 29)) := (Mod.refl _ _).alloc _
  have z1 : (w.alloc (.cells #[.int .i64 xk, .bool xf, .int .i64 xn, .string xw, .slice xla xln xlc, .slice xma xmn xmc] 29)).heap.size = w.heap.size + 1 := by simp
  go_enter Tryz.func29, Tryz.ntmps29
  go_upto_region 1 with (fail)
  generalize w.alloc (.cells #[.int .i64 xk, .bool xf, .int .i64 xn, .string xw, .slice xla xln xlc, .slice xma xmn xmc] 29) = w1 at *
  have hy := Blk.new w1 29 #[.int .i64 yk, .bool yf, .int .i64 yn, .string yw, .slice yla yln ylc, .slice yma ymn ymc]
  have hm2 : New w1 (w1.alloc (.cells #[.int .i64 yk, .bool yf, .int .i64 yn, .string yw, .slice yla yln ylc, .slice yma ymn ymc] 29)) := (Mod.refl _ _).alloc _
  have z2 : (w1.alloc (.cells #[.int .i64 yk, .bool yf, .int .i64 yn, .string yw, .slice yla yln ylc, .slice yma ymn ymc] 29)).heap.size = w.heap.size + 1 + 1 := by simp [z1]
  rw [z1] at hy
  generalize w1.alloc (.cells #[.int .i64 yk, .bool yf, .int .i64 yn, .string yw, .slice yla yln ylc, .slice yma ymn ymc] 29) = w2 at *
  have hz := Blk.new w2 29 #[.int .i64 0, .bool false, .int .i64 0, .string ⟨#[]⟩, .slice none 0 0, .slice none 0 0]
  have hm3 : New w2 (w2.alloc (.cells #[.int .i64 0, .bool false, .int .i64 0, .string ⟨#[]⟩, .slice none 0 0, .slice none 0 0] 29)) := (Mod.refl _ _).alloc _
  have z3 : (w2.alloc (.cells #[.int .i64 0, .bool false, .int .i64 0, .string ⟨#[]⟩, .slice none 0 0, .slice none 0 0] 29)).heap.size = w.heap.size + 1 + 1 + 1 := by simp [z2]
  rw [z2] at hz
  generalize w2.alloc (.cells #[.int .i64 0, .bool false, .int .i64 0, .string ⟨#[]⟩, .slice none 0 0, .slice none 0 0] 29) = w3 at *
  have HX := Lib.hid ((hx.mod hm2 (fun e => e)).mod hm3 (fun e => e))
  have HY := Lib.hid (hy.mod hm3 (fun e => e))
  have HR := Lib.hid hz
  have HM := Lib.hid ((hm1.trans hm2).trans hm3)
  have HZ3 := Lib.hid z3
  clear hx hy hz hm1 hm2 hm3 z1 z2 z3
  generalize hxb : w.heap.size = xb at *
  generalize hyb : xb + 1 = yb at *
  generalize hrb : yb + 1 = rb at *
  have HXB : Hid (w.heap.size = xb ∧ xb < rb ∧ yb < rb ∧ xb < yb ∧ w3.heap.size = rb + 1) := Lib.hid ⟨hxb, by omega, by omega, by omega, HZ3.out⟩
  clear hxb hyb hrb HZ3
  by_cases hk : yk = 5
  rotate_left
  · have hkb : (yk != 5) = true := by simpa using hk
    have HEQ : Hid (mrgP (d + 1) a b = b) := Lib.hid (mrgP_other (by rw [HG1.out]; exact hk))
    clear hk
    have e0 := HY.out.cell 0
    have e1 := HY.out.cell 1
    have e2 := HY.out.cell 2
    have e3 := HY.out.cell 3
    have e4 := HY.out.cell 4
    have e5 := HY.out.cell 5
    have el := HY.out.lt
    have ef := HY.out.frozen
    simp only [List.getElem?_toArray, List.getElem?_cons_zero, List.getElem?_cons_succ] at e0 e1 e2 e3 e4 e5
    have r0 := HR.out.cell 0
    have r1 := HR.out.cell 1
    have r2 := HR.out.cell 2
    have r3 := HR.out.cell 3
    have r4 := HR.out.cell 4
    have r5 := HR.out.cell 5
    have rl := HR.out.lt
    have rf := HR.out.frozen
    simp only [List.getElem?_toArray, List.getElem?_cons_zero, List.getElem?_cons_succ] at r0 r1 r2 r3 r4 r5
    go_wp2_with fail
    clear e0 e1 e2 e3 e4 e5 el ef r0 r1 r2 r3 r4 r5 rl rf
    have HRN := Lib.hid (Blk.copy6 HR.out (.int .i64 yk) (.bool yf) (.int .i64 yn) (.string yw) (.slice yla yln ylc) (.slice yma ymn ymc))
    have HMN := Lib.hid (Only.cell6 w3 rb (.int .i64 yk) (.bool yf) (.int .i64 yn) (.string yw) (.slice yla yln ylc) (.slice yma ymn ymc))
    generalize (((((w3.setCell ⟨rb, 0, none⟩ (.int .i64 yk)).setCell ⟨rb, 1, none⟩ (.bool yf)).setCell ⟨rb, 2, none⟩ (.int .i64 yn)).setCell ⟨rb, 3, none⟩ (.string yw)).setCell ⟨rb, 4, none⟩ (.slice yla yln ylc)).setCell ⟨rb, 5, none⟩ (.slice yma ymn ymc) = w4 at *
    have r0 := HRN.out.cell 0
    have r1 := HRN.out.cell 1
    have r2 := HRN.out.cell 2
    have r3 := HRN.out.cell 3
    have r4 := HRN.out.cell 4
    have r5 := HRN.out.cell 5
    have rl := HRN.out.lt
    have rf := HRN.out.frozen
    simp only [List.getElem?_toArray, List.getElem?_cons_zero, List.getElem?_cons_succ] at r0 r1 r2 r3 r4 r5
    refine bodyPost_ret (v := VA.val ⟨yk, yf, yn, yw, yla, yln, ylc, yma, ymn, ymc⟩) (by simp [results, Tryz.results29, go_sem, r0, r1, r2, r3, r4, r5, rl, rf]) rfl ?_
    refine ⟨_, rfl, ?_, HM.out.step HMN.out (fun i hi e => by have := HXB.out; omega)⟩
    rw [HEQ.out]
    exact Tree.imp (fun g hg _ => .inl hg.1) _ _ _ (Tree.mod HMN.out (fun g hg _ e => by have := HXB.out; have := hg.2; omega) _ _ _ (HTY.out.new HM.out))
  have hkb : (yk != 5) = false := by simpa using hk
  have HEQ : Hid (mrgP (d + 1) a b = .mk 5 false 0 ⟨#[]⟩ [] (mgK d a b b.mem.length)) := Lib.hid (mrgP_eq (by rw [HG1.out]; exact hk))
  clear hk
  have bo := Blk.new w3 29 #[.int .i64 5, .bool false, .int .i64 0, .string ⟨#[]⟩, .slice none 0 0, .slice none 0 0]
  have mo : New w3 (w3.alloc (.cells #[.int .i64 5, .bool false, .int .i64 0, .string ⟨#[]⟩, .slice none 0 0, .slice none 0 0] 29)) := (Mod.refl _ _).alloc _
  have e0 := HY.out.cell 0
  have e1 := HY.out.cell 1
  have e2 := HY.out.cell 2
  have e3 := HY.out.cell 3
  have e4 := HY.out.cell 4
  have e5 := HY.out.cell 5
  have el := HY.out.lt
  have ef := HY.out.frozen
  simp only [List.getElem?_toArray, List.getElem?_cons_zero, List.getElem?_cons_succ] at e0 e1 e2 e3 e4 e5
  go_upto_region 4 with (fail)
  clear e0 e1 e2 e3 e4 e5 el ef
  generalize w3.alloc (.cells #[.int .i64 5, .bool false, .int .i64 0, .string ⟨#[]⟩, .slice none 0 0, .slice none 0 0] 29) = w4 at *
  generalize hob : w3.heap.size = ob at *
  have HX4 := Lib.hid (HX.out.mod mo (fun e => e))
  have HY4 := Lib.hid (HY.out.mod mo (fun e => e))
  have HO4 := Lib.hid bo
  have HR4 := Lib.hid (HR.out.mod mo (fun e => e))
  have HM4 := Lib.hid (HM.out.trans mo)
  have HOB2 : Hid (rb < ob ∧ ob < w4.heap.size) := Lib.hid ⟨by have := HXB.out; omega, bo.lt⟩
  clear HX HY HR HM mo bo hob
  have HMG : Hid (∀ x v, Tree w (fun g => G g ∧ g < xb) d x v → ∀ A' : Option Addr, (∀ g, blkOf A' = some g → xb ≤ g) → Tree w (fun g => MgG G xb ob g ∧ blkOf A' ≠ some g) d x v) := Lib.hid (fun x v h A' hA => Tree.imp (fun g hg _ => ⟨.inl hg, fun e => by have := hA g e; have := hg.2; omega⟩) _ _ _ h)
  obtain ⟨x5, hx5⟩ : ∃ q, (xk == 5) = q := ⟨_, rfl⟩
  have e0 := HX4.out.cell 0
  have e1 := HX4.out.cell 1
  have e2 := HX4.out.cell 2
  have e3 := HX4.out.cell 3
  have e4 := HX4.out.cell 4
  have e5 := HX4.out.cell 5
  have el := HX4.out.lt
  have ef := HX4.out.frozen
  simp only [List.getElem?_toArray, List.getElem?_cons_zero, List.getElem?_cons_succ] at e0 e1 e2 e3 e4 e5
  go_upto_if 17 with (fail)
  clear e0 e1 e2 e3 e4 e5 el ef
  go_cut [] (fun wx => ∃ (A1 : Option Addr) (n1 c1 : Nat), Hid (Blk wx yb 29 #[.int .i64 yk, .bool yf, .int .i64 yn, .string yw, .slice yla yln ylc, .slice yma ymn ymc]) ∧ Hid (MgI w xb rb ob d G (mgK d a b 0) A1 n1 c1 wx))
  case first =>
    cases x5 with
    | true =>
      have HK0 : Hid (mgK d a b 0 = a.mem) := Lib.hid (by unfold mgK mg0; rw [List.take_zero, List.foldl_nil, if_pos (by rw [HF1.out]; simpa using hx5)])
      clear hx5
      have hcl := cloneMA xs xma xmn xmc w4 (HL1.out.sl.new HM4.out) (by omega)
      have e0 := HX4.out.cell 0
      have e1 := HX4.out.cell 1
      have e2 := HX4.out.cell 2
      have e3 := HX4.out.cell 3
      have e4 := HX4.out.cell 4
      have e5 := HX4.out.cell 5
      have el := HX4.out.lt
      have ef := HX4.out.frozen
      simp only [List.getElem?_toArray, List.getElem?_cons_zero, List.getElem?_cons_succ] at e0 e1 e2 e3 e4 e5
      go_wp2_with fail
      clear e0 e1 e2 e3 e4 e5 el ef
      refine hcl.mono ?_
      clear hcl
      rintro e w5 ⟨A5, c5, rfl, own5, m5⟩
      have HO5 := Lib.hid (HO4.out.mod m5 (fun e => e))
      have HOWN5 := Lib.hid own5
      have HM5 := Lib.hid m5
      have hfar := own5.far'
      have e4 := HO5.out.cell 5
      have el := HO5.out.lt
      have ef := HO5.out.frozen
      simp only [List.getElem?_toArray, List.getElem?_cons_zero, List.getElem?_cons_succ] at e4
      clear m5 own5
      go_wp2_with fail
      go_meet
      case rel =>
        have h1 := HXB.out
        have h2 := HOB2.out
        have hbase : MgI w xb rb ob d G [] none 0 0 w4 := ⟨HR4.out, HO4.out, ⟨[], Own.nil, trivial⟩, HM4.out, by omega⟩
        have hown : Own w5 (ob + 1) 54 7 MA.enc A5 xmn c5 xs := HOWN5.out.less (by omega)
        refine ⟨A5, xmn, c5, Lib.hid ?_, Lib.hid ?_⟩
        · exact (HY4.out.mod HM5.out (fun e => e)).mod (Only.set (Mod.refl _ _) _ _) (by omega)
        · rw [HK0.out]
          exact hbase.upd HM5.out (Mod.refl _ _) hown (Al.imp (fun m p q => ⟨q.1, (HMG.out _ _ q.2 A5 (fun g e => by have := (hfar g e).1; have := HM4.out.size; omega)).new (HM4.out.trans HM5.out)⟩) HL2.out)
    | false =>
      have HK0 : Hid (mgK d a b 0 = []) := Lib.hid (by unfold mgK mg0; rw [List.take_zero, List.foldl_nil, if_neg (by rw [HF1.out]; simpa using hx5)])
      clear hx5
      go_wp2_with fail
      go_meet
      case rel => exact ⟨none, 0, 0, HY4, Lib.hid ⟨HR4.out, HO4.out, ⟨[], Own.nil, by rw [HK0.out]; trivial⟩, HM4.out, by have h1 := HXB.out; have h2 := HOB2.out; omega⟩⟩
  case rest =>
    rename World => w6
    obtain ⟨A1, n1, c1, HYB, HI⟩ := hcut
    have HYR := Lib.hid HYB.out
    have e0 := HYB.out.cell 0
    have e1 := HYB.out.cell 1
    have e2 := HYB.out.cell 2
    have e3 := HYB.out.cell 3
    have e4 := HYB.out.cell 4
    have e5 := HYB.out.cell 5
    have el := HYB.out.lt
    have ef := HYB.out.frozen
    simp only [List.getElem?_toArray, List.getElem?_cons_zero, List.getElem?_cons_succ] at e0 e1 e2 e3 e4 e5
    go_wp2_with fail
    clear e0 e1 e2 e3 e4 e5 el ef HX4 HY4 HO4 HR4 HM4 HYB HYR HMG
    go_loopw [25] (fun i wr => ∃ (k : Nat) (A1 : Option Addr) (n1 c1 : Nat), k ≤ ymn ∧ i = .int .i64 k ∧ Hid (MgI w xb rb ob d G (mgK d a b k) A1 n1 c1 wr)) (fun i _ => ymn - (intOf i).toNat)
    case atStart => exact ⟨0, _, _, _, Nat.zero_le _, rfl, HI⟩
    clear HI
    case round =>
      rename World => wr
      obtain ⟨k, A1, n1, c1, hk, rfl, HI⟩ := hrel
      by_cases hlt : k < ymn
      · have hkx : k < ys.length := by have := HL3.out.1; omega
        have hkv : k < b.mem.length := by have := HG6.out; omega
        obtain ⟨g2, o2, hA2, htb, hc0⟩ := (HL3.out.sl.new HI.out.new).2 (by omega)
        subst hA2
        have hgl := htb.lt
        have hty := HL4.out.get k hkx hkv
        have hc := fun q (hq : q < 7) => hc0 k hkx q hq
        have HNX := Lib.hid (mgK_next d a b hkv)
        have HOWB := Lib.hid (HOB.out.2.2 _ (List.getElem_mem hkv))
        have HWDB := Lib.hid (HWB.out.2.2.2.2 _ (List.getElem_mem hkv)).2
        have HLE : Hid ((mgK d a b k).length ≤ 100000) := Lib.hid (by
          have h1 := mgK_len d a b k
          have h2 := HF6.out
          have h3 := HG6.out
          omega)
        have HNM := Lib.hid hty.1
        have HTM := Lib.hid hty.2
        have HKD := Lib.hid hty.2.fields.1
        clear hc0 htb hty
        generalize ys[k] = z at *
        generalize b.mem[k] = mb at *
        obtain ⟨zn0, zk, zf, zn, zw, zla, zln, zlc, zma, zmn, zmc⟩ := z
        obtain ⟨nm, vb⟩ := mb
        simp only at HNM HKD
        obtain rfl : zn0 = nm := HNM.out
        have b0 := hc 0 (by omega)
        have b1 := hc 1 (by omega)
        have b2 := hc 2 (by omega)
        have b3 := hc 3 (by omega)
        have b4 := hc 4 (by omega)
        have b5 := hc 5 (by omega)
        have b6 := hc 6 (by omega)
        simp only [MA.enc, VA.enc, Nat.add_zero, Nat.zero_add] at b0 b1 b2 b3 b4 b5 b6
        clear hc HNM
        have hb2 : (0 : Int) ≤ k := by omega
        have hb3 : (k : Int) < ymn := by omega
        have m5 : New wr (wr.alloc (.cells #[.string zn0, .int .i64 zk, .bool zf, .int .i64 zn, .string zw, .slice zla zln zlc, .slice zma zmn zmc] 54)) := (Mod.refl _ _).alloc _
        have hlb := Blk.new wr 54 #[.string zn0, .int .i64 zk, .bool zf, .int .i64 zn, .string zw, .slice zla zln zlc, .slice zma zmn zmc]
        go_upto_region 9 with (fail)
        generalize wr.alloc (.cells #[.string zn0, .int .i64 zk, .bool zf, .int .i64 zn, .string zw, .slice zla zln zlc, .slice zma zmn zmc] 54) = w5 at *
        have HI5 := Lib.hid (HI.out.more m5)
        have HLB := Lib.hid hlb
        have HFM : Hid (∀ g, blkOf A1 = some g → ob + 1 ≤ g ∧ g < wr.heap.size) := Lib.hid (fun g e => by
          obtain ⟨ms, h3, -⟩ := HI.out.row
          have h4 := h3.far' g e
          exact ⟨h4.1, h4.2.1⟩)
        clear b0 b1 b2 b3 b4 b5 b6 hgl hlb m5 HI
        generalize hlbn : wr.heap.size = lb at *
        clear hlbn
        have hma : Calls Tryz.prog 64 #[.slice A1 n1 c1, .string zn0] w5 (RPlace (mgK d a b k) zn0 w5) := by
          obtain ⟨ms, h3, h4⟩ := HI5.out.row
          exact memberAt_v A1 n1 c1 ms (mgK d a b k) zn0 w5 h3.sl HI5.out.len.symm (fun i h h' => (h4.get i h h').1) (HOW.out k).1 (by have := HI5.out.len; have := HLE.out; omega)
        have d0 := HLB.out.cell 0
        have dl := HLB.out.lt
        have o5 := HI5.out.obb.cell 5
        have ol := HI5.out.obb.lt
        simp only [List.getElem?_toArray, List.getElem?_cons_zero, List.getElem?_cons_succ] at d0 o5
        go_wp2_with fail
        clear d0 dl o5 ol
        refine hma.mono ?_
        clear hma
        rintro e w7 ⟨rfl, m7⟩
        have HI7 := Lib.hid (HI5.out.more m7)
        have HLB7 := Lib.hid (HLB.out.mod m7 (fun e => e))
        clear HI5 HLB m7
        obtain ⟨LK, hLK⟩ : ∃ l, mgK d a b k = l := ⟨_, rfl⟩
        have HLK := Lib.hid hLK
        rw [hLK] at HNX HLE HI7
        have hn1 := HI7.out.len
        have HN1 := Lib.hid hn1
        have hn9 : n1 ≤ 100000 := by have := HLE.out; omega
        simp only [hLK]
        clear hn1 hLK
        have hd1 : ∃ d', d = d' + 1 := by
          cases d with
          | zero => exact HTM.out.elim
          | succ d' => exact ⟨d', rfl⟩
        have HYT : Hid (∀ W, New w W → Tree W (fun g => MgG G xb ob g ∧ blkOf A1 ≠ some g) d ⟨zk, zf, zn, zw, zla, zln, zlc, zma, zmn, zmc⟩ vb) := Lib.hid (fun W h => Tree.new (Tree.imp (fun g hg _ => ⟨.inl ⟨hg.1, by have := HXB.out.1; have := hg.2; omega⟩, fun e => by have := (HFM.out g e).1; have := HOB2.out.1; have := HXB.out; have := hg.2; omega⟩) _ _ _ HTM.out) h)
        by_cases hzk : zk = 0
        · have hzb : (zk == 0) = true := by simpa using hzk
          have hvk : vb.kind = 0 := by rw [HKD.out]; exact hzk
          have HVK := Lib.hid hvk
          clear hzk hvk
          cases hh : hasAt LK zn0 with
          | false =>
            have HNE : Hid (mgK d a b (k + 1) = LK) := Lib.hid (by rw [HNX.out]; exact mrgSP_none HVK.out hh)
            clear hh
            have d1 := HLB7.out.cell 1
            have dl := HLB7.out.lt
            simp only [List.getElem?_toArray, List.getElem?_cons_zero, List.getElem?_cons_succ] at d1
            go_wp2_with fail
            clear d1 dl
            go_roundw
            case rel => exact ⟨k + 1, _, _, _, by omega, by go_num, Lib.hid (by rw [HNE.out]; exact HI7.out)⟩
            case measure => simp [intOf]; omega
          | true =>
            obtain ⟨hq, -⟩ := hasAt_lt hh
            have HNE : Hid (mgK d a b (k + 1) = LK.take (place LK zn0) ++ LK.drop (place LK zn0 + 1)) := Lib.hid (by rw [HNX.out]; exact mrgSP_del HVK.out hh)
            clear hh
            have hpl : place LK zn0 < n1 := by have := HN1.out; omega
            clear hq
            generalize place LK zn0 = PL at *
            obtain ⟨ms, hown, hal⟩ := HI7.out.row
            obtain ⟨g, hA, -, -, -, -⟩ := hown.form (by omega)
            subst hA
            have hdel := delete_ma w7 (ob + 1) g n1 c1 PL ms hown hpl (by omega)
            have HAL := Lib.hid hal
            have HOWN := Lib.hid hown
            clear hal hown
            have d1 := HLB7.out.cell 1
            have dl := HLB7.out.lt
            have o5 := HI7.out.obb.cell 5
            have ol := HI7.out.obb.lt
            simp only [List.getElem?_toArray, List.getElem?_cons_zero, List.getElem?_cons_succ] at d1 o5
            have hpl2 : (PL : Int) < n1 := by omega
            go_wp2_with fail
            clear d1 dl o5 ol
            refine hdel.mono ?_
            clear hdel
            rintro e w8 ⟨rfl, own8, o8⟩
            have HO8 := Lib.hid own8
            have HM8 : Hid (Mod (fun q => blkOf (some (⟨g, 0, none⟩ : Addr)) = some q) w7 w8) := Lib.hid (o8.mono (fun _ _ e => by subst e; rfl))
            have HOX : Hid (Blk w8 ob 29 #[.int .i64 5, .bool false, .int .i64 0, .string ⟨#[]⟩, .slice none 0 0, .slice (some ⟨g, 0, none⟩) n1 c1]) := Lib.hid (HI7.out.obb.mod HM8.out (fun e => by have := (HFM.out _ e).1; omega))
            have o5 := HOX.out.cell 5
            have ol := HOX.out.lt
            have of := HOX.out.frozen
            simp only [List.getElem?_toArray, List.getElem?_cons_zero, List.getElem?_cons_succ] at o5
            clear own8 o8
            go_wp2_with fail
            clear o5 ol of
            go_roundw
            case rel =>
              refine ⟨k + 1, some ⟨g, 0, none⟩, (ms.eraseIdx PL).length, c1, by omega, by go_num, Lib.hid ?_⟩
              rw [HNE.out]
              exact HI7.out.upd (Mod.refl _ _) HM8.out HO8.out (Al.imp (fun m p q => ⟨q.1, tree_grow q.2 HM8.out (fun g e => .inl e)⟩) (HAL.out.cut PL))
            case measure => simp [intOf]; omega
        · have hzb : (zk == 0) = false := by simpa using hzk
          have hvk : vb.kind ≠ 0 := by rw [HKD.out]; exact hzk
          have HVK := Lib.hid hvk
          clear hzk hvk
          have HSL : Hid (∀ W, Mod (fun q => blkOf A1 = some q) w7 W → W.cell? ⟨lb, 0, none⟩ = some (.string zn0) ∧ W.cell? ⟨lb, 1, none⟩ = some (.int .i64 zk) ∧ W.cell? ⟨lb, 2, none⟩ = some (.bool zf) ∧ W.cell? ⟨lb, 3, none⟩ = some (.int .i64 zn) ∧ W.cell? ⟨lb, 4, none⟩ = some (.string zw) ∧ W.cell? ⟨lb, 5, none⟩ = some (.slice zla zln zlc) ∧ W.cell? ⟨lb, 6, none⟩ = some (.slice zma zmn zmc) ∧ W.cell? ⟨ob, 5, none⟩ = some (.slice A1 n1 c1) ∧ lb < W.heap.size ∧ ob < W.heap.size) := Lib.hid (fun W hW => by
            have h1 := HLB7.out.mod hW (fun e => by have := (HFM.out _ e).2; omega)
            have h2 := HI7.out.obb.mod hW (fun e => by have := (HFM.out _ e).1; omega)
            exact ⟨(h1.cell 0).trans rfl, (h1.cell 1).trans rfl, (h1.cell 2).trans rfl, (h1.cell 3).trans rfl, (h1.cell 4).trans rfl, (h1.cell 5).trans rfl, (h1.cell 6).trans rfl, (h2.cell 5).trans rfl, h1.lt, h2.lt⟩)
          have d1 := HLB7.out.cell 1
          have dl := HLB7.out.lt
          simp only [List.getElem?_toArray, List.getElem?_cons_zero, List.getElem?_cons_succ] at d1
          have HG1F : Hid (∀ W, New w7 W → ∀ g, W.heap.size ≤ g → MgG G xb ob g ∧ blkOf A1 ≠ some g) := Lib.hid (fun W h g hg => ⟨.inr (by have := HI7.out.obb.lt; have := h.size; omega), fun e => by have := (HFM.out g e).2; have := HLB7.out.lt; have := h.size; omega⟩)
          cases hh : hasAt LK zn0 with
          | false =>
            have HNE : Hid (mgK d a b (k + 1) = LK.take (place LK zn0) ++ (zn0, mrgP d nilV vb) :: LK.drop (place LK zn0)) := Lib.hid (by rw [HNX.out]; exact mrgSP_ins HVK.out hh)
            clear hh
            have hpl : place LK zn0 ≤ n1 := by have := HN1.out; have := place_le LK zn0; omega
            have HCALL := Lib.hid (fun W (h : New w7 W) => IH (fun g => MgG G xb ob g ∧ blkOf A1 ≠ some g) nilVA ⟨zk, zf, zn, zw, zla, zln, zlc, zma, zmn, zmc⟩ nilV vb 0 W (by obtain ⟨d', rfl⟩ := hd1; exact nil_tree _ _ _) (HYT.out W (HI7.out.new.trans h)) (OwnM.nil d) HOWB.out (wide_nil _ _) HWDB.out (by omega))
            generalize place LK zn0 = PL at *
            go_upto_region 10 with (fail)
            clear d1 dl
            refine wp_region_held_tree (Mod (fun q => blkOf A1 = some q) w7) 12 (by kernel_rfl) (by kernel_rfl) ?_
            have hn1 : New w7 w7.drew := (Mod.refl _ _).drew
            have hs1 : Mod (fun q => blkOf A1 = some q) w7 w7.drew := (Mod.refl _ _).drew
            refine headW_take 0 _ ?_ (fun _ _ d _ _ h => by cases d <;> exact h) (by kernel_rfl) rfl (by kernel_rfl) hs1 (by rfl) (fun W hSw => ?_) ?_
            rotate_left
            · (have hq := HSL.out W hSw); (try simp only [List.getElem_toArray, List.getElem_cons_zero, List.getElem_cons_succ]); go_simp; any_goals (with_reducible rfl)
            simp only [Act.put, List.getElem_toArray, List.getElem_cons_zero, List.getElem_cons_succ, List.setIfInBounds_toArray, List.set_cons_zero, List.set_cons_succ]
            refine headW_take 1 _ ?_ (fun _ _ d _ _ h => by cases d <;> exact h) (by kernel_rfl) rfl (by kernel_rfl) hs1 (by rfl) (fun W hSw => ?_) ?_
            rotate_left
            · (have hq := HSL.out W hSw); (try simp only [List.getElem_toArray, List.getElem_cons_zero, List.getElem_cons_succ]); go_simp; any_goals (with_reducible rfl)
            simp only [Act.put, List.getElem_toArray, List.getElem_cons_zero, List.getElem_cons_succ, List.setIfInBounds_toArray, List.set_cons_zero, List.set_cons_succ]
            refine headW_take 2 _ ?_ (fun _ _ d _ _ h => by cases d <;> exact h) (by kernel_rfl) rfl (by kernel_rfl) hs1 (by rfl) (fun W hSw => ?_) ?_
            rotate_left
            · (have hq := HSL.out W hSw); (try simp only [List.getElem_toArray, List.getElem_cons_zero, List.getElem_cons_succ]); go_simp; any_goals (with_reducible rfl)
            simp only [Act.put, List.getElem_toArray, List.getElem_cons_zero, List.getElem_cons_succ, List.setIfInBounds_toArray, List.set_cons_zero, List.set_cons_succ]
            refine headW_take 3 _ ?_ (fun _ _ d _ _ h => by cases d <;> exact h) (by kernel_rfl) rfl (by kernel_rfl) hs1 (by rfl) (fun W hSw => ?_) ?_
            rotate_left
            · (have hq := HSL.out W hSw); (try simp only [List.getElem_toArray, List.getElem_cons_zero, List.getElem_cons_succ]); go_simp; any_goals (with_reducible rfl)
            simp only [Act.put, List.getElem_toArray, List.getElem_cons_zero, List.getElem_cons_succ, List.setIfInBounds_toArray, List.set_cons_zero, List.set_cons_succ]
            refine headW_take 4 _ ?_ (fun _ _ d _ _ h => by cases d <;> exact h) (by kernel_rfl) rfl (by kernel_rfl) hs1 (by rfl) (fun W hSw => ?_) ?_
            rotate_left
            · (have hq := HSL.out W hSw); (try simp only [List.getElem_toArray, List.getElem_cons_zero, List.getElem_cons_succ]); go_simp; any_goals (with_reducible rfl)
            simp only [Act.put, List.getElem_toArray, List.getElem_cons_zero, List.getElem_cons_succ, List.setIfInBounds_toArray, List.set_cons_zero, List.set_cons_succ]
            refine headW_take 5 _ ?_ (fun _ _ d _ _ h => by cases d <;> exact h) (by kernel_rfl) rfl (by kernel_rfl) hs1 (by rfl) (fun W hSw => ?_) ?_
            rotate_left
            · (have hq := HSL.out W hSw); (try simp only [List.getElem_toArray, List.getElem_cons_zero, List.getElem_cons_succ]); go_simp; any_goals (with_reducible rfl)
            simp only [Act.put, List.getElem_toArray, List.getElem_cons_zero, List.getElem_cons_succ, List.setIfInBounds_toArray, List.set_cons_zero, List.set_cons_succ]
            refine headW_take 6 _ ?_ (fun _ _ d _ _ h => by cases d <;> exact h) (by kernel_rfl) rfl (by kernel_rfl) hs1 (by rfl) (fun W hSw => ?_) ?_
            rotate_left
            · (have hq := HSL.out W hSw); (try simp only [List.getElem_toArray, List.getElem_cons_zero, List.getElem_cons_succ]); go_simp; any_goals (with_reducible rfl)
            simp only [Act.put, List.getElem_toArray, List.getElem_cons_zero, List.getElem_cons_succ, List.setIfInBounds_toArray, List.set_cons_zero, List.set_cons_succ]
            refine headW_take 7 _ ?_ (fun _ _ d _ _ h => by cases d <;> exact h) (by kernel_rfl) rfl (by kernel_rfl) hs1 (by rfl) (fun W hSw => ?_) ?_
            rotate_left
            · (have hq := HSL.out W hSw); (try simp only [List.getElem_toArray, List.getElem_cons_zero, List.getElem_cons_succ]); go_simp; any_goals (with_reducible rfl)
            simp only [Act.put, List.getElem_toArray, List.getElem_cons_zero, List.getElem_cons_succ, List.setIfInBounds_toArray, List.set_cons_zero, List.set_cons_succ]
            refine headW_ready [8] (by kernel_rfl) (by rfl) ?_
            refine eachW_step rfl rfl (fun K hK => ?_) eachW_nil
            have hcall := HCALL.out _ hn1
            (try simp only [List.getElem_toArray, List.getElem_cons_zero, List.getElem_cons_succ])
            go_simp
            refine hcall.mono ?_
            clear hcall HCALL
            rintro e w8 ⟨⟨rk, rff, rn, rw_, rla, rln, rlc, rma, rmn, rmc⟩, rfl, tr8, m8⟩
            have HN8 := Lib.hid (hn1.trans m8)
            have HT8 : Hid (Tree w8 (fun g => MgG G xb ob g ∧ blkOf A1 ≠ some g) d ⟨rk, rff, rn, rw_, rla, rln, rlc, rma, rmn, rmc⟩ (mrgP d nilV vb)) := Lib.hid (Tree.imp (fun g hg _ => by
              rcases hg with hg | hg
              · exact hg
              · exact HG1F.out _ hn1 g hg) _ _ _ tr8)
            clear tr8 m8
            go_wp2_with fail
            refine hK.out _ _ (HN8.out.mono (fun _ _ e => e.elim)) (fun _ => ?_)
            clear hK K
            (try simp only [Act.put, List.getElem_toArray, List.getElem_cons_zero, List.getElem_cons_succ, List.setIfInBounds_toArray, List.set_cons_zero, List.set_cons_succ])
            have hs8 : Mod (fun q => blkOf A1 = some q) w7 w8 := HN8.out.mono (fun _ _ e => e.elim)
            refine headW_take 9 _ ?_ (fun _ _ d _ _ h => by cases d <;> exact h) (by kernel_rfl) rfl (by kernel_rfl) hs8 (by rfl) (fun W hSw => ?_) ?_
            rotate_left
            · (have hq := HSL.out W hSw); (try simp only [List.getElem_toArray, List.getElem_cons_zero, List.getElem_cons_succ]); go_simp; any_goals (with_reducible rfl)
            simp only [Act.put, List.getElem_toArray, List.getElem_cons_zero, List.getElem_cons_succ, List.setIfInBounds_toArray, List.set_cons_zero, List.set_cons_succ]
            refine headW_ready [10] (by kernel_rfl) (by rfl) ?_
            refine eachW_step rfl rfl (fun K hK => ?_) eachW_nil
            have m9 : New w8 (w8.alloc (.cells #[.string zn0, .int .i64 rk, .bool rff, .int .i64 rn, .string rw_, .slice rla rln rlc, .slice rma rmn rmc] 54)) := (Mod.refl _ _).alloc _
            have b9 : Blk (w8.alloc (.cells #[.string zn0, .int .i64 rk, .bool rff, .int .i64 rn, .string rw_, .slice rla rln rlc, .slice rma rmn rmc] 54)) w8.heap.size 54 (encL 7 MA.enc ⟨zn0, ⟨rk, rff, rn, rw_, rla, rln, rlc, rma, rmn, rmc⟩⟩).toArray := Blk.new _ _ _
            have HB9 := Lib.hid b9
            have HN9 := Lib.hid (HN8.out.trans m9)
            have HT9 := Lib.hid (HT8.out.new m9)
            have HBN : Hid (blkOf A1 ≠ some w8.heap.size) := Lib.hid (fun e => by have := (HFM.out _ e).2; have := HLB7.out.lt; have := HN8.out.size; omega)
            clear m9 b9
            (try simp only [List.getElem_toArray, List.getElem_cons_zero, List.getElem_cons_succ])
            go_simp
            refine hK.out _ _ (HN9.out.mono (fun _ _ e => e.elim)) (fun _ => ?_)
            clear hK K HT8 HN8 hs8
            (try simp only [Act.put, List.getElem_toArray, List.getElem_cons_zero, List.getElem_cons_succ, List.setIfInBounds_toArray, List.set_cons_zero, List.set_cons_succ])
            generalize w8.alloc (.cells #[.string zn0, .int .i64 rk, .bool rff, .int .i64 rn, .string rw_, .slice rla rln rlc, .slice rma rmn rmc] 54) = w9 at *
            generalize w8.heap.size = bi at *
            obtain ⟨ms, hown, hal⟩ := (HI7.out.more HN9.out).row
            have HAL := Lib.hid hal
            have hle9 : ob + 1 ≤ w9.heap.size := by have := HI7.out.obb.lt; have := HN9.out.size; omega
            have hins := insert_ma w9 (ob + 1) A1 n1 c1 PL ms ⟨zn0, ⟨rk, rff, rn, rw_, rla, rln, rlc, rma, rmn, rmc⟩⟩ bi hown HB9.out HBN.out hle9 hpl (by omega)
            clear hown hal
            refine headW_ready [11] (by kernel_rfl) (by rfl) ?_
            refine eachW_step rfl rfl (fun K hK => ?_) eachW_nil
            obtain ⟨NR, hNR⟩ : ∃ l, (ms.take PL ++ (⟨zn0, ⟨rk, rff, rn, rw_, rla, rln, rlc, rma, rmn, rmc⟩⟩ : MA) :: ms.drop PL) = l := ⟨_, rfl⟩
            rw [hNR] at hins
            have HNR := Lib.hid hNR
            clear hNR
            (try simp only [List.getElem_toArray, List.getElem_cons_zero, List.getElem_cons_succ])
            go_simp
            refine hins.mono ?_
            clear hins
            rintro e w10 ⟨g10, c10, rfl, own10, m10, hat10⟩
            have HO10 := Lib.hid own10
            have HM10 := Lib.hid m10
            have HAT := Lib.hid hat10
            have HS10 := Lib.hid ((HN9.out.mono (fun _ _ e => e.elim : ∀ i, i < w7.heap.size → False → blkOf A1 = some i)).trans m10)
            clear own10 m10 hat10
            go_wp2_with fail
            refine hK.out _ _ HS10.out (fun _ => ?_)
            clear hK K
            (try simp only [Act.put, List.getElem_toArray, List.getElem_cons_zero, List.getElem_cons_succ, List.setIfInBounds_toArray, List.set_cons_zero, List.set_cons_succ])
            refine headW_done (by kernel_rfl) ?_
            have HOX : Hid (Blk w10 ob 29 #[.int .i64 5, .bool false, .int .i64 0, .string ⟨#[]⟩, .slice none 0 0, .slice A1 n1 c1]) := Lib.hid (HI7.out.obb.mod HS10.out (fun e => by have := (HFM.out _ e).1; omega))
            have o5 := HOX.out.cell 5
            have ol := HOX.out.lt
            have of := HOX.out.frozen
            simp only [List.getElem?_toArray, List.getElem?_cons_zero, List.getElem?_cons_succ] at o5
            go_wp2_with fail
            clear o5 ol of
            go_roundw
            case rel =>
              refine ⟨k + 1, some ⟨g10, 0, none⟩, NR.length, c10, by omega, by go_num, Lib.hid ?_⟩
              rw [HNE.out]
              refine HI7.out.upd HN9.out HM10.out HO10.out ?_
              rw [← HNR.out]
              have hat : ∀ g, blkOf (some (⟨g10, 0, none⟩ : Addr)) = some g → blkOf A1 = some g ∨ w9.heap.size ≤ g := fun g e => by
                injection e with e
                have e : g10 = g := e
                subst e
                exact HAT.out
              exact Al.ins (Al.imp (fun m p q => ⟨q.1, tree_grow q.2 HM10.out hat⟩) HAL.out) PL ⟨rfl, tree_grow HT9.out HM10.out hat⟩
            case measure => simp [intOf]; omega
          | true =>
            obtain ⟨hq, hqn⟩ := hasAt_lt hh
            have HNE : Hid (mgK d a b (k + 1) = LK.set (place LK zn0) (zn0, mrgP d LK[place LK zn0].2 vb)) := Lib.hid (by rw [HNX.out]; exact mrgSP_set HVK.out hh hq)
            have hou : OwnM d LK[place LK zn0].2 := by
              have h := (HOW.out k).2
              rw [HLK.out] at h
              exact h _ (List.getElem_mem hq)
            have hwu : Wide (m1 + 1000) d LK[place LK zn0].2 := by
              have h := HWD.out k
              rw [HLK.out] at h
              exact (h _ (List.getElem_mem hq)).2
            have hpl : place LK zn0 < n1 := by have := HN1.out; omega
            obtain ⟨ms, hown, hal⟩ := HI7.out.row
            have hpm : place LK zn0 < ms.length := by have := hown.1; omega
            have hgm := hal.get _ hpm hq
            have hnm : ms[place LK zn0].name = zn0 := by rw [hgm.1]; exact hqn
            have htm := hgm.2
            clear hh hqn hgm
            obtain ⟨U, hU⟩ : ∃ U, U = LK[place LK zn0].2 := ⟨_, rfl⟩
            rw [← hU] at hou hwu htm
            have HNE2 : Hid (mgK d a b (k + 1) = LK.set (place LK zn0) (zn0, mrgP d U vb)) := Lib.hid (by rw [HNE.out, hU])
            clear HNE hU hq
            generalize place LK zn0 = PL at *
            obtain ⟨g, hA, -, -, -, -⟩ := hown.form (by omega)
            subst hA
            have HOWN := Lib.hid hown
            have HAL := Lib.hid hal
            have HNMS := Lib.hid hnm
            obtain ⟨g', o', hA, htb', hc0⟩ := hown.sl.2 (by omega)
            injection hA with hA
            injection hA with hA1 hA2
            subst hA1 hA2
            have HCG : Hid (∀ W, New w7 W → ∀ q, q < 7 → W.cell? ⟨g, 0 + PL * 7 + q, none⟩ = some (MA.enc ms[PL] q)) := Lib.hid (fun W h q hq => (h.cell (p := ⟨g, 0 + PL * 7 + q, none⟩) htb'.lt (fun e => e)).trans (hc0 PL hpm q hq))
            have HGL : Hid (∀ W, New w7 W → g < W.heap.size) := Lib.hid (fun W h => Nat.lt_of_lt_of_le htb'.lt h.size)
            have HCALL := Lib.hid (fun W (h : New w7 W) => IH (fun q => MgG G xb ob q ∧ blkOf (some (⟨g, 0, none⟩ : Addr)) ≠ some q) ms[PL].v ⟨zk, zf, zn, zw, zla, zln, zlc, zma, zmn, zmc⟩ U vb (m1 + 1000) W (htm.new h) (HYT.out W (HI7.out.new.trans h)) hou HOWB.out hwu HWDB.out (by omega))
            have HOS : Hid (∀ (W : World) (y : VA), Own W (ob + 1) 54 7 MA.enc (some ⟨g, 0, none⟩) n1 c1 ms → Own ((((((W.setCell ⟨g, PL * 7 + 1, none⟩ (y.enc 0)).setCell ⟨g, PL * 7 + 2, none⟩ (y.enc 1)).setCell ⟨g, PL * 7 + 3, none⟩ (y.enc 2)).setCell ⟨g, PL * 7 + 4, none⟩ (y.enc 3)).setCell ⟨g, PL * 7 + 5, none⟩ (y.enc 4)).setCell ⟨g, PL * 7 + 6, none⟩ (y.enc 5)) (ob + 1) 54 7 MA.enc (some ⟨g, 0, none⟩) n1 c1 (ms.set PL ⟨zn0, y⟩)) := Lib.hid (fun W y h => by
              have q := h.set7v hpm y
              rw [hnm] at q
              exact q)
            clear hc0 htb' hown hal hnm htm hou hwu HNMS
            generalize hyy : ms[PL] = z9 at *
            obtain ⟨yn9, uk, uf, un, uw, ula, uln, ulc, uma, umn, umc⟩ := z9
            have HSL2 : Hid (∀ W, New w7 W → W.cell? ⟨lb, 1, none⟩ = some (.int .i64 zk) ∧ W.cell? ⟨lb, 2, none⟩ = some (.bool zf) ∧ W.cell? ⟨lb, 3, none⟩ = some (.int .i64 zn) ∧ W.cell? ⟨lb, 4, none⟩ = some (.string zw) ∧ W.cell? ⟨lb, 5, none⟩ = some (.slice zla zln zlc) ∧ W.cell? ⟨lb, 6, none⟩ = some (.slice zma zmn zmc) ∧ W.cell? ⟨ob, 5, none⟩ = some (.slice (some ⟨g, 0, none⟩) n1 c1) ∧
              W.cell? ⟨g, PL * 7 + 1, none⟩ = some (.int .i64 uk) ∧ W.cell? ⟨g, PL * 7 + 2, none⟩ = some (.bool uf) ∧ W.cell? ⟨g, PL * 7 + 3, none⟩ = some (.int .i64 un) ∧ W.cell? ⟨g, PL * 7 + 4, none⟩ = some (.string uw) ∧ W.cell? ⟨g, PL * 7 + 5, none⟩ = some (.slice ula uln ulc) ∧ W.cell? ⟨g, PL * 7 + 6, none⟩ = some (.slice uma umn umc) ∧ lb < W.heap.size ∧ ob < W.heap.size ∧ g < W.heap.size) := Lib.hid (fun W hW => by
              have h1 := HLB7.out.mod hW (fun e => e)
              have h2 := HI7.out.obb.mod hW (fun e => e)
              have h3 := HCG.out W hW
              simp only [Nat.zero_add] at h3
              exact ⟨(h1.cell 1).trans rfl, (h1.cell 2).trans rfl, (h1.cell 3).trans rfl, (h1.cell 4).trans rfl, (h1.cell 5).trans rfl, (h1.cell 6).trans rfl, (h2.cell 5).trans rfl, h3 1 (by omega), h3 2 (by omega), h3 3 (by omega), h3 4 (by omega), h3 5 (by omega), h3 6 (by omega), h1.lt, h2.lt, HGL.out W hW⟩)
            clear HCG HGL HSL
            have hb4 : (PL : Int) < n1 := by omega
            have hb5 : (0 : Int) ≤ PL := by omega
            go_upto_region 15 with (fail)
            clear d1 dl
            refine wp_region_held_tree (New w7) 14 (by kernel_rfl) (by kernel_rfl) ?_
            have hn1 : New w7 w7.drew := (Mod.refl _ _).drew
            refine headW_take 0 _ ?_ (fun _ _ d _ _ h => by cases d <;> exact h) (by kernel_rfl) rfl (by kernel_rfl) hn1 (by rfl) (fun W hSw => ?_) ?_
            rotate_left
            · (have hq := HSL2.out W hSw); (try simp only [List.getElem_toArray, List.getElem_cons_zero, List.getElem_cons_succ]); go_simp; any_goals (with_reducible rfl)
            simp only [Act.put, List.getElem_toArray, List.getElem_cons_zero, List.getElem_cons_succ, List.setIfInBounds_toArray, List.set_cons_zero, List.set_cons_succ]
            refine headW_take 1 _ ?_ (fun _ _ d _ _ h => by cases d <;> exact h) (by kernel_rfl) rfl (by kernel_rfl) hn1 (by rfl) (fun W hSw => ?_) ?_
            rotate_left
            · (have hq := HSL2.out W hSw); (try simp only [List.getElem_toArray, List.getElem_cons_zero, List.getElem_cons_succ]); go_simp; any_goals (with_reducible rfl)
            simp only [Act.put, List.getElem_toArray, List.getElem_cons_zero, List.getElem_cons_succ, List.setIfInBounds_toArray, List.set_cons_zero, List.set_cons_succ]
            refine headW_take 2 _ ?_ (fun _ _ d _ _ h => by cases d <;> exact h) (by kernel_rfl) rfl (by kernel_rfl) hn1 (by rfl) (fun W hSw => ?_) ?_
            rotate_left
            · (have hq := HSL2.out W hSw); (try simp only [List.getElem_toArray, List.getElem_cons_zero, List.getElem_cons_succ]); go_simp; any_goals (with_reducible rfl)
            simp only [Act.put, List.getElem_toArray, List.getElem_cons_zero, List.getElem_cons_succ, List.setIfInBounds_toArray, List.set_cons_zero, List.set_cons_succ]
            refine headW_take 3 _ ?_ (fun _ _ d _ _ h => by cases d <;> exact h) (by kernel_rfl) rfl (by kernel_rfl) hn1 (by rfl) (fun W hSw => ?_) ?_
            rotate_left
            · (have hq := HSL2.out W hSw); (try simp only [List.getElem_toArray, List.getElem_cons_zero, List.getElem_cons_succ]); go_simp; any_goals (with_reducible rfl)
            simp only [Act.put, List.getElem_toArray, List.getElem_cons_zero, List.getElem_cons_succ, List.setIfInBounds_toArray, List.set_cons_zero, List.set_cons_succ]
            refine headW_take 4 _ ?_ (fun _ _ d _ _ h => by cases d <;> exact h) (by kernel_rfl) rfl (by kernel_rfl) hn1 (by rfl) (fun W hSw => ?_) ?_
            rotate_left
            · (have hq := HSL2.out W hSw); (try simp only [List.getElem_toArray, List.getElem_cons_zero, List.getElem_cons_succ]); go_simp; any_goals (with_reducible rfl)
            simp only [Act.put, List.getElem_toArray, List.getElem_cons_zero, List.getElem_cons_succ, List.setIfInBounds_toArray, List.set_cons_zero, List.set_cons_succ]
            refine headW_take 5 _ ?_ (fun _ _ d _ _ h => by cases d <;> exact h) (by kernel_rfl) rfl (by kernel_rfl) hn1 (by rfl) (fun W hSw => ?_) ?_
            rotate_left
            · (have hq := HSL2.out W hSw); (try simp only [List.getElem_toArray, List.getElem_cons_zero, List.getElem_cons_succ]); go_simp; any_goals (with_reducible rfl)
            simp only [Act.put, List.getElem_toArray, List.getElem_cons_zero, List.getElem_cons_succ, List.setIfInBounds_toArray, List.set_cons_zero, List.set_cons_succ]
            refine headW_take 6 _ ?_ (fun _ _ d _ _ h => by cases d <;> exact h) (by kernel_rfl) rfl (by kernel_rfl) hn1 (by rfl) (fun W hSw => ?_) ?_
            rotate_left
            · (have hq := HSL2.out W hSw); (try simp only [List.getElem_toArray, List.getElem_cons_zero, List.getElem_cons_succ]); go_simp; any_goals (with_reducible rfl)
            simp only [Act.put, List.getElem_toArray, List.getElem_cons_zero, List.getElem_cons_succ, List.setIfInBounds_toArray, List.set_cons_zero, List.set_cons_succ]
            refine headW_take 7 _ ?_ (fun _ _ d _ _ h => by cases d <;> exact h) (by kernel_rfl) rfl (by kernel_rfl) hn1 (by rfl) (fun W hSw => ?_) ?_
            rotate_left
            · (have hq := HSL2.out W hSw); (try simp only [List.getElem_toArray, List.getElem_cons_zero, List.getElem_cons_succ]); go_simp; any_goals (with_reducible rfl)
            simp only [Act.put, List.getElem_toArray, List.getElem_cons_zero, List.getElem_cons_succ, List.setIfInBounds_toArray, List.set_cons_zero, List.set_cons_succ]
            refine headW_take 8 _ ?_ (fun _ _ d _ _ h => by cases d <;> exact h) (by kernel_rfl) rfl (by kernel_rfl) hn1 (by rfl) (fun W hSw => ?_) ?_
            rotate_left
            · (have hq := HSL2.out W hSw); (try simp only [List.getElem_toArray, List.getElem_cons_zero, List.getElem_cons_succ]); go_simp; any_goals (with_reducible rfl)
            simp only [Act.put, List.getElem_toArray, List.getElem_cons_zero, List.getElem_cons_succ, List.setIfInBounds_toArray, List.set_cons_zero, List.set_cons_succ]
            refine headW_take 9 _ ?_ (fun _ _ d _ _ h => by cases d <;> exact h) (by kernel_rfl) rfl (by kernel_rfl) hn1 (by rfl) (fun W hSw => ?_) ?_
            rotate_left
            · (have hq := HSL2.out W hSw); (try simp only [List.getElem_toArray, List.getElem_cons_zero, List.getElem_cons_succ]); go_simp; any_goals (with_reducible rfl)
            simp only [Act.put, List.getElem_toArray, List.getElem_cons_zero, List.getElem_cons_succ, List.setIfInBounds_toArray, List.set_cons_zero, List.set_cons_succ]
            refine headW_take 10 _ ?_ (fun _ _ d _ _ h => by cases d <;> exact h) (by kernel_rfl) rfl (by kernel_rfl) hn1 (by rfl) (fun W hSw => ?_) ?_
            rotate_left
            · (have hq := HSL2.out W hSw); (try simp only [List.getElem_toArray, List.getElem_cons_zero, List.getElem_cons_succ]); go_simp; any_goals (with_reducible rfl)
            simp only [Act.put, List.getElem_toArray, List.getElem_cons_zero, List.getElem_cons_succ, List.setIfInBounds_toArray, List.set_cons_zero, List.set_cons_succ]
            refine headW_ready [11] (by kernel_rfl) (by rfl) ?_
            refine eachW_step rfl rfl (fun K hK => ?_) eachW_nil
            have hcall := HCALL.out _ hn1
            (try simp only [List.getElem_toArray, List.getElem_cons_zero, List.getElem_cons_succ])
            go_simp
            refine hcall.mono ?_
            clear hcall HCALL
            rintro e w8 ⟨⟨rk, rff, rn, rw_, rla, rln, rlc, rma, rmn, rmc⟩, rfl, tr8, m8⟩
            have HN8 := Lib.hid (hn1.trans m8)
            have HT8 : Hid (Tree w8 (fun q => MgG G xb ob q ∧ blkOf (some (⟨g, 0, none⟩ : Addr)) ≠ some q) d ⟨rk, rff, rn, rw_, rla, rln, rlc, rma, rmn, rmc⟩ (mrgP d U vb)) := Lib.hid (Tree.imp (fun q hg _ => by
              rcases hg with hg | hg
              · exact hg
              · exact HG1F.out _ hn1 q hg) _ _ _ tr8)
            clear tr8 m8
            go_wp2_with fail
            refine hK.out _ _ HN8.out (fun _ => ?_)
            clear hK K
            (try simp only [Act.put, List.getElem_toArray, List.getElem_cons_zero, List.getElem_cons_succ, List.setIfInBounds_toArray, List.set_cons_zero, List.set_cons_succ])
            have hn8 := HN8.out
            refine headW_take 12 _ ?_ (fun _ _ d _ _ h => by cases d <;> exact h) (by kernel_rfl) rfl (by kernel_rfl) hn8 (by rfl) (fun W hSw => ?_) ?_
            rotate_left
            · (have hq := HSL2.out W hSw); (try simp only [List.getElem_toArray, List.getElem_cons_zero, List.getElem_cons_succ]); go_simp; any_goals (with_reducible rfl)
            simp only [Act.put, List.getElem_toArray, List.getElem_cons_zero, List.getElem_cons_succ, List.setIfInBounds_toArray, List.set_cons_zero, List.set_cons_succ]
            refine headW_take 13 _ ?_ (fun _ _ d _ _ h => by cases d <;> exact h) (by kernel_rfl) rfl (by kernel_rfl) hn8 (by rfl) (fun W hSw => ?_) ?_
            rotate_left
            · (have hq := HSL2.out W hSw); (try simp only [List.getElem_toArray, List.getElem_cons_zero, List.getElem_cons_succ]); go_simp; any_goals (with_reducible rfl)
            simp only [Act.put, List.getElem_toArray, List.getElem_cons_zero, List.getElem_cons_succ, List.setIfInBounds_toArray, List.set_cons_zero, List.set_cons_succ]
            refine headW_done (by kernel_rfl) ?_
            obtain ⟨-, -, -, -, -, -, -, b1, b2, b3, b4, b5, b6, -, -, gl⟩ := HSL2.out w8 HN8.out
            have HO8 := Lib.hid (HOWN.out.new HN8.out)
            have gf := HO8.out.frozen
            have own9 := HOS.out w8 ⟨rk, rff, rn, rw_, rla, rln, rlc, rma, rmn, rmc⟩ HO8.out
            simp only [VA.enc] at own9
            have o9 : Only g w8 ((((((w8.setCell ⟨g, PL * 7 + 1, none⟩ (.int .i64 rk)).setCell ⟨g, PL * 7 + 2, none⟩ (.bool rff)).setCell ⟨g, PL * 7 + 3, none⟩ (.int .i64 rn)).setCell ⟨g, PL * 7 + 4, none⟩ (.string rw_)).setCell ⟨g, PL * 7 + 5, none⟩ (.slice rla rln rlc)).setCell ⟨g, PL * 7 + 6, none⟩ (.slice rma rmn rmc)) := (((((Only.set (Mod.refl _ _) _ _).set _ _).set _ _).set _ _).set _ _).set _ _
            have HOW9 := Lib.hid own9
            have HM9 : Hid (Mod (fun q => blkOf (some (⟨g, 0, none⟩ : Addr)) = some q) w8 _) := Lib.hid (o9.mono (fun _ _ e => by subst e; rfl))
            clear own9 o9
            go_wp2_with fail
            clear b1 b2 b3 b4 b5 b6 gl gf
            go_roundw
            case rel =>
              refine ⟨k + 1, some ⟨g, 0, none⟩, n1, c1, by omega, by go_num, Lib.hid ?_⟩
              rw [HNE2.out]
              refine HI7.out.upd0 HN8.out HM9.out HOW9.out ?_
              exact Al.set (Al.imp (fun m p q => ⟨q.1, tree_grow (q.2.new HN8.out) HM9.out (fun g e => .inl e)⟩) HAL.out) PL ⟨rfl, tree_grow HT8.out HM9.out (fun g e => .inl e)⟩
            case measure => simp [intOf]; omega
      · obtain rfl : ymn = k := by omega
        have HKE : Hid (mgK d a b ymn = mgK d a b b.mem.length) := Lib.hid (by rw [HG6.out])
        have o0 := HI.out.obb.cell 0
        have o1 := HI.out.obb.cell 1
        have o2 := HI.out.obb.cell 2
        have o3 := HI.out.obb.cell 3
        have o4 := HI.out.obb.cell 4
        have o5 := HI.out.obb.cell 5
        have ol := HI.out.obb.lt
        simp only [List.getElem?_toArray, List.getElem?_cons_zero, List.getElem?_cons_succ] at o0 o1 o2 o3 o4 o5
        have r0 := HI.out.rcb.cell 0
        have r1 := HI.out.rcb.cell 1
        have r2 := HI.out.rcb.cell 2
        have r3 := HI.out.rcb.cell 3
        have r4 := HI.out.rcb.cell 4
        have r5 := HI.out.rcb.cell 5
        have rl := HI.out.rcb.lt
        have rf := HI.out.rcb.frozen
        simp only [List.getElem?_toArray, List.getElem?_cons_zero, List.getElem?_cons_succ] at r0 r1 r2 r3 r4 r5
        go_wp2_with fail
        clear o0 o1 o2 o3 o4 o5 ol r0 r1 r2 r3 r4 r5 rl rf
        have HRN := Lib.hid (Blk.copy6 HI.out.rcb (.int .i64 5) (.bool false) (.int .i64 0) (.string ⟨#[]⟩) (.slice none 0 0) (.slice A1 n1 c1))
        have HMN := Lib.hid (Only.cell6 wr rb (.int .i64 5) (.bool false) (.int .i64 0) (.string ⟨#[]⟩) (.slice none 0 0) (.slice A1 n1 c1))
        generalize (((((wr.setCell ⟨rb, 0, none⟩ (.int .i64 5)).setCell ⟨rb, 1, none⟩ (.bool false)).setCell ⟨rb, 2, none⟩ (.int .i64 0)).setCell ⟨rb, 3, none⟩ (.string ⟨#[]⟩)).setCell ⟨rb, 4, none⟩ (.slice none 0 0)).setCell ⟨rb, 5, none⟩ (.slice A1 n1 c1) = wz at *
        have r0 := HRN.out.cell 0
        have r1 := HRN.out.cell 1
        have r2 := HRN.out.cell 2
        have r3 := HRN.out.cell 3
        have r4 := HRN.out.cell 4
        have r5 := HRN.out.cell 5
        have rl := HRN.out.lt
        have rf := HRN.out.frozen
        simp only [List.getElem?_toArray, List.getElem?_cons_zero, List.getElem?_cons_succ] at r0 r1 r2 r3 r4 r5
        refine bodyPost_ret (v := VA.val ⟨5, false, 0, ⟨#[]⟩, none, 0, 0, A1, n1, c1⟩) (by simp [results, Tryz.results29, go_sem, r0, r1, r2, r3, r4, r5, rl, rf]) rfl ?_
        obtain ⟨ms, hown, hal⟩ := HI.out.row
        have h1 := HXB.out
        have h2 := HOB2.out
        have hff := hown.far'
        refine ⟨_, rfl, ?_, HI.out.new.step HMN.out (fun i hi e => by omega)⟩
        rw [HEQ.out, ← HKE.out]
        refine Tree.of_als (x := ⟨5, false, 0, ⟨#[]⟩, none, 0, 0, A1, n1, c1⟩) (xs := []) (ms := ms) Row.nil trivial ?_ ?_
        · exact (hown.mod HMN.out (fun g e q => by have := (hff g e).1; omega)).row' (fun g e hg => .inr (by omega))
        · refine Al.imp (fun m p q => ⟨q.1, Tree.imp (fun g hg _ => ?_) _ _ _ (Tree.mod HMN.out (fun g hg _ e => ?_) _ _ _ q.2)⟩) hal
          · rcases hg.1 with e | e
            · exact .inl e.1
            · exact .inr (by omega)
          · rcases hg.1 with e2 | e2
            · have := e2.2; omega
            · omega
theorem merged_v : ∀ d, MgSpec d
  | 0 => fun G x y a b m1 w h => h.elim
  | d + 1 => merged_walk d (merged_v d)
end Go.Proofs.YtjfgfkbgbhbhjaaGreatDoor

namespace Go.Proofs.YtjfgfkbgbhbhjaaGreatDoor
open Go.RowKit
set_option linter.unusedVariables false
set_option linter.unusedSimpArgs false

/-- what Merge hands back: F is what is wrong with the values, M the merged one -/
def RMerge (w : World) (d : Nat) (F : Int) (M : VT) (e : Ending) (w' : World) : Prop := New w w' ∧ ∃ z : VA, e = .returned (.tuple #[z.val, .int .i64 (orF F (vCheck d M))]) ∧ (orF F (vCheck d M) ≠ 0 → z = nilVA) ∧ (orF F (vCheck d M) = 0 → Tree w' (fun _ => True) d z M)
theorem mrg_fit {d m1 m2 : Nat} {a b : VT} (ha : Deep d a) (hb : Deep d b) (hwa : Wide m1 d a) (hwb : Wide m2 d b) (ho : OwnM d b) (hm : m1 + m2 ≤ 1000) (hw : vW d a + vW d b ≤ 1000000000) : Fit d (mrgP d a b) :=
  ⟨by have := (mrg_w d a b ha hb).1; omega, Wide.mono hm _ _ (mrg_wide d a b hwa hwb ho)⟩
set_option maxRecDepth 100000 in
set_option maxHeartbeats 700000 in
theorem valueMerge_v (d m1 m2 : Nat) (x y : VA) (a b : VT) (w : World) (htx : Tree w (fun _ => True) d x a) (hty : Tree w (fun _ => True) d y b) (hwa : Wide m1 d a) (hwb : Wide m2 d b) (hm : m1 + m2 ≤ 1000) (hW : vW d a + vW d b ≤ 1000000000) (hd : d ≤ 80) (hU : Utf8T w) :
    Calls Tryz.prog 8 #[x.val, y.val] w (RMerge w d (orF (vCheck d a) (vCheck d b)) (mrgP d a b)) := by
  have HCH := Lib.hid (fun W (h : New w W) g hb => checks_v d x y a b _ W g hb (htx.new h) (hty.new h) ⟨by omega, Wide.mono (by omega) _ _ hwa⟩ ⟨by omega, Wide.mono (by omega) _ _ hwb⟩ (hU.new h))
  have HGD := Lib.hid (fun (hg : orF (vCheck d a) (vCheck d b) = 0) => (⟨Good.ownM d a (Good.of d a htx.deep (vCheck_fault (orF_eq_zero hg).1)), Good.ownM d b (Good.of d b hty.deep (vCheck_fault (orF_eq_zero hg).2))⟩ : OwnM d a ∧ OwnM d b))
  have HMV := Lib.hid (fun (hg : OwnM d a ∧ OwnM d b) W (h : New w W) => merged_v d (fun _ => True) x y a b m1 W (htx.new h) (hty.new h) hg.1 hg.2 hwa (Wide.mono (by omega) _ _ hwb) (by omega))
  have HFT := Lib.hid (fun (hg : OwnM d a ∧ OwnM d b) => mrg_fit htx.deep hty.deep hwa hwb hg.2 hm hW)
  have HUT := Lib.hid (fun W (h : New w W) => hU.new h)
  clear htx hty hwa hwb hU
  generalize orF (vCheck d a) (vCheck d b) = F at *
  generalize mrgP d a b = M at *
  obtain ⟨xk, xf, xn, xw, xla, xln, xlc, xma, xmn, xmc⟩ := x
  obtain ⟨yk, yf, yn, yw, yla, yln, ylc, yma, ymn, ymc⟩ := y
  have hx := Blk.new w 29 #[.int .i64 xk, .bool xf, .int .i64 xn, .string xw, .slice xla xln xlc, .slice xma xmn xmc]
  have hm1 : New w (w.alloc (.cells #[.int .i64 xk, .bool xf, .int .i64 xn, .string xw, .slice xla xln xlc, .slice xma xmn xmc] 29)) := (Mod.refl _ _).alloc _
  have z1 : (w.alloc (.cells #[.int .i64 xk, .bool xf, .int .i64 xn, .string xw, .slice xla xln xlc, .slice xma xmn xmc] 29)).heap.size = w.heap.size + 1 := by simp
  go_enter Tryz.func8, Tryz.ntmps8
  go_upto_region 1 with (fail)
  generalize w.alloc (.cells #[.int .i64 xk, .bool xf, .int .i64 xn, .string xw, .slice xla xln xlc, .slice xma xmn xmc] 29) = w1 at *
  have hy := Blk.new w1 29 #[.int .i64 yk, .bool yf, .int .i64 yn, .string yw, .slice yla yln ylc, .slice yma ymn ymc]
  have hm2 : New w1 (w1.alloc (.cells #[.int .i64 yk, .bool yf, .int .i64 yn, .string yw, .slice yla yln ylc, .slice yma ymn ymc] 29)) := (Mod.refl _ _).alloc _
  have z2 : (w1.alloc (.cells #[.int .i64 yk, .bool yf, .int .i64 yn, .string yw, .slice yla yln ylc, .slice yma ymn ymc] 29)).heap.size = w.heap.size + 1 + 1 := by simp [z1]
  rw [z1] at hy
  generalize w1.alloc (.cells #[.int .i64 yk, .bool yf, .int .i64 yn, .string yw, .slice yla yln ylc, .slice yma ymn ymc] 29) = w2 at *
  have hz := Blk.new w2 29 #[.int .i64 0, .bool false, .int .i64 0, .string ⟨#[]⟩, .slice none 0 0, .slice none 0 0]
  have hm3 : New w2 (w2.alloc (.cells #[.int .i64 0, .bool false, .int .i64 0, .string ⟨#[]⟩, .slice none 0 0, .slice none 0 0] 29)) := (Mod.refl _ _).alloc _
  rw [z2] at hz
  generalize w2.alloc (.cells #[.int .i64 0, .bool false, .int .i64 0, .string ⟨#[]⟩, .slice none 0 0, .slice none 0 0] 29) = w3 at *
  have HX := Lib.hid ((hx.mod hm2 (fun e => e)).mod hm3 (fun e => e))
  have HY := Lib.hid (hy.mod hm3 (fun e => e))
  have HR := Lib.hid hz
  have HM := Lib.hid ((hm1.trans hm2).trans hm3)
  clear hx hy hz hm1 hm2 hm3 z1 z2
  generalize hxb : w.heap.size = xb at *
  generalize hyb : xb + 1 = yb at *
  generalize hrb : yb + 1 = rb at *
  have HXB : Hid (w.heap.size = xb ∧ xb < rb) := Lib.hid ⟨hxb, by omega⟩
  clear hxb hyb hrb
  have hb3 := Blk.new w3 29 #[.int .i64 xk, .bool xf, .int .i64 xn, .string xw, .slice xla xln xlc, .slice xma xmn xmc, .int .i64 yk, .bool yf, .int .i64 yn, .string yw, .slice yla yln ylc, .slice yma ymn ymc]
  have hm3 : New w3 (w3.alloc (.cells #[.int .i64 xk, .bool xf, .int .i64 xn, .string xw, .slice xla xln xlc, .slice xma xmn xmc, .int .i64 yk, .bool yf, .int .i64 yn, .string yw, .slice yla yln ylc, .slice yma ymn ymc] 29)) := (Mod.refl _ _).alloc _
  have hch := HCH.out _ (HM.out.trans hm3) _ hb3
  have HM3 := Lib.hid hm3
  clear hb3 hm3
  have hxx := HX.out
  have hyy := HY.out
  have e0 := hxx.cell 0
  have e1 := hxx.cell 1
  have e2 := hxx.cell 2
  have e3 := hxx.cell 3
  have e4 := hxx.cell 4
  have e5 := hxx.cell 5
  have el := hxx.lt
  have f0 := hyy.cell 0
  have f1 := hyy.cell 1
  have f2 := hyy.cell 2
  have f3 := hyy.cell 3
  have f4 := hyy.cell 4
  have f5 := hyy.cell 5
  have fl := hyy.lt
  simp only [List.getElem?_toArray, List.getElem?_cons_zero, List.getElem?_cons_succ] at e0 e1 e2 e3 e4 e5 f0 f1 f2 f3 f4 f5
  clear hxx hyy
  go_wp2_with fail
  clear e0 e1 e2 e3 e4 e5 el f0 f1 f2 f3 f4 f5 fl
  refine hch.mono ?_
  clear hch
  rintro e w4 ⟨rfl, m4⟩
  have HM4 := Lib.hid (HM.out.trans (HM3.out.trans m4))
  have HX4 := Lib.hid ((HX.out.mod HM3.out (fun e => e)).mod m4 (fun e => e))
  have HY4 := Lib.hid ((HY.out.mod HM3.out (fun e => e)).mod m4 (fun e => e))
  have HR4 := Lib.hid ((HR.out.mod HM3.out (fun e => e)).mod m4 (fun e => e))
  clear m4 HM3 HX HY HM HR
  have HX := HX4
  have HY := HY4
  have HM := HM4
  have HR := HR4
  clear HX4 HY4 HM4 HR4
  by_cases hz : F = 0
  · subst hz
    have hg := HGD.out (by first | trivial | rfl)
    have HOF : Hid (orF 0 (vCheck d M) = vCheck d M) := Lib.hid (by unfold orF; simp)
    have hmv := HMV.out hg w4 HM.out
    have HFIT := Lib.hid (HFT.out hg)
    clear hg
    have hxx := HX.out
    have hyy := HY.out
    have e0 := hxx.cell 0
    have e1 := hxx.cell 1
    have e2 := hxx.cell 2
    have e3 := hxx.cell 3
    have e4 := hxx.cell 4
    have e5 := hxx.cell 5
    have el := hxx.lt
    have f0 := hyy.cell 0
    have f1 := hyy.cell 1
    have f2 := hyy.cell 2
    have f3 := hyy.cell 3
    have f4 := hyy.cell 4
    have f5 := hyy.cell 5
    have fl := hyy.lt
    simp only [List.getElem?_toArray, List.getElem?_cons_zero, List.getElem?_cons_succ] at e0 e1 e2 e3 e4 e5 f0 f1 f2 f3 f4 f5
    clear hxx hyy
    go_wp2_with fail
    clear e0 e1 e2 e3 e4 e5 el f0 f1 f2 f3 f4 f5 fl
    refine hmv.mono ?_
    clear hmv
    rintro e w5 ⟨⟨zk, zf, zn, zw, zla, zln, zlc, zma, zmn, zmc⟩, rfl, tz, m5⟩
    have HT5 := Lib.hid tz.any
    have HM5 := Lib.hid (HM.out.trans m5)
    have HR5 := Lib.hid (HR.out.mod m5 (fun e => e))
    clear tz m5 HX HY HR HM
    have b6 := Blk.new w5 29 #[.int .i64 zk, .bool zf, .int .i64 zn, .string zw, .slice zla zln zlc, .slice zma zmn zmc]
    have m6 : New w5 (w5.alloc (.cells #[.int .i64 zk, .bool zf, .int .i64 zn, .string zw, .slice zla zln zlc, .slice zma zmn zmc] 29)) := (Mod.refl _ _).alloc _
    go_upto_region 5 with (fail)
    generalize w5.alloc (.cells #[.int .i64 zk, .bool zf, .int .i64 zn, .string zw, .slice zla zln zlc, .slice zma zmn zmc] 29) = w6 at *
    generalize w5.heap.size = ob at *
    have HT := Lib.hid (HT5.out.new m6)
    have HM := Lib.hid (HM5.out.trans m6)
    have HR := Lib.hid (HR5.out.mod m6 (fun e => e))
    have HO := Lib.hid b6
    clear b6 m6 HT5 HM5 HR5
    have hck := check_v d ⟨zk, zf, zn, zw, zla, zln, zlc, zma, zmn, zmc⟩ M _ w6 HT.out HFIT.out (HUT.out w6 HM.out)
    have e0 := HO.out.cell 0
    have e1 := HO.out.cell 1
    have e2 := HO.out.cell 2
    have e3 := HO.out.cell 3
    have e4 := HO.out.cell 4
    have e5 := HO.out.cell 5
    have el := HO.out.lt
    have ef := HO.out.frozen
    simp only [List.getElem?_toArray, List.getElem?_cons_zero, List.getElem?_cons_succ] at e0 e1 e2 e3 e4 e5
    go_wp2_with fail
    clear e0 e1 e2 e3 e4 e5 el ef
    refine hck.mono ?_
    clear hck
    rintro e w7 ⟨rfl, m7⟩
    have HT7 := Lib.hid (HT.out.new m7)
    have HM7 := Lib.hid (HM.out.trans m7)
    have HR7 := Lib.hid (HR.out.mod m7 (fun e => e))
    have HO7 := Lib.hid (HO.out.mod m7 (fun e => e))
    clear m7 HT HM HR HO
    have HCK : Hid (vCheck d M = vCheck d M) := Lib.hid rfl
    generalize hcm : vCheck d M = C at *
    have HCM := Lib.hid hcm
    clear hcm HCK HOF
    have HOF : Hid (orF 0 (vCheck d M) = C) := Lib.hid (by rw [HCM.out]; unfold orF; simp)
    by_cases hc0 : C = 0
    · subst hc0
      have hcl := clone_v d ⟨zk, zf, zn, zw, zla, zln, zlc, zma, zmn, zmc⟩ M w7 HT7.out HFIT.out.2
      have e0 := HO7.out.cell 0
      have e1 := HO7.out.cell 1
      have e2 := HO7.out.cell 2
      have e3 := HO7.out.cell 3
      have e4 := HO7.out.cell 4
      have e5 := HO7.out.cell 5
      have el := HO7.out.lt
      have ef := HO7.out.frozen
      simp only [List.getElem?_toArray, List.getElem?_cons_zero, List.getElem?_cons_succ] at e0 e1 e2 e3 e4 e5
      go_wp2_with fail
      clear e0 e1 e2 e3 e4 e5 el ef
      refine hcl.mono ?_
      clear hcl
      rintro e w8 ⟨⟨uk, uf, un, uw, ula, uln, ulc, uma, umn, umc⟩, rfl, tu, m8⟩
      have HTU := Lib.hid tu
      have HM8 := Lib.hid (HM7.out.trans m8)
      have HR8 := Lib.hid (HR7.out.mod m8 (fun e => e))
      have HSZ : Hid (rb < w7.heap.size) := Lib.hid HR7.out.lt
      clear tu m8 HM7 HR7 HT7 HO7
      have r0 := HR8.out.cell 0
      have r1 := HR8.out.cell 1
      have r2 := HR8.out.cell 2
      have r3 := HR8.out.cell 3
      have r4 := HR8.out.cell 4
      have r5 := HR8.out.cell 5
      have rl := HR8.out.lt
      have rf := HR8.out.frozen
      simp only [List.getElem?_toArray, List.getElem?_cons_zero, List.getElem?_cons_succ] at r0 r1 r2 r3 r4 r5
      go_wp2_with fail
      clear r0 r1 r2 r3 r4 r5 rl rf
      have HRN := Lib.hid (Blk.copy6 HR8.out (.int .i64 uk) (.bool uf) (.int .i64 un) (.string uw) (.slice ula uln ulc) (.slice uma umn umc))
      have HMN := Lib.hid (Only.cell6 w8 rb (.int .i64 uk) (.bool uf) (.int .i64 un) (.string uw) (.slice ula uln ulc) (.slice uma umn umc))
      generalize (((((w8.setCell ⟨rb, 0, none⟩ (.int .i64 uk)).setCell ⟨rb, 1, none⟩ (.bool uf)).setCell ⟨rb, 2, none⟩ (.int .i64 un)).setCell ⟨rb, 3, none⟩ (.string uw)).setCell ⟨rb, 4, none⟩ (.slice ula uln ulc)).setCell ⟨rb, 5, none⟩ (.slice uma umn umc) = w9 at *
      have r0 := HRN.out.cell 0
      have r1 := HRN.out.cell 1
      have r2 := HRN.out.cell 2
      have r3 := HRN.out.cell 3
      have r4 := HRN.out.cell 4
      have r5 := HRN.out.cell 5
      have rl := HRN.out.lt
      have rf := HRN.out.frozen
      simp only [List.getElem?_toArray, List.getElem?_cons_zero, List.getElem?_cons_succ] at r0 r1 r2 r3 r4 r5
      refine bodyPost_ret (v := .tuple #[VA.val ⟨uk, uf, un, uw, ula, uln, ulc, uma, umn, umc⟩, .int .i64 0]) (by simp [results, Tryz.results8, go_sem, r0, r1, r2, r3, r4, r5, rl, rf]) rfl ?_
      refine ⟨HM8.out.step HMN.out (fun i hi e => by have := HXB.out; omega), _, by rw [HOF.out], fun h => by rw [HOF.out] at h; exact absurd rfl h, fun _ => ?_⟩
      exact (Tree.mod HMN.out (fun g hg _ e => by have := HSZ.out; omega) _ _ _ HTU.out).any
    · have hcb : (C != 0) = true := by simpa using hc0
      have HC0 := Lib.hid hc0
      clear hc0
      have r0 := HR7.out.cell 0
      have r1 := HR7.out.cell 1
      have r2 := HR7.out.cell 2
      have r3 := HR7.out.cell 3
      have r4 := HR7.out.cell 4
      have r5 := HR7.out.cell 5
      have rl := HR7.out.lt
      have rf := HR7.out.frozen
      simp only [List.getElem?_toArray, List.getElem?_cons_zero, List.getElem?_cons_succ] at r0 r1 r2 r3 r4 r5
      go_wp2_with fail
      clear r0 r1 r2 r3 r4 r5 rl rf
      have HRN := Lib.hid (Blk.copy6 HR7.out (.int .i64 0) (.bool false) (.int .i64 0) (.string ⟨#[]⟩) (.slice none 0 0) (.slice none 0 0))
      have HMN := Lib.hid (Only.cell6 w7 rb (.int .i64 0) (.bool false) (.int .i64 0) (.string ⟨#[]⟩) (.slice none 0 0) (.slice none 0 0))
      generalize (((((w7.setCell ⟨rb, 0, none⟩ (.int .i64 0)).setCell ⟨rb, 1, none⟩ (.bool false)).setCell ⟨rb, 2, none⟩ (.int .i64 0)).setCell ⟨rb, 3, none⟩ (.string ⟨#[]⟩)).setCell ⟨rb, 4, none⟩ (.slice none 0 0)).setCell ⟨rb, 5, none⟩ (.slice none 0 0) = w9 at *
      have r0 := HRN.out.cell 0
      have r1 := HRN.out.cell 1
      have r2 := HRN.out.cell 2
      have r3 := HRN.out.cell 3
      have r4 := HRN.out.cell 4
      have r5 := HRN.out.cell 5
      have rl := HRN.out.lt
      have rf := HRN.out.frozen
      simp only [List.getElem?_toArray, List.getElem?_cons_zero, List.getElem?_cons_succ] at r0 r1 r2 r3 r4 r5
      refine bodyPost_ret (v := .tuple #[VA.val nilVA, .int .i64 C]) (by simp [results, Tryz.results8, go_sem, r0, r1, r2, r3, r4, r5, rl, rf]) rfl ?_
      exact ⟨HM7.out.step HMN.out (fun i hi e => by have := HXB.out; omega), nilVA, by rw [HOF.out], fun _ => rfl, fun h => by rw [HOF.out] at h; exact absurd h HC0.out⟩
  · have hzb : (F != 0) = true := by simpa using hz
    have HC0 : Hid (F ≠ 0) := Lib.hid hz
    have HOF : Hid (orF F (vCheck d M) = F) := Lib.hid (by unfold orF; simp [hz])
    clear hz
    have r0 := HR.out.cell 0
    have r1 := HR.out.cell 1
    have r2 := HR.out.cell 2
    have r3 := HR.out.cell 3
    have r4 := HR.out.cell 4
    have r5 := HR.out.cell 5
    have rl := HR.out.lt
    have rf := HR.out.frozen
    simp only [List.getElem?_toArray, List.getElem?_cons_zero, List.getElem?_cons_succ] at r0 r1 r2 r3 r4 r5
    go_wp2_with fail
    clear r0 r1 r2 r3 r4 r5 rl rf
    have HRN := Lib.hid (Blk.copy6 HR.out (.int .i64 0) (.bool false) (.int .i64 0) (.string ⟨#[]⟩) (.slice none 0 0) (.slice none 0 0))
    have HMN := Lib.hid (Only.cell6 w4 rb (.int .i64 0) (.bool false) (.int .i64 0) (.string ⟨#[]⟩) (.slice none 0 0) (.slice none 0 0))
    generalize (((((w4.setCell ⟨rb, 0, none⟩ (.int .i64 0)).setCell ⟨rb, 1, none⟩ (.bool false)).setCell ⟨rb, 2, none⟩ (.int .i64 0)).setCell ⟨rb, 3, none⟩ (.string ⟨#[]⟩)).setCell ⟨rb, 4, none⟩ (.slice none 0 0)).setCell ⟨rb, 5, none⟩ (.slice none 0 0) = w9 at *
    have r0 := HRN.out.cell 0
    have r1 := HRN.out.cell 1
    have r2 := HRN.out.cell 2
    have r3 := HRN.out.cell 3
    have r4 := HRN.out.cell 4
    have r5 := HRN.out.cell 5
    have rl := HRN.out.lt
    have rf := HRN.out.frozen
    simp only [List.getElem?_toArray, List.getElem?_cons_zero, List.getElem?_cons_succ] at r0 r1 r2 r3 r4 r5
    refine bodyPost_ret (v := .tuple #[VA.val nilVA, .int .i64 F]) (by simp [results, Tryz.results8, go_sem, r0, r1, r2, r3, r4, r5, rl, rf]) rfl ?_
    exact ⟨HM.out.step HMN.out (fun i hi e => by have := HXB.out; omega), nilVA, by rw [HOF.out], fun _ => rfl, fun h => by rw [HOF.out] at h; exact absurd h HC0.out⟩
end Go.Proofs.YtjfgfkbgbhbhjaaGreatDoor
