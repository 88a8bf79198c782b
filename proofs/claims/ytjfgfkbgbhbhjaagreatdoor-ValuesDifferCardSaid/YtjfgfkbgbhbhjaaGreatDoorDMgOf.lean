/- The reference: MergeOf, members put into others. Conditions: names in order, rows bounded. -/
import Derived.Test.YtjfgfkbgbhbhjaaGreatDoorDMgGrp
import Derived.Test.YtjfgfkbgbhbhjaaGreatDoorRWithGrp
import Derived.Test.YtjfgfkbgbhbhjaaGreatDoorChgRunGrp
namespace Go.Proofs.YtjfgfkbgbhbhjaaGreatDoor
open Go.RowKit
set_option linter.unusedVariables false
set_option linter.unusedSimpArgs false

/-- what stands at a name, or nought -/
abbrev findV (l : List Mem) (nm : ByteArray) : VT := ((l.find? fun p => decide (p.1 = nm)).map (·.2)).getD nilV
theorem findV_all {P : VT → Prop} {l : List Mem} {nm : ByteArray} (h0 : P nilV) (h : ∀ p ∈ l, P p.2) : P (findV l nm) := by
  unfold findV
  cases e : l.find? (fun p => decide (p.1 = nm)) with
  | none => exact h0
  | some q => exact h q (List.mem_of_find?_eq_some e)
theorem get_oneG (G : Nat → Prop) (d : Nat) (x : VA) (v : VT) (nm : ByteArray) (gb : Nat) (w : World) (ht : Tree w G (d + 1 + 1) x v) (hw : Wide 100000 (d + 1 + 1) v) (hb : Blk w gb 76 #[.bool true, .string nm, .int .i64 0]) :
    Calls Tryz.prog 43 #[x.val, .slice (some ⟨gb, 0, none⟩) 1 1] w fun e w' => New w w' ∧ ∃ (y : VA) (q : Bool), e = .returned (.tuple #[y.val, .bool q]) ∧ Tree w' G (d + 1) y (findV v.mem nm) := by
  have hs : Sl w 76 3 St.enc (some ⟨gb, 0, none⟩) 1 [⟨true, nm, 0⟩] := Sl.of_blk hb rfl (fun i hi j hj => by
    obtain rfl : i = 0 := by simp at hi; omega
    obtain rfl | rfl | rfl : j = 0 ∨ j = 1 ∨ j = 2 := by omega
    all_goals rfl)
  have hp : getP v [⟨true, nm, 0⟩] = getR v ⟨true, nm, 0⟩ := by
    rw [getP]
    cases getR v ⟨true, nm, 0⟩ with
    | none => rfl
    | some u => rfl
  have hg := getAny_v G (d + 1 + 1) x v (some ⟨gb, 0, none⟩) 1 1 _ w ht hs hw (fun s h => by
    obtain rfl := List.mem_singleton.1 h
    show (0 : Int) ≤ 0 ∧ (0 : Int) ≤ 5000
    omega) (by omega)
  refine hg.mono ?_
  intro e w' h
  have hr : getR v ⟨true, nm, 0⟩ = (v.mem.find? fun p => decide (p.1 = nm)).map (·.2) := if_pos rfl
  unfold findV
  rw [← hr, ← hp]
  rcases h with ⟨h1, rfl, h3⟩ | ⟨u, y, h1, rfl, h3, h4⟩
  · rw [h1]
    exact ⟨h3, nilVA, false, rfl, nil_tree _ _ _⟩
  · rw [h1]
    exact ⟨h4, y, true, rfl, h3⟩
/-- the reference's steps -/
theorem mgK_del {d : Nat} {a b : VT} {k : Nat} (h : k < b.mem.length) (hs : Srt (mgK d a b k)) (h0 : b.mem[k].2.kind = 0) : mgK d a b (k + 1) = (mgK d a b k).filter (fun p => !decide (p.1 = b.mem[k].1)) := by
  rw [mgK_next d a b h, mrgS_eq _ hs, mrgSR, if_pos h0]
theorem mgK_put {d : Nat} {a b : VT} {k : Nat} (h : k < b.mem.length) (hs : Srt (mgK d a b k)) (h0 : b.mem[k].2.kind ≠ 0) : mgK d a b (k + 1) = putM (mgK d a b k) (b.mem[k].1, mrgP d (findV (mgK d a b k) b.mem[k].1) b.mem[k].2) := by
  rw [mgK_next d a b h, mrgS_eq _ hs, mrgSR, if_neg h0]
theorem mg0_own {d : Nat} {a : VT} (h : OwnM (d + 1) a) : mg0 a = a.mem := by
  unfold mg0
  split
  · rfl
  · rename_i hk
    exact (h.2.1 hk).symm
/-- where the trees of a merged value may lie: not in the call's own boxes -/
abbrev RmG (G : Nat → Prop) (xb rb ob : Nat) : Nat → Prop := fun g => (G g ∧ g < xb) ∨ (rb < g ∧ g ≠ ob)
/-- what the loop keeps -/
structure RmI (w : World) (xb rb ob d : Nat) (G : Nat → Prop) (L : List Mem) (A : Option Addr) (n c : Nat) (wr : World) : Prop where
  rcb : Blk wr rb 29 #[.int .i64 0, .bool false, .int .i64 0, .string ⟨#[]⟩, .slice none 0 0, .slice none 0 0]
  obb : Blk wr ob 29 #[.int .i64 5, .bool false, .int .i64 0, .string ⟨#[]⟩, .slice none 0 0, .slice A n c]
  row : ∃ ms : List MA, Own wr (rb + 1) 54 7 MA.enc A n c ms ∧ Al (TM wr (fun g => RmG G xb rb ob g ∧ blkOf A ≠ some g) d) ms L
  off : blkOf A ≠ some ob
  new : New w wr
  ord : w.heap.size = xb ∧ xb < rb ∧ rb < ob
theorem RmI.more {w wr w' : World} {xb rb ob d : Nat} {G : Nat → Prop} {L : List Mem} {A : Option Addr} {n c : Nat} (h : RmI w xb rb ob d G L A n c wr) (hm : New wr w') : RmI w xb rb ob d G L A n c w' := by
  obtain ⟨ms, h1, h2⟩ := h.row
  exact ⟨h.rcb.mod hm (fun e => e), h.obb.mod hm (fun e => e), ⟨ms, h1.new hm, Al.imp (fun _ _ q => ⟨q.1, q.2.new hm⟩) h2⟩, h.off, h.new.trans hm, h.ord⟩
theorem RmI.len {w wr : World} {xb rb ob d : Nat} {G : Nat → Prop} {L : List Mem} {A : Option Addr} {n c : Nat} (h : RmI w xb rb ob d G L A n c wr) : n = L.length := by
  obtain ⟨ms, h1, h2⟩ := h.row
  rw [← h2.len, h1.1]
theorem RmI.far {w wr : World} {xb rb ob d : Nat} {G : Nat → Prop} {L : List Mem} {A : Option Addr} {n c : Nat} (h : RmI w xb rb ob d G L A n c wr) : ∀ g, blkOf A = some g → rb + 1 ≤ g ∧ g < wr.heap.size ∧ g ≠ ob := fun g e => by
  obtain ⟨ms, h1, -⟩ := h.row
  have h2 := h1.far' g e
  exact ⟨h2.1, h2.2.1, fun q => h.off (by rw [e, q])⟩
/-- behind a step that has put another row into out -/
theorem RmI.upd {w wr w1 w2 w3 : World} {xb rb ob d : Nat} {G : Nat → Prop} {L L' : List Mem} {A A' : Option Addr} {n c n' c' : Nat} {ms' : List MA} (h : RmI w xb rb ob d G L A n c wr) (h1 : New wr w1) (h2 : Mod (fun k => blkOf A = some k) w1 w2) (hS : Only ob w2 w3)
    (hob : Blk w3 ob 29 #[.int .i64 5, .bool false, .int .i64 0, .string ⟨#[]⟩, .slice none 0 0, .slice A' n' c']) (ho : Own w2 (rb + 1) 54 7 MA.enc A' n' c' ms') (hA : blkOf A' ≠ some ob)
    (ha : Al (TM w2 (fun g => RmG G xb rb ob g ∧ blkOf A' ≠ some g) d) ms' L') : RmI w xb rb ob d G L' A' n' c' w3 := by
  obtain ⟨o1, o2, o3⟩ := h.ord
  have hf := h.far
  refine ⟨((h.rcb.mod h1 (fun e => e)).mod h2 (fun e => by have := hf _ e; omega)).mod hS (by omega), hob, ⟨ms', ho.mod hS (fun g e q => by subst q; exact hA e), Al.imp (fun _ _ q => ⟨q.1, Tree.mod hS (fun g hg _ e => by
    rcases hg.1 with q | q
    · omega
    · omega) _ _ _ q.2⟩) ha⟩, hA, ?_, h.ord⟩
  exact ((h.new.trans h1).step h2 (fun i hi e => by have := hf _ e; omega)).step hS (fun i hi e => by omega)
/-- out as a value in memory -/
theorem RmI.tree {w wr : World} {xb rb ob d : Nat} {G : Nat → Prop} {L : List Mem} {A : Option Addr} {n c : Nat} (h : RmI w xb rb ob d G L A n c wr) : Tree wr (RmG G xb rb ob) (d + 1) ⟨5, false, 0, ⟨#[]⟩, none, 0, 0, A, n, c⟩ (.mk 5 false 0 ⟨#[]⟩ [] L) := by
  obtain ⟨ms, h1, h2⟩ := h.row
  exact Tree.of_als (x := ⟨5, false, 0, ⟨#[]⟩, none, 0, 0, A, n, c⟩) (xs := []) (ms := ms) Row.nil trivial (h1.row' (fun g e hg => .inr ⟨by omega, fun q => h.off (by rw [e, q])⟩)) (Al.imp (fun m p q => ⟨q.1, Tree.imp (fun g hg _ => hg.1) _ _ _ q.2⟩) h2)
def RmSpec (d : Nat) : Prop := ∀ (G : Nat → Prop) (x y : VA) (a b : VT) (m1 : Nat) (w : World), Tree w G d x a → Tree w G d y b → OwnM d a → OwnM d b → Wide m1 d a → Wide 60 d b → m1 + 60 * d ≤ 5000 →
  Calls Tryz.prog 16 #[x.val, y.val] w (RMg G d w (mrgP d a b))
set_option maxHeartbeats 1000000 in
theorem mergeOf1_np (w : World) (A : Option Addr) (sb : Nat) (sn : ByteArray) (v1 v2 v3 v4 v5 v6 : Value) (hb : Blk w sb 54 #[.string sn, v1, v2, v3, v4, v5, v6]) (hA : ¬ blkOf A = some sb) : NamePred w A 49 (.pointer (some ⟨sb, 0, none⟩)) sn := by
  intro m wr hw
  obtain ⟨zn0, zk, zf, zn, zw, zla, zln, zlc, zma, zmn, zmc⟩ := m
  have hx := Blk.new wr 54 #[.string zn0, .int .i64 zk, .bool zf, .int .i64 zn, .string zw, .slice zla zln zlc, .slice zma zmn zmc]
  have m1 : New wr (wr.alloc (.cells #[.string zn0, .int .i64 zk, .bool zf, .int .i64 zn, .string zw, .slice zla zln zlc, .slice zma zmn zmc] 54)) := (Mod.refl _ _).alloc _
  have hsb := (hb.mod hw hA).mod m1 (fun e => e)
  have s0 := hsb.cell 0
  have sl := hsb.lt
  simp only [List.getElem?_toArray, List.getElem?_cons_zero, List.getElem?_cons_succ] at s0
  clear hsb
  have HR : Hid ((zn0.toList == sn.toList) = isN sn ⟨zn0, ⟨zk, zf, zn, zw, zla, zln, zlc, zma, zmn, zmc⟩⟩) := Lib.hid (toList_beq _ _)
  obtain ⟨r, hr⟩ : ∃ r, (zn0.toList == sn.toList) = r := ⟨_, rfl⟩
  go_enter Tryz.func49, Tryz.ntmps49
  go_upto_region 1 with (fail)
  have HM := Lib.hid m1
  have b0 := hx.cell 0
  have bl := hx.lt
  simp only [List.getElem?_toArray, List.getElem?_cons_zero] at b0
  generalize wr.alloc (.cells #[.string zn0, .int .i64 zk, .bool zf, .int .i64 zn, .string zw, .slice zla zln zlc, .slice zma zmn zmc] 54) = w1 at *
  clear hx m1
  go_wp2_with fail
  go_ret
  exact ⟨ret_bool (by rw [← HR.out]; exact hr.symm), HM.out⟩
theorem enters_mergeOf1 (args : Array Value) (w : World) : (callFunc 49 args).run Tryz.prog w = .ok (.enter 49 args) w := by
  go_simp
set_option maxRecDepth 100000 in
set_option maxHeartbeats 700000 in
theorem mergeOf_walk (d : Nat) (IH : RmSpec d) : RmSpec (d + 1) := by
  intro G x y a b m1 w htx hty hoa hob hwa hwb hmd
  replace htx := htx.oldG
  replace hty := hty.oldG
  obtain ⟨xl, xs, -, -, h1, h2⟩ := htx.als
  obtain ⟨yl, ys, -, -, h3, h4⟩ := hty.als
  obtain ⟨f1, -, -, -, -, f6⟩ := htx.fields
  obtain ⟨g1, -, -, -, -, g6⟩ := hty.fields
  have HL1 := Lib.hid h1
  have HL2 := Lib.hid h2
  have HL3 := Lib.hid h3
  have HL4 := Lib.hid h4
  have HTY := Lib.hid hty
  have HOW := Lib.hid (mgK_own hoa hob)
  have HWD := Lib.hid (mgK_wide (m1 := m1) (m2 := 60) hwa hwb hob)
  have HWB := Lib.hid hwb
  have HOB := Lib.hid hob
  have HMG0 := Lib.hid (mg0_own hoa)
  have hp1 := hwa.2.1
  have hp2 := hwb.2.1
  obtain ⟨xk, xf, xn, xw, xla, xln, xlc, xma, xmn, xmc⟩ := x
  obtain ⟨yk, yf, yn, yw, yla, yln, ylc, yma, ymn, ymc⟩ := y
  simp only at f1 g1 f6 g6 HL1 HL3
  have HG1 := Lib.hid g1
  have HF6 := Lib.hid f6
  have HG6 := Lib.hid g6
  have HP : Hid (a.mem.length ≤ m1 ∧ b.mem.length ≤ 60) := Lib.hid ⟨hp1, hp2⟩
  have hxmn : xmn ≤ 5000 := by omega
  have hymn : ymn ≤ 60 := by omega
  clear htx hty hoa hob hwa hwb h1 h2 h3 h4 f1 g1 f6 g6 hp1 hp2
  have hx := Blk.new w 29 #[.int .i64 xk, .bool xf, .int .i64 xn, .string xw, .slice xla xln xlc, .slice xma xmn xmc]
  have hm1 : New w (w.alloc (.cells #[.int .i64 xk, .bool xf, .int .i64 xn, .string xw, .slice xla xln xlc, .slice xma xmn xmc] 29)) := (Mod.refl _ _).alloc _
  have z1 : (w.alloc (.cells #[.int .i64 xk, .bool xf, .int .i64 xn, .string xw, .slice xla xln xlc, .slice xma xmn xmc] 29)).heap.size = w.heap.size + 1 := by simp
  go_enter Tryz.func16, Tryz.ntmps16
  go_upto_region 1 with (fail)
  generalize w.alloc (.cells #[.int .i64 xk, .bool xf, .int .i64 xn, .string xw, .slice xla xln xlc, .slice xma xmn xmc] 29) = w1 at *
  have hy := Blk.new w1 29 #[.int .i64 yk, .bool yf, .int .i64 yn, .string yw, .slice yla yln ylc, .slice yma ymn ymc]
  have hm2 : New w1 (w1.alloc (.cells #[.int .i64 yk, .bool yf, .int .i64 yn, .string yw, .slice yla yln ylc, .slice yma ymn ymc] 29)) := (Mod.refl _ _).alloc _
  have z2 : (w1.alloc (.cells #[.int .i64 yk, .bool yf, .int .i64 yn, .string yw, .slice yla yln ylc, .slice yma ymn ymc] 29)).heap.size = w.heap.size + 1 + 1 := by simp [z1]
  rw [z1] at hy
  generalize w1.alloc (.cells #[.int .i64 yk, .bool yf, .int .i64 yn, .string yw, .slice yla yln ylc, .slice yma ymn ymc] 29) = w2 at *
  have hz := Blk.new w2 29 #[.int .i64 0, .bool false, .int .i64 0, .string ⟨#[]⟩, .slice none 0 0, .slice none 0 0]
  have hm3 : New w2 (w2.alloc (.cells #[.int .i64 0, .bool false, .int .i64 0, .string ⟨#[]⟩, .slice none 0 0, .slice none 0 0] 29)) := (Mod.refl _ _).alloc _
  have z3 : (w2.alloc (.cells #[.int .i64 0, .bool false, .int .i64 0, .string ⟨#[]⟩, .slice none 0 0, .slice none 0 0] 29)).heap.size = w.heap.size + 1 + 1 + 1 := by simp [z2]
  rw [z2] at hz
  generalize w2.alloc (.cells #[.int .i64 0, .bool false, .int .i64 0, .string ⟨#[]⟩, .slice none 0 0, .slice none 0 0] 29) = w3 at *
  have HX := Lib.hid ((hx.mod hm2 (fun e => e)).mod hm3 (fun e => e))
  have HY := Lib.hid (hy.mod hm3 (fun e => e))
  have HR := Lib.hid hz
  have HM := Lib.hid ((hm1.trans hm2).trans hm3)
  have HZ3 := Lib.hid z3
  clear hx hy hz hm1 hm2 hm3 z1 z2 z3
  generalize hxb : w.heap.size = xb at *
  generalize hyb : xb + 1 = yb at *
  generalize hrb : yb + 1 = rb at *
  have HXB : Hid (w.heap.size = xb ∧ xb < rb ∧ yb < rb ∧ xb < yb ∧ w3.heap.size = rb + 1) := Lib.hid ⟨hxb, by omega, by omega, by omega, HZ3.out⟩
  clear hxb hyb hrb HZ3
  by_cases hk : yk = 5
  rotate_left
  · have hkb : (yk != 5) = true := by simpa using hk
    have HEQ : Hid (mrgP (d + 1) a b = b) := Lib.hid (mrgP_other (by rw [HG1.out]; exact hk))
    clear hk
    have e0 := HY.out.cell 0
    have e1 := HY.out.cell 1
    have e2 := HY.out.cell 2
    have e3 := HY.out.cell 3
    have e4 := HY.out.cell 4
    have e5 := HY.out.cell 5
    have el := HY.out.lt
    have ef := HY.out.frozen
    simp only [List.getElem?_toArray, List.getElem?_cons_zero, List.getElem?_cons_succ] at e0 e1 e2 e3 e4 e5
    have r0 := HR.out.cell 0
    have r1 := HR.out.cell 1
    have r2 := HR.out.cell 2
    have r3 := HR.out.cell 3
    have r4 := HR.out.cell 4
    have r5 := HR.out.cell 5
    have rl := HR.out.lt
    have rf := HR.out.frozen
    simp only [List.getElem?_toArray, List.getElem?_cons_zero, List.getElem?_cons_succ] at r0 r1 r2 r3 r4 r5
    go_wp2_with fail
    clear e0 e1 e2 e3 e4 e5 el ef r0 r1 r2 r3 r4 r5 rl rf
    have HRN := Lib.hid (Blk.copy6 HR.out (.int .i64 yk) (.bool yf) (.int .i64 yn) (.string yw) (.slice yla yln ylc) (.slice yma ymn ymc))
    have HMN := Lib.hid (Only.cell6 w3 rb (.int .i64 yk) (.bool yf) (.int .i64 yn) (.string yw) (.slice yla yln ylc) (.slice yma ymn ymc))
    generalize (((((w3.setCell ⟨rb, 0, none⟩ (.int .i64 yk)).setCell ⟨rb, 1, none⟩ (.bool yf)).setCell ⟨rb, 2, none⟩ (.int .i64 yn)).setCell ⟨rb, 3, none⟩ (.string yw)).setCell ⟨rb, 4, none⟩ (.slice yla yln ylc)).setCell ⟨rb, 5, none⟩ (.slice yma ymn ymc) = w4 at *
    have r0 := HRN.out.cell 0
    have r1 := HRN.out.cell 1
    have r2 := HRN.out.cell 2
    have r3 := HRN.out.cell 3
    have r4 := HRN.out.cell 4
    have r5 := HRN.out.cell 5
    have rl := HRN.out.lt
    have rf := HRN.out.frozen
    simp only [List.getElem?_toArray, List.getElem?_cons_zero, List.getElem?_cons_succ] at r0 r1 r2 r3 r4 r5
    refine bodyPost_ret (v := VA.val ⟨yk, yf, yn, yw, yla, yln, ylc, yma, ymn, ymc⟩) (by simp [results, Tryz.results16, go_sem, r0, r1, r2, r3, r4, r5, rl, rf]) rfl ?_
    refine ⟨_, rfl, ?_, HM.out.step HMN.out (fun i hi e => by have := HXB.out; omega)⟩
    rw [HEQ.out]
    exact Tree.imp (fun g hg _ => .inl hg.1) _ _ _ (Tree.mod HMN.out (fun g hg _ e => by have := HXB.out; have := hg.2; omega) _ _ _ (HTY.out.new HM.out))
  have hkb : (yk != 5) = false := by simpa using hk
  have HEQ : Hid (mrgP (d + 1) a b = .mk 5 false 0 ⟨#[]⟩ [] (mgK d a b b.mem.length)) := Lib.hid (mrgP_eq (by rw [HG1.out]; exact hk))
  clear hk
  have hcl := cloneMA xs xma xmn xmc w3 (HL1.out.sl.new HM.out) (by omega)
  have e0 := HY.out.cell 0
  have e1 := HY.out.cell 1
  have e2 := HY.out.cell 2
  have e3 := HY.out.cell 3
  have e4 := HY.out.cell 4
  have e5 := HY.out.cell 5
  have el := HY.out.lt
  have ef := HY.out.frozen
  simp only [List.getElem?_toArray, List.getElem?_cons_zero, List.getElem?_cons_succ] at e0 e1 e2 e3 e4 e5
  have x5 := HX.out.cell 5
  have xlt := HX.out.lt
  simp only [List.getElem?_toArray, List.getElem?_cons_zero, List.getElem?_cons_succ] at x5
  go_wp2_with fail
  clear e0 e1 e2 e3 e4 e5 el ef x5 xlt
  refine hcl.mono ?_
  clear hcl
  rintro e w4 ⟨A4, c4, rfl, own4, m4⟩
  have bo := Blk.new w4 29 #[.int .i64 5, .bool false, .int .i64 0, .string ⟨#[]⟩, .slice none 0 0, .slice A4 xmn c4]
  have mo : New w4 (w4.alloc (.cells #[.int .i64 5, .bool false, .int .i64 0, .string ⟨#[]⟩, .slice none 0 0, .slice A4 xmn c4] 29)) := (Mod.refl _ _).alloc _
  go_upto_region 4 with (fail)
  have HI : Hid (RmI w xb rb w4.heap.size d G (mgK d a b 0) A4 xmn c4 (w4.alloc (.cells #[.int .i64 5, .bool false, .int .i64 0, .string ⟨#[]⟩, .slice none 0 0, .slice A4 xmn c4] 29))) := Lib.hid (by
    obtain ⟨o1, o2, o3, o4, o5⟩ := HXB.out
    have hf := own4.far'
    have hs := m4.size
    refine ⟨(HR.out.mod m4 (fun e => e)).mod mo (fun e => e), bo, ⟨xs, (own4.less (by omega)).new mo, ?_⟩, fun e => by have := hf _ e; omega, (HM.out.trans m4).trans mo, ⟨o1, o2, by omega⟩⟩
    have hk0 : mgK d a b 0 = a.mem := by unfold mgK; rw [List.take_zero, List.foldl_nil, HMG0.out]
    rw [hk0]
    exact Al.imp (fun m p q => ⟨q.1, (Tree.imp (fun g hg _ => ⟨.inl hg, fun e => by have := hf g e; have := hg.2; omega⟩) _ _ _ q.2).new ((HM.out.trans m4).trans mo)⟩) HL2.out)
  have HY4 := Lib.hid ((HY.out.mod m4 (fun e => e)).mod mo (fun e => e))
  clear bo mo own4 m4 HX HY HR HM
  generalize w4.alloc (.cells #[.int .i64 5, .bool false, .int .i64 0, .string ⟨#[]⟩, .slice none 0 0, .slice A4 xmn c4] 29) = w5 at *
  generalize w4.heap.size = ob at *
  have e0 := HY4.out.cell 0
  have e1 := HY4.out.cell 1
  have e2 := HY4.out.cell 2
  have e3 := HY4.out.cell 3
  have e4 := HY4.out.cell 4
  have e5 := HY4.out.cell 5
  have el := HY4.out.lt
  have ef := HY4.out.frozen
  simp only [List.getElem?_toArray, List.getElem?_cons_zero, List.getElem?_cons_succ] at e0 e1 e2 e3 e4 e5
  go_wp2_with fail
  clear e0 e1 e2 e3 e4 e5 el ef HY4 
  go_loopw [22] (fun i wr => ∃ (k : Nat) (A1 : Option Addr) (n1 c1 : Nat), k ≤ ymn ∧ i = .int .i64 k ∧ Hid (RmI w xb rb ob d G (mgK d a b k) A1 n1 c1 wr)) (fun i _ => ymn - (intOf i).toNat)
  case atStart => exact ⟨0, _, _, _, Nat.zero_le _, rfl, HI⟩
  clear HI
  case round =>
    rename World => wr
    obtain ⟨k, A1, n1, c1, hk, rfl, HI⟩ := hrel
    by_cases hlt : k < ymn
    · have hkx : k < ys.length := by have := HL3.out.1; omega
      have hkv : k < b.mem.length := by have := HG6.out; omega
      obtain ⟨g2, o2, hA2, htb, hc0⟩ := (HL3.out.sl.new HI.out.new).2 (by omega)
      subst hA2
      have hgl := htb.lt
      have hty := HL4.out.get k hkx hkv
      have hc := fun q (hq : q < 7) => hc0 k hkx q hq
      have HDL := Lib.hid (mgK_del (d := d) (a := a) hkv (HOW.out k).1)
      have HPT := Lib.hid (mgK_put (d := d) (a := a) hkv (HOW.out k).1)
      have HOWB := Lib.hid (HOB.out.2.2 _ (List.getElem_mem hkv))
      have HWDB := Lib.hid (HWB.out.2.2.2.2 _ (List.getElem_mem hkv)).2
      have HLE : Hid ((mgK d a b k).length ≤ 5000) := Lib.hid (by
        have h1 := mgK_len d a b k
        have h2 := HP.out
        omega)
      have HNM := Lib.hid hty.1
      have HTM := Lib.hid hty.2
      have HKD := Lib.hid hty.2.fields.1
      clear hc0 htb hty
      generalize ys[k] = z at *
      generalize b.mem[k] = mb at *
      obtain ⟨zn0, zk, zf, zn, zw, zla, zln, zlc, zma, zmn, zmc⟩ := z
      obtain ⟨nm, vb⟩ := mb
      simp only at HNM HKD HDL HPT
      obtain rfl : zn0 = nm := HNM.out
      have b0 := hc 0 (by omega)
      have b1 := hc 1 (by omega)
      have b2 := hc 2 (by omega)
      have b3 := hc 3 (by omega)
      have b4 := hc 4 (by omega)
      have b5 := hc 5 (by omega)
      have b6 := hc 6 (by omega)
      simp only [MA.enc, VA.enc, Nat.add_zero, Nat.zero_add] at b0 b1 b2 b3 b4 b5 b6
      clear hc HNM
      have hb2 : (0 : Int) ≤ k := by omega
      have hb3 : (k : Int) < ymn := by omega
      have m5 : New wr (wr.alloc (.cells #[.string zn0, .int .i64 zk, .bool zf, .int .i64 zn, .string zw, .slice zla zln zlc, .slice zma zmn zmc] 54)) := (Mod.refl _ _).alloc _
      have hlb := Blk.new wr 54 #[.string zn0, .int .i64 zk, .bool zf, .int .i64 zn, .string zw, .slice zla zln zlc, .slice zma zmn zmc]
      go_upto_region 7 with (fail)
      generalize wr.alloc (.cells #[.string zn0, .int .i64 zk, .bool zf, .int .i64 zn, .string zw, .slice zla zln zlc, .slice zma zmn zmc] 54) = w6 at *
      have HI6 := Lib.hid (HI.out.more m5)
      have HFM := Lib.hid HI.out.far
      have hsz := m5.size
      clear b0 b1 b2 b3 b4 b5 b6 hgl m5 HI
      have hlb1 := hlb.lt
      generalize hlbn : wr.heap.size = lb at *
      clear hlbn
      have d0 := hlb.cell 0
      have dl := hlb.lt
      simp only [List.getElem?_toArray, List.getElem?_cons_zero, List.getElem?_cons_succ] at d0
      have m6 : New w6 (w6.alloc (.cells #[.bool true, .string zn0, .int .i64 0] 76)) := (Mod.refl _ _).alloc _
      have hsb := Blk.new w6 76 #[.bool true, .string zn0, .int .i64 0]
      go_upto_region 8 with (fail)
      clear d0 dl
      generalize w6.alloc (.cells #[.bool true, .string zn0, .int .i64 0] 76) = w7 at *
      have HI7 := Lib.hid (HI6.out.more m6)
      have HLB := Lib.hid (hlb.mod m6 (fun e => e))
      have HSB := Lib.hid hsb
      clear HI6 hlb hsb m6 hlb1 hsz
      generalize w6.heap.size = sb at *
      obtain ⟨LK, hLK⟩ : ∃ l, mgK d a b k = l := ⟨_, rfl⟩
      have HOK := Lib.hid (HOW.out k)
      have HWK := Lib.hid (HWD.out k)
      rw [hLK] at HDL HPT HLE HI7 HOK HWK
      clear hLK
      have HN1 := Lib.hid HI7.out.len
      have hn1 : n1 ≤ 5000 := by have := HLE.out; have := HN1.out; omega
      have d1 := HLB.out.cell 1
      have dl := HLB.out.lt
      simp only [List.getElem?_toArray, List.getElem?_cons_zero, List.getElem?_cons_succ] at d1
      by_cases hzk : zk = 0
      · have hzb : (zk == 0) = true := by simpa using hzk
        have HNE : Hid (mgK d a b (k + 1) = LK.filter (fun p => !decide (p.1 = zn0))) := Lib.hid (HDL.out (by rw [HKD.out]; exact hzk))
        clear hzk
        obtain ⟨ms, hown, hal⟩ := HI7.out.row
        have hdel := deleteFunc_ma 49 (.pointer (some ⟨lb, 0, none⟩)) enters_mergeOf1 w7 (rb + 1) A1 n1 c1 ms zn0 hown (mergeOf1_np w7 A1 lb zn0 _ _ _ _ _ _ HLB.out (fun e => by have := (HFM.out _ e).2; omega)) (by omega)
        have HAL : Hid (Al (TM w7 (fun g => RmG G xb rb ob g ∧ blkOf A1 ≠ some g) d) (ms.filter fun m => !isN zn0 m) (LK.filter fun p => !decide (p.1 = zn0))) := Lib.hid (hal.filter (p := fun m => !isN zn0 m) (q := fun p => !decide (p.1 = zn0)) (fun m p h => by simp only [isN, h.1]))
        generalize ms.filter (fun m => !isN zn0 m) = MF at *
        have o5 := HI7.out.obb.cell 5
        have ol := HI7.out.obb.lt
        simp only [List.getElem?_toArray, List.getElem?_cons_zero, List.getElem?_cons_succ] at o5
        clear hal hown
        go_wp2_with fail
        clear d1 dl o5 ol
        refine hdel.mono ?_
        clear hdel
        rintro e w8 ⟨rfl, own8, m8⟩
        have HO8 := Lib.hid own8
        have HM8 := Lib.hid m8
        have HOX : Hid (Blk w8 ob 29 #[.int .i64 5, .bool false, .int .i64 0, .string ⟨#[]⟩, .slice none 0 0, .slice A1 n1 c1]) := Lib.hid (HI7.out.obb.mod m8 (fun e => HI7.out.off e))
        have o5 := HOX.out.cell 5
        have ol := HOX.out.lt
        have of := HOX.out.frozen
        simp only [List.getElem?_toArray, List.getElem?_cons_zero, List.getElem?_cons_succ] at o5
        clear own8 m8
        go_wp2_with fail
        clear o5 ol of
        go_roundw
        case rel =>
          refine ⟨k + 1, A1, MF.length, c1, by omega, by go_num, Lib.hid ?_⟩
          rw [HNE.out]
          have hob := HOX.out.set 5 (.slice A1 MF.length c1)
          simp only [Array.setIfInBounds, List.size_toArray, List.length_cons, List.length_nil, Nat.reduceAdd, Nat.reduceLT, ↓reduceDIte, List.set_toArray, List.set_cons_zero, List.set_cons_succ] at hob
          exact HI7.out.upd (Mod.refl _ _) HM8.out (Only.set (Mod.refl _ _) _ _) hob HO8.out HI7.out.off (Al.imp (fun m p q => ⟨q.1, tree_grow q.2 HM8.out (fun g e => .inl e)⟩) HAL.out)
        case measure => simp [intOf]; omega
      · have hzb : (zk == 0) = false := by simpa using hzk
        have HNE : Hid (mgK d a b (k + 1) = putM LK (zn0, mrgP d (findV LK zn0) vb)) := Lib.hid (HPT.out (by rw [HKD.out]; exact hzk))
        clear hzk
        obtain ⟨d', rfl⟩ : ∃ d', d = d' + 1 := by
          cases d with
          | zero => exact HTM.out.elim
          | succ d' => exact ⟨d', rfl⟩
        have HOO : Hid (OwnM (d' + 1) (findV LK zn0)) := Lib.hid (findV_all (OwnM.nil _) HOK.out.2)
        have HOWD : Hid (Wide (m1 + 60) (d' + 1) (findV LK zn0)) := Lib.hid (findV_all (wide_nil _ _) (fun p hp => (HWK.out p hp).2))
        have HWT : Hid (Wide 100000 (d' + 1 + 1) (.mk 5 false 0 ⟨#[]⟩ [] LK)) := Lib.hid ⟨by simp [VT.list], by have := HLE.out; simp only [VT.mem]; omega, by show (0 : Nat) ≤ 100000; omega, fun x hx => by simp [VT.list] at hx, fun p hp => ⟨(HWK.out p hp).1, Wide.mono (by omega) _ _ (HWK.out p hp).2⟩⟩
        have HYT : Hid (∀ W, New w W → Tree W (RmG G xb rb ob) (d' + 1) ⟨zk, zf, zn, zw, zla, zln, zlc, zma, zmn, zmc⟩ vb) := Lib.hid (fun W h => Tree.new (Tree.imp (fun g hg _ => .inl ⟨hg.1, by have := HXB.out.1; have := hg.2; omega⟩) _ _ _ HTM.out) h)
        obtain ⟨OV, hOV⟩ : ∃ V, findV LK zn0 = V := ⟨_, rfl⟩
        have HOV := Lib.hid hOV
        rw [hOV] at HNE HOO HOWD
        clear hOV
        have m8 : New w7 (w7.alloc (.cells #[.bool true, .string zn0, .int .i64 0] 76)) := (Mod.refl _ _).alloc _
        have b8 := Blk.new w7 76 #[.bool true, .string zn0, .int .i64 0]
        have o0 := HI7.out.obb.cell 0
        have o1 := HI7.out.obb.cell 1
        have o2 := HI7.out.obb.cell 2
        have o3 := HI7.out.obb.cell 3
        have o4 := HI7.out.obb.cell 4
        have o5 := HI7.out.obb.cell 5
        have ol := HI7.out.obb.lt
        have s0 := HSB.out.cell 0
        have s1 := HSB.out.cell 1
        have s2 := HSB.out.cell 2
        have sl := HSB.out.lt
        simp only [List.getElem?_toArray, List.getElem?_cons_zero, List.getElem?_cons_succ] at o0 o1 o2 o3 o4 o5 s0 s1 s2
        have hget := get_oneG (RmG G xb rb ob) d' ⟨5, false, 0, ⟨#[]⟩, none, 0, 0, A1, n1, c1⟩ (.mk 5 false 0 ⟨#[]⟩ [] LK) zn0 w7.heap.size _ (HI7.out.tree.new m8) HWT.out b8
        have HM8 := Lib.hid m8
        clear b8 m8
        go_wp2_with fail
        clear d1 dl o0 o1 o2 o3 o4 o5 ol s0 s1 s2 sl
        refine hget.mono ?_
        clear hget
        rintro e w9 ⟨m9, ⟨ok, of, on, ow, ola, oln, olc, oma, omn, omc⟩, q9, rfl, to9⟩
        have HTO : Hid (Tree w9 (RmG G xb rb ob) (d' + 1) ⟨ok, of, on, ow, ola, oln, olc, oma, omn, omc⟩ OV) := Lib.hid (by rw [← HOV.out]; exact to9)
        have HN9 := Lib.hid (HM8.out.trans m9)
        clear to9 m9 HM8
        have m10 : New w9 (w9.alloc (.cells #[.int .i64 ok, .bool of, .int .i64 on, .string ow, .slice ola oln olc, .slice oma omn omc] 29)) := (Mod.refl _ _).alloc _
        have b10 := Blk.new w9 29 #[.int .i64 ok, .bool of, .int .i64 on, .string ow, .slice ola oln olc, .slice oma omn omc]
        go_upto_region 11 with (fail)
        generalize w7.alloc (.cells #[.bool true, .string zn0, .int .i64 0] 76) = w8 at *
        generalize w9.alloc (.cells #[.int .i64 ok, .bool of, .int .i64 on, .string ow, .slice ola oln olc, .slice oma omn omc] 29) = w10 at *
        have HI10 := Lib.hid ((HI7.out.more HN9.out).more m10)
        have HLBX := Lib.hid ((HLB.out.mod HN9.out (fun e => e)).mod m10 (fun e => e))
        have HSBX := Lib.hid ((HSB.out.mod HN9.out (fun e => e)).mod m10 (fun e => e))
        have HTX := Lib.hid (HTO.out.new m10)
        have HBX := Lib.hid b10
        clear HI7 HLB HSB HN9 m10 HTO b10
        generalize w9.heap.size = vb9 at *
        have HCALL := Lib.hid (fun W (h : New w10 W) => IH (RmG G xb rb ob) ⟨ok, of, on, ow, ola, oln, olc, oma, omn, omc⟩ ⟨zk, zf, zn, zw, zla, zln, zlc, zma, zmn, zmc⟩ OV vb (m1 + 60) W (HTX.out.new h) (HYT.out W (HI10.out.new.trans h)) HOO.out HOWB.out HOWD.out HWDB.out (by omega))
        have HWITH := Lib.hid (fun W (h : New w10 W) (r : VA) (ht : Tree W (RmG G xb rb ob) (d' + 1) r (mrgP (d' + 1) OV vb)) => with_namedO (RmG G xb rb ob) (d' + 1) ⟨5, false, 0, ⟨#[]⟩, none, 0, 0, A1, n1, c1⟩ r (.mk 5 false 0 ⟨#[]⟩ [] LK) (mrgP (d' + 1) OV vb) zn0 0 W (HI10.out.tree.new h) ht HOK.out.1 HLE.out)
        have HSL : Hid (∀ W, New w10 W → W.cell? ⟨ob, 0, none⟩ = some (.int .i64 5) ∧ W.cell? ⟨ob, 1, none⟩ = some (.bool false) ∧ W.cell? ⟨ob, 2, none⟩ = some (.int .i64 0) ∧ W.cell? ⟨ob, 3, none⟩ = some (.string ⟨#[]⟩) ∧ W.cell? ⟨ob, 4, none⟩ = some (.slice none 0 0) ∧ W.cell? ⟨ob, 5, none⟩ = some (.slice A1 n1 c1) ∧
          W.cell? ⟨sb, 0, none⟩ = some (.bool true) ∧ W.cell? ⟨sb, 1, none⟩ = some (.string zn0) ∧ W.cell? ⟨sb, 2, none⟩ = some (.int .i64 0) ∧
          W.cell? ⟨vb9, 0, none⟩ = some (.int .i64 ok) ∧ W.cell? ⟨vb9, 1, none⟩ = some (.bool of) ∧ W.cell? ⟨vb9, 2, none⟩ = some (.int .i64 on) ∧ W.cell? ⟨vb9, 3, none⟩ = some (.string ow) ∧ W.cell? ⟨vb9, 4, none⟩ = some (.slice ola oln olc) ∧ W.cell? ⟨vb9, 5, none⟩ = some (.slice oma omn omc) ∧
          W.cell? ⟨lb, 1, none⟩ = some (.int .i64 zk) ∧ W.cell? ⟨lb, 2, none⟩ = some (.bool zf) ∧ W.cell? ⟨lb, 3, none⟩ = some (.int .i64 zn) ∧ W.cell? ⟨lb, 4, none⟩ = some (.string zw) ∧ W.cell? ⟨lb, 5, none⟩ = some (.slice zla zln zlc) ∧ W.cell? ⟨lb, 6, none⟩ = some (.slice zma zmn zmc) ∧ lb < W.heap.size ∧ ob < W.heap.size ∧ sb < W.heap.size ∧ vb9 < W.heap.size) := Lib.hid (fun W hW => by
          have h1 := HLBX.out.mod hW (fun e => e)
          have h2 := HI10.out.obb.mod hW (fun e => e)
          have h3 := HSBX.out.mod hW (fun e => e)
          have h4 := HBX.out.mod hW (fun e => e)
          exact ⟨(h2.cell 0).trans rfl, (h2.cell 1).trans rfl, (h2.cell 2).trans rfl, (h2.cell 3).trans rfl, (h2.cell 4).trans rfl, (h2.cell 5).trans rfl, (h3.cell 0).trans rfl, (h3.cell 1).trans rfl, (h3.cell 2).trans rfl, (h4.cell 0).trans rfl, (h4.cell 1).trans rfl, (h4.cell 2).trans rfl, (h4.cell 3).trans rfl, (h4.cell 4).trans rfl, (h4.cell 5).trans rfl, (h1.cell 1).trans rfl, (h1.cell 2).trans rfl, (h1.cell 3).trans rfl, (h1.cell 4).trans rfl, (h1.cell 5).trans rfl, (h1.cell 6).trans rfl, h1.lt, h2.lt, h3.lt, h4.lt⟩)
        refine wp_region_held_tree (New w10) 7 (by kernel_rfl) (by kernel_rfl) ?_
        have hn1 : New w10 w10.drew := (Mod.refl _ _).drew
        refine headW_take 0 _ ?_ (fun _ _ d _ _ h => by cases d <;> exact h) (by kernel_rfl) rfl (by kernel_rfl) hn1 (by rfl) (fun W hSw => ?_) ?_
        rotate_left
        · (have hq := HSL.out W hSw); (try simp only [List.getElem_toArray, List.getElem_cons_zero, List.getElem_cons_succ]); go_simp; any_goals (with_reducible rfl)
        simp only [Act.put, List.getElem_toArray, List.getElem_cons_zero, List.getElem_cons_succ, List.setIfInBounds_toArray, List.set_cons_zero, List.set_cons_succ]
        refine headW_take 1 _ ?_ (fun _ _ d _ _ h => by cases d <;> exact h) (by kernel_rfl) rfl (by kernel_rfl) hn1 (by rfl) (fun W hSw => ?_) ?_
        rotate_left
        · (have hq := HSL.out W hSw); (try simp only [List.getElem_toArray, List.getElem_cons_zero, List.getElem_cons_succ]); go_simp; any_goals (with_reducible rfl)
        simp only [Act.put, List.getElem_toArray, List.getElem_cons_zero, List.getElem_cons_succ, List.setIfInBounds_toArray, List.set_cons_zero, List.set_cons_succ]
        refine headW_take 2 _ ?_ (fun _ _ d _ _ h => by cases d <;> exact h) (by kernel_rfl) rfl (by kernel_rfl) hn1 (by rfl) (fun W hSw => ?_) ?_
        rotate_left
        · (have hq := HSL.out W hSw); (try simp only [List.getElem_toArray, List.getElem_cons_zero, List.getElem_cons_succ]); go_simp; any_goals (with_reducible rfl)
        simp only [Act.put, List.getElem_toArray, List.getElem_cons_zero, List.getElem_cons_succ, List.setIfInBounds_toArray, List.set_cons_zero, List.set_cons_succ]
        refine headW_take 3 _ ?_ (fun _ _ d _ _ h => by cases d <;> exact h) (by kernel_rfl) rfl (by kernel_rfl) hn1 (by rfl) (fun W hSw => ?_) ?_
        rotate_left
        · (have hq := HSL.out W hSw); (try simp only [List.getElem_toArray, List.getElem_cons_zero, List.getElem_cons_succ]); go_simp; any_goals (with_reducible rfl)
        simp only [Act.put, List.getElem_toArray, List.getElem_cons_zero, List.getElem_cons_succ, List.setIfInBounds_toArray, List.set_cons_zero, List.set_cons_succ]
        refine headW_take 4 _ ?_ (fun _ _ d _ _ h => by cases d <;> exact h) (by kernel_rfl) rfl (by kernel_rfl) hn1 (by rfl) (fun W hSw => ?_) ?_
        rotate_left
        · (have hq := HSL.out W hSw); (try simp only [List.getElem_toArray, List.getElem_cons_zero, List.getElem_cons_succ]); go_simp; any_goals (with_reducible rfl)
        simp only [Act.put, List.getElem_toArray, List.getElem_cons_zero, List.getElem_cons_succ, List.setIfInBounds_toArray, List.set_cons_zero, List.set_cons_succ]
        refine headW_ready [5] (by kernel_rfl) (by rfl) ?_
        refine eachW_step rfl rfl (fun K hK => ?_) eachW_nil
        have hcall := HCALL.out _ hn1
        (try simp only [List.getElem_toArray, List.getElem_cons_zero, List.getElem_cons_succ])
        go_simp
        refine hcall.mono ?_
        clear hcall HCALL
        rintro e w11 ⟨⟨rk, rff, rn, rw_, rla, rln, rlc, rma, rmn, rmc⟩, rfl, tr11, m11⟩
        have HN11 := Lib.hid (hn1.trans m11)
        have HT11 : Hid (Tree w11 (RmG G xb rb ob) (d' + 1) ⟨rk, rff, rn, rw_, rla, rln, rlc, rma, rmn, rmc⟩ (mrgP (d' + 1) OV vb)) := Lib.hid (Tree.imp (fun g hg _ => by
          rcases hg with hg | hg
          · exact hg
          · have h1 := HI10.out.obb.lt
            have h2 := hn1.size
            have h3 := HI10.out.ord
            exact .inr ⟨by omega, by omega⟩) _ _ _ tr11)
        clear tr11 m11
        go_wp2_with fail
        refine hK.out _ _ HN11.out (fun _ => ?_)
        clear hK K
        (try simp only [Act.put, List.getElem_toArray, List.getElem_cons_zero, List.getElem_cons_succ, List.setIfInBounds_toArray, List.set_cons_zero, List.set_cons_succ])
        refine headW_ready [6] (by kernel_rfl) (by rfl) ?_
        refine eachW_step rfl rfl (fun K hK => ?_) eachW_nil
        have hwith := HWITH.out _ HN11.out _ HT11.out
        (try simp only [List.getElem_toArray, List.getElem_cons_zero, List.getElem_cons_succ])
        go_simp
        refine hwith.mono ?_
        clear hwith HWITH
        rintro e w12 ⟨A12, n12, c12, ms12, rfl, own12, al12, m12⟩
        have HN12 := Lib.hid (HN11.out.trans m12)
        have HO12 := Lib.hid own12
        have HAL12 := Lib.hid al12
        have HM12 := Lib.hid m12
        clear own12 al12 m12
        go_wp2_with fail
        refine hK.out _ _ HN12.out (fun _ => ?_)
        clear hK K
        (try simp only [Act.put, List.getElem_toArray, List.getElem_cons_zero, List.getElem_cons_succ, List.setIfInBounds_toArray, List.set_cons_zero, List.set_cons_succ])
        refine headW_done (by kernel_rfl) ?_
        have HOX := Lib.hid (HI10.out.obb.mod HN12.out (fun e => e))
        have e0 := HOX.out.cell 0
        have e1 := HOX.out.cell 1
        have e2 := HOX.out.cell 2
        have e3 := HOX.out.cell 3
        have e4 := HOX.out.cell 4
        have e5 := HOX.out.cell 5
        have el := HOX.out.lt
        have ef := HOX.out.frozen
        simp only [List.getElem?_toArray, List.getElem?_cons_zero, List.getElem?_cons_succ] at e0 e1 e2 e3 e4 e5
        go_wp2_with fail
        clear e0 e1 e2 e3 e4 e5 el ef
        have HRN := Lib.hid (Blk.copy6 HOX.out (.int .i64 5) (.bool false) (.int .i64 0) (.string ⟨#[]⟩) (.slice none 0 0) (.slice A12 n12 c12))
        have HMN := Lib.hid (Only.cell6 w12 ob (.int .i64 5) (.bool false) (.int .i64 0) (.string ⟨#[]⟩) (.slice none 0 0) (.slice A12 n12 c12))
        go_roundw
        case rel =>
          refine ⟨k + 1, A12, n12, c12, by omega, by go_num, Lib.hid ?_⟩
          rw [HNE.out]
          have h1 := HI10.out.obb.lt
          have h2 := HN11.out.size
          have h3 := HI10.out.ord
          have hf := HO12.out.far'
          refine HI10.out.upd HN12.out (Mod.refl _ _) HMN.out HRN.out (HO12.out.less (by omega)) (fun e => by have := hf _ e; omega) ?_
          exact Al.imp (fun m p q => ⟨q.1, Tree.imp (fun g hg _ => ⟨hg.1, fun e => by have := hf _ e; have := hg.2; omega⟩) _ _ _ q.2⟩) HAL12.out
        case measure => simp [intOf]; omega
    · obtain rfl : ymn = k := by omega
      have HKE : Hid (mgK d a b ymn = mgK d a b b.mem.length) := Lib.hid (by rw [HG6.out])
      have o0 := HI.out.obb.cell 0
      have o1 := HI.out.obb.cell 1
      have o2 := HI.out.obb.cell 2
      have o3 := HI.out.obb.cell 3
      have o4 := HI.out.obb.cell 4
      have o5 := HI.out.obb.cell 5
      have ol := HI.out.obb.lt
      simp only [List.getElem?_toArray, List.getElem?_cons_zero, List.getElem?_cons_succ] at o0 o1 o2 o3 o4 o5
      have r0 := HI.out.rcb.cell 0
      have r1 := HI.out.rcb.cell 1
      have r2 := HI.out.rcb.cell 2
      have r3 := HI.out.rcb.cell 3
      have r4 := HI.out.rcb.cell 4
      have r5 := HI.out.rcb.cell 5
      have rl := HI.out.rcb.lt
      have rf := HI.out.rcb.frozen
      simp only [List.getElem?_toArray, List.getElem?_cons_zero, List.getElem?_cons_succ] at r0 r1 r2 r3 r4 r5
      go_wp2_with fail
      clear o0 o1 o2 o3 o4 o5 ol r0 r1 r2 r3 r4 r5 rl rf
      have HRN := Lib.hid (Blk.copy6 HI.out.rcb (.int .i64 5) (.bool false) (.int .i64 0) (.string ⟨#[]⟩) (.slice none 0 0) (.slice A1 n1 c1))
      have HMN := Lib.hid (Only.cell6 wr rb (.int .i64 5) (.bool false) (.int .i64 0) (.string ⟨#[]⟩) (.slice none 0 0) (.slice A1 n1 c1))
      generalize (((((wr.setCell ⟨rb, 0, none⟩ (.int .i64 5)).setCell ⟨rb, 1, none⟩ (.bool false)).setCell ⟨rb, 2, none⟩ (.int .i64 0)).setCell ⟨rb, 3, none⟩ (.string ⟨#[]⟩)).setCell ⟨rb, 4, none⟩ (.slice none 0 0)).setCell ⟨rb, 5, none⟩ (.slice A1 n1 c1) = wz at *
      have r0 := HRN.out.cell 0
      have r1 := HRN.out.cell 1
      have r2 := HRN.out.cell 2
      have r3 := HRN.out.cell 3
      have r4 := HRN.out.cell 4
      have r5 := HRN.out.cell 5
      have rl := HRN.out.lt
      have rf := HRN.out.frozen
      simp only [List.getElem?_toArray, List.getElem?_cons_zero, List.getElem?_cons_succ] at r0 r1 r2 r3 r4 r5
      refine bodyPost_ret (v := VA.val ⟨5, false, 0, ⟨#[]⟩, none, 0, 0, A1, n1, c1⟩) (by simp [results, Tryz.results16, go_sem, r0, r1, r2, r3, r4, r5, rl, rf]) rfl ?_
      have h1 := HXB.out
      refine ⟨_, rfl, ?_, HI.out.new.step HMN.out (fun i hi e => by omega)⟩
      rw [HEQ.out, ← HKE.out]
      refine Tree.imp (fun g hg _ => ?_) _ _ _ (Tree.mod HMN.out (fun g hg _ e => ?_) _ _ _ HI.out.tree)
      · rcases hg with e | e
        · exact .inl e.1
        · exact .inr (by omega)
      · rcases hg with e2 | e2
        · have := e2.2; omega
        · omega
theorem mergeOf_v : ∀ d, RmSpec d
  | 0 => fun G x y a b m1 w h => h.elim
  | d + 1 => mergeOf_walk d (mergeOf_v d)
end Go.Proofs.YtjfgfkbgbhbhjaaGreatDoor
