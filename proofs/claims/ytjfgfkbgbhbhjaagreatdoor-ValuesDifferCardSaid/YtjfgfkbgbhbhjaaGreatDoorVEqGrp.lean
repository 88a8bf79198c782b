/- Several texts in one. (1) The program: equal, whether two values compare as nought. Conditions: values that fit. (2) The program: differ.members, the changes of two members, given those of two values one level down. Conditions: values that fit, at most 400000 changes. (3) The program: differ.values, the changes that make a value of another one. Conditions: values that fit, at most 400000 changes, paths of at most 900. -/
import Derived.Test.YtjfgfkbgbhbhjaaGreatDoorValCGrp
import Derived.Test.YtjfgfkbgbhbhjaaGreatDoorChgMemGrp
import Derived.Test.YtjfgfkbgbhbhjaaGreatDoorDAddGrp
import Derived.Test.YtjfgfkbgbhbhjaaGreatDoorStrEGrp
import Derived.Test.YtjfgfkbgbhbhjaaGreatDoorBin

namespace Go.Proofs.YtjfgfkbgbhbhjaaGreatDoor
open Go.RowKit
set_option linter.unusedVariables false
set_option linter.unusedSimpArgs false

set_option maxHeartbeats 1000000 in
theorem value_equal (d : Nat) (x y : VA) (v u : VT) (G : Nat → Prop) (w : World) (ht : Tree w G d x v) (hu : Tree w G d y u) (hf : Fit d v) (hg : Fit d u) :
    Calls Tryz.prog 59 #[x.val, y.val] w fun e w' => e = .returned (.bool (decide (vCmp d v u = 0))) ∧ New w w' := by
  have HCO := Lib.hid (fun W (h : New w W) => compare_v d x y v u G W (ht.new h) (hu.new h) hf hg)
  have HE : Hid ((vCmp d v u == 0) = decide (vCmp d v u = 0)) := Lib.hid (by by_cases h : vCmp d v u = 0 <;> simp [h])
  clear ht hf hu hg
  generalize decide (vCmp d v u = 0) = R at *
  generalize vCmp d v u = r at *
  obtain ⟨xk, xf, xn, xw, xla, xln, xlc, xma, xmn, xmc⟩ := x
  obtain ⟨yk, yf, yn, yw, yla, yln, ylc, yma, ymn, ymc⟩ := y
  have hx := Blk.new w 29 #[.int .i64 xk, .bool xf, .int .i64 xn, .string xw, .slice xla xln xlc, .slice xma xmn xmc]
  have hm1 : New w (w.alloc (.cells #[.int .i64 xk, .bool xf, .int .i64 xn, .string xw, .slice xla xln xlc, .slice xma xmn xmc] 29)) := (Mod.refl _ _).alloc _
  have z1 : (w.alloc (.cells #[.int .i64 xk, .bool xf, .int .i64 xn, .string xw, .slice xla xln xlc, .slice xma xmn xmc] 29)).heap.size = w.heap.size + 1 := by simp
  go_enter Tryz.func59, Tryz.ntmps59
  go_upto_region 1 with (fail)
  generalize w.alloc (.cells #[.int .i64 xk, .bool xf, .int .i64 xn, .string xw, .slice xla xln xlc, .slice xma xmn xmc] 29) = w1 at *
  have hy := Blk.new w1 29 #[.int .i64 yk, .bool yf, .int .i64 yn, .string yw, .slice yla yln ylc, .slice yma ymn ymc]
  have hm2 : New w1 (w1.alloc (.cells #[.int .i64 yk, .bool yf, .int .i64 yn, .string yw, .slice yla yln ylc, .slice yma ymn ymc] 29)) := (Mod.refl _ _).alloc _
  rw [z1] at hy
  generalize w1.alloc (.cells #[.int .i64 yk, .bool yf, .int .i64 yn, .string yw, .slice yla yln ylc, .slice yma ymn ymc] 29) = w2 at *
  have hxx := hx.mod hm2 (fun e => e)
  generalize w.heap.size = xb at *
  generalize xb + 1 = yb at *
  have HM2 := Lib.hid (hm1.trans hm2)
  have hco := HCO.out w2 HM2.out
  have e0 := hxx.cell 0
  have e1 := hxx.cell 1
  have e2 := hxx.cell 2
  have e3 := hxx.cell 3
  have e4 := hxx.cell 4
  have e5 := hxx.cell 5
  have el := hxx.lt
  have f0 := hy.cell 0
  have f1 := hy.cell 1
  have f2 := hy.cell 2
  have f3 := hy.cell 3
  have f4 := hy.cell 4
  have f5 := hy.cell 5
  have fl := hy.lt
  simp only [List.getElem?_toArray, List.getElem?_cons_zero, List.getElem?_cons_succ] at e0 e1 e2 e3 e4 e5 f0 f1 f2 f3 f4 f5
  clear hx hxx hy hm1 hm2 z1
  go_wp2_with fail
  refine hco.mono ?_
  clear hco
  rintro e w5 ⟨rfl, m5⟩
  go_wp2_with fail
  go_ret
  exact ⟨ret_bool HE.out, HM2.out.trans m5⟩
end Go.Proofs.YtjfgfkbgbhbhjaaGreatDoor

namespace Go.Proofs.YtjfgfkbgbhbhjaaGreatDoor
open Go.RowKit
set_option linter.unusedVariables false
set_option linter.unusedSimpArgs false

/-- the names so far: those of the first k rows, and j of row k -/
def nmsSo (na nb : List ByteArray) (k j : Nat) : List ByteArray := if k = 0 then na.take j else if k = 1 then na ++ nb.take j else na ++ nb
theorem nmsSo_next {na nb : List ByteArray} {k : Nat} (hk : k < 2) : nmsSo na nb (k + 1) 0 = nmsSo na nb k (if k = 0 then na.length else nb.length) := by
  unfold nmsSo
  obtain rfl | rfl : k = 0 ∨ k = 1 := by omega
  · simp
  · simp
theorem nmsSo_len (na nb : List ByteArray) (k j : Nat) : (nmsSo na nb k j).length ≤ na.length + nb.length := by
  unfold nmsSo
  split
  · simp; omega
  · split
    · simp; omega
    · simp
theorem nmsSo_one {na nb : List ByteArray} {k j : Nat} {s : ByteArray} (h0 : k = 0 → na[j]? = some s) (h1 : k = 1 → nb[j]? = some s) (hk : k < 2) : nmsSo na nb k (j + 1) = nmsSo na nb k j ++ [s] := by
  unfold nmsSo
  obtain rfl | rfl : k = 0 ∨ k = 1 := by omega
  · obtain ⟨h, e⟩ := List.getElem?_eq_some_iff.1 (h0 rfl)
    simp only [if_true]
    rw [List.take_succ_eq_append_getElem h, e]
  · obtain ⟨h, e⟩ := List.getElem?_eq_some_iff.1 (h1 rfl)
    simp only [Nat.succ_ne_zero, if_false, if_true]
    rw [List.take_succ_eq_append_getElem h, e, List.append_assoc]
theorem insM_len (l : List Mem) (x : Mem) : (insM l x).length = l.length + 1 := by
  unfold insM
  have := place_le l x.1
  simp only [List.length_append, List.length_cons, List.length_take, List.length_drop]
  omega
theorem risM_len : ∀ (l : List ByteArray) (acc : List Mem), (l.foldl (fun acc s => if hasAt acc s = true then acc else insM acc (s, nilV)) acc).length ≤ acc.length + l.length
  | [], acc => by simp
  | s :: l, acc => by
    rw [List.foldl_cons]
    have h := risM_len l (if hasAt acc s = true then acc else insM acc (s, nilV))
    have h2 : (if hasAt acc s = true then acc else insM acc (s, nilV)).length ≤ acc.length + 1 := by
      split
      · omega
      · rw [insM_len]; omega
    rw [List.length_cons]
    omega
theorem risN_len (l : List ByteArray) : (risN l).length ≤ l.length := by
  have h := risM_len l []
  unfold risN
  rw [List.length_map]
  simpa [risM] using h
/-- what the first loops keep -/
structure NmI (w : World) (xb : Nat) (xc yc : Array Value) (N : Nat) (Aq : Option Addr) (nq cq : Nat) (ns : List ByteArray) (wr : World) : Prop where
  bx : Blk wr xb 29 xc
  by_ : Blk wr (xb + 1) 29 yc
  new : New w wr
  row : Own wr N 9 1 sEnc Aq nq cq ns
  le : N ≤ wr.heap.size
  lo : xb + 1 < N
  two : w.heap.size ≤ N
theorem NmI.more {w wr w' : World} {xb : Nat} {xc yc : Array Value} {N nq cq : Nat} {Aq : Option Addr} {ns : List ByteArray} (h : NmI w xb xc yc N Aq nq cq ns wr) (hm : New wr w') : NmI w xb xc yc N Aq nq cq ns w' :=
  ⟨h.bx.mod hm (fun e => e), h.by_.mod hm (fun e => e), h.new.trans hm, h.row.new hm, Nat.le_trans h.le hm.size, h.lo, h.two⟩
theorem NmI.next {w wr w' : World} {xb : Nat} {xc yc : Array Value} {N nq cq nq' cq' : Nat} {Aq Aq' : Option Addr} {ns ns' : List ByteArray} (h : NmI w xb xc yc N Aq nq cq ns wr) (ho : Own w' N 9 1 sEnc Aq' nq' cq' ns') (hm : Mod (fun k => blkOf Aq = some k) wr w') : NmI w xb xc yc N Aq' nq' cq' ns' w' := by
  have hf : ∀ g, blkOf Aq = some g → N ≤ g := fun g e => (h.row.tbO g e).2
  have h1 := h.lo
  have h2 := h.two
  exact ⟨h.bx.mod hm (fun e => by have := hf _ e; omega), h.by_.mod hm (fun e => by have := hf _ e; omega), h.new.step hm (fun i hi e => by have := hf _ e; omega), ho, Nat.le_trans h.le hm.size, h.lo, h.two⟩
set_option maxRecDepth 100000 in
set_option maxHeartbeats 700000 in
theorem df_members (D d : Nat) (IH : VSpec D d) (x y : VA) (a b : VT) (A : Option Addr) (n c : Nat) (ps : List St) (A0 : Option Addr) (n0 c0 : Nat) (L : List ChD) (B db : Nat) (w : World)
    (hD : DfAt w B db D A0 n0 c0 L) (htx : Tree w (fun _ => True) (d + 1) x a) (hty : Tree w (fun _ => True) (d + 1) y b) (hga : Good (d + 1) a) (hgb : Good (d + 1) b) (hfa : Fit (d + 1) a) (hfb : Fit (d + 1) b) (hs : Sl w 76 3 St.enc A n ps) (hn : n + d ≤ 899) (hd : d + 1 ≤ D)
    (hL : L.length + (nmsD d a b ps (nms2 a b) (nms2 a b).length).length ≤ 400000) :
    Calls Tryz.prog 60 #[.pointer (some ⟨db, 0, none⟩), x.val, y.val, .slice A n c] w (RDf w B db D A0 (L ++ nmsD d a b ps (nms2 a b) (nms2 a b).length)) := by
  obtain ⟨xl, xs, -, -, h1, h2⟩ := htx.als
  obtain ⟨yl, ys, -, -, h3, h4⟩ := hty.als
  obtain ⟨-, -, -, -, -, f6⟩ := htx.fields
  obtain ⟨-, -, -, -, -, g6⟩ := hty.fields
  have HKT : Hid (∀ W k z u, Mod (DfMod db A0) w W → Tree w (fun _ => True) k z u → Tree W (fun _ => True) k z u) := Lib.hid (fun W k z u h ht => Tree.mod h (fun g _ hg => by
    rcases hg with hg | hg
    · exact (hD).far hg (by decide) (by decide)
    · exact (hD).far hg (by decide) (by decide)) _ _ _ ht)
  have HKS : Hid (∀ W, Mod (DfMod db A0) w W → Sl W 76 3 St.enc A n ps) := Lib.hid (fun W h => (hs).mod h (fun g ht => (hD).far ht (by decide) (by decide)))
  have HKV : Hid (∀ W A' n' xs, Mod (DfMod db A0) w W → Row w (fun _ => True) 29 6 VA.enc A' n' xs → Row W (fun _ => True) 29 6 VA.enc A' n' xs) := Lib.hid (fun W A' n' xs h hr => hr.mod h (fun g _ ht => (hD).far ht (by decide) (by decide)))
  have HKM : Hid (∀ W A' n' xs, Mod (DfMod db A0) w W → Row w (fun _ => True) 54 7 MA.enc A' n' xs → Row W (fun _ => True) 54 7 MA.enc A' n' xs) := Lib.hid (fun W A' n' xs h hr => hr.mod h (fun g _ ht => (hD).far ht (by decide) (by decide)))
  have HL1 := Lib.hid h1
  have HL2 := Lib.hid h2
  have HL3 := Lib.hid h3
  have HL4 := Lib.hid h4
  have HGA := Lib.hid hga
  have HGB := Lib.hid hgb
  have HFA := Lib.hid hfa
  have HFB := Lib.hid hfb
  have hp1 := hfa.parts.2.1
  have hp2 := hfb.parts.2.1
  obtain ⟨xk, xf, xn, xw, xla, xln, xlc, xma, xmn, xmc⟩ := x
  obtain ⟨yk, yf, yn, yw, yla, yln, ylc, yma, ymn, ymc⟩ := y
  simp only at f6 g6 HL1 HL3
  have HF6 := Lib.hid f6
  have HG6 := Lib.hid g6
  have hxmn : xmn ≤ 1000 := by omega
  have hymn : ymn ≤ 1000 := by omega
  clear htx hty hga hgb hfa hfb hs h1 h2 h3 h4 f6 g6 hp1 hp2
  obtain ⟨na, hna⟩ : ∃ l, a.mem.map (·.1) = l := ⟨_, rfl⟩
  obtain ⟨nb, hnb⟩ : ∃ l, b.mem.map (·.1) = l := ⟨_, rfl⟩
  have HNS : Hid (nms2 a b = risN (na ++ nb)) := Lib.hid (by rw [← hna, ← hnb]; rfl)
  have HNA := Lib.hid hna
  have HNB := Lib.hid hnb
  have HNL : Hid (na.length = xmn ∧ nb.length = ymn) := Lib.hid (by rw [← hna, ← hnb, List.length_map, List.length_map]; exact ⟨HF6.out, HG6.out⟩)
  clear hna hnb
  have HD := Lib.hid hD
  have hx := Blk.new w 29 #[.int .i64 xk, .bool xf, .int .i64 xn, .string xw, .slice xla xln xlc, .slice xma xmn xmc]
  have hm1 : New w (w.alloc (.cells #[.int .i64 xk, .bool xf, .int .i64 xn, .string xw, .slice xla xln xlc, .slice xma xmn xmc] 29)) := (Mod.refl _ _).alloc _
  have z1 : (w.alloc (.cells #[.int .i64 xk, .bool xf, .int .i64 xn, .string xw, .slice xla xln xlc, .slice xma xmn xmc] 29)).heap.size = w.heap.size + 1 := by simp
  go_enter Tryz.func60, Tryz.ntmps60
  go_upto_region 1 with (fail)
  generalize w.alloc (.cells #[.int .i64 xk, .bool xf, .int .i64 xn, .string xw, .slice xla xln xlc, .slice xma xmn xmc] 29) = w1 at *
  have hy := Blk.new w1 29 #[.int .i64 yk, .bool yf, .int .i64 yn, .string yw, .slice yla yln ylc, .slice yma ymn ymc]
  have hm2 : New w1 (w1.alloc (.cells #[.int .i64 yk, .bool yf, .int .i64 yn, .string yw, .slice yla yln ylc, .slice yma ymn ymc] 29)) := (Mod.refl _ _).alloc _
  rw [z1] at hy
  generalize w1.alloc (.cells #[.int .i64 yk, .bool yf, .int .i64 yn, .string yw, .slice yla yln ylc, .slice yma ymn ymc] 29) = w2 at *
  have hxx := hx.mod hm2 (fun e => e)
  generalize hxb : w.heap.size = xb at *
  have HNW := Lib.hid (hm1.trans hm2)
  have HI : Hid (DfI w xb #[.int .i64 xk, .bool xf, .int .i64 xn, .string xw, .slice xla xln xlc, .slice xma xmn xmc] #[.int .i64 yk, .bool yf, .int .i64 yn, .string yw, .slice yla yln ylc, .slice yma ymn ymc] B db D A0 L A0 n0 c0 w2) := Lib.hid ⟨hxx, hy, hD.new (hm1.trans hm2), (hm1.trans hm2).mono (fun _ _ e => e.elim), fun g e => .inl e⟩
  clear hx hxx hy hm1 hm2 z1 hD
  have HI0 : Hid (NmI w xb #[.int .i64 xk, .bool xf, .int .i64 xn, .string xw, .slice xla xln xlc, .slice xma xmn xmc] #[.int .i64 yk, .bool yf, .int .i64 yn, .string yw, .slice yla yln ylc, .slice yma ymn ymc] w2.heap.size none 0 0 (nmsSo na nb 0 0) w2) := Lib.hid ⟨HI.out.bx, HI.out.by_, HNW.out, Own.nil, Nat.le_refl _, HI.out.by_.lt, by rw [hxb]; exact Nat.le_of_lt HI.out.bx.lt⟩
  have hxx := (HI.out).bx
  have hyy := (HI.out).by_
  have e0 := hxx.cell 0
  have e1 := hxx.cell 1
  have e2 := hxx.cell 2
  have e3 := hxx.cell 3
  have e4 := hxx.cell 4
  have e5 := hxx.cell 5
  have el := hxx.lt
  have f0 := hyy.cell 0
  have f1 := hyy.cell 1
  have f2 := hyy.cell 2
  have f3 := hyy.cell 3
  have f4 := hyy.cell 4
  have f5 := hyy.cell 5
  have fl := hyy.lt
  simp only [List.getElem?_toArray, List.getElem?_cons_zero, List.getElem?_cons_succ] at e0 e1 e2 e3 e4 e5 f0 f1 f2 f3 f4 f5
  clear hxx hyy
  go_wp2_with fail
  clear e0 e1 e2 e3 e4 e5 el f0 f1 f2 f3 f4 f5 fl
  clear HI
  go_loopw [25, 8] (fun i s wr => ∃ (k : Nat) (Aq : Option Addr) (nq cq : Nat), k ≤ 2 ∧ i = .int .i64 k ∧ s = .slice Aq nq cq ∧ Hid (NmI w xb #[.int .i64 xk, .bool xf, .int .i64 xn, .string xw, .slice xla xln xlc, .slice xma xmn xmc] #[.int .i64 yk, .bool yf, .int .i64 yn, .string yw, .slice yla yln ylc, .slice yma ymn ymc] w2.heap.size Aq nq cq (nmsSo na nb k 0) wr)) (fun i _ _ => 2 - (intOf i).toNat)
  case atStart => exact ⟨0, _, _, _, by omega, rfl, rfl, HI0⟩
  clear HI0
  case round =>
    rename World => wr
    obtain ⟨k, Aq, nq, cq, hk, rfl, rfl, HI⟩ := hrel
    have hix0 : ∀ W, (Instr.index 133 (.agg #[.slice xma xmn xmc, .slice yma ymn ymc]) (.int .i64 0)).run Tryz.prog W = .ok (.slice xma xmn xmc) W := fun _ => by kernel_rfl
    have hix1 : ∀ W, (Instr.index 133 (.agg #[.slice xma xmn xmc, .slice yma ymn ymc]) (.int .i64 1)).run Tryz.prog W = .ok (.slice yma ymn ymc) W := fun _ => by kernel_rfl
    by_cases hlt : k < 2
    · obtain rfl | rfl : k = 0 ∨ k = 1 := by omega
      · go_wp2_with fail
        go_loopw [30, 8] (fun i s wr => ∃ (j : Nat) (Aq : Option Addr) (nq cq : Nat), j ≤ xmn ∧ i = .int .i64 j ∧ s = .slice Aq nq cq ∧ Hid (NmI w xb #[.int .i64 xk, .bool xf, .int .i64 xn, .string xw, .slice xla xln xlc, .slice xma xmn xmc] #[.int .i64 yk, .bool yf, .int .i64 yn, .string yw, .slice yla yln ylc, .slice yma ymn ymc] w2.heap.size Aq nq cq (nmsSo na nb 0 j) wr)) (fun i _ _ => xmn - (intOf i).toNat)
        case atStart => exact ⟨0, _, _, _, Nat.zero_le _, rfl, rfl, HI⟩
        clear HI
        case round =>
          rename World => wr
          obtain ⟨j, Aq, nq, cq, hj, rfl, rfl, HI⟩ := hrel
          by_cases hlt2 : j < xmn
          · have hkx : j < (xs).length := by have := (HL1).out.1; omega
            have hkv : j < (a).mem.length := by have := (HL2).out.len; omega
            have hnm := ((HL2).out.get j hkx hkv).1
            obtain ⟨g2, o2, hA, htb, hc0⟩ := (Row.mod (HL1).out HI.out.new (fun _ _ _ e => e)).sl.2 (by omega)
            subst hA
            have hgl := htb.lt
            have HNX : Hid (nmsSo na nb 0 (j + 1) = nmsSo na nb 0 j ++ [(xs)[j].name]) := Lib.hid (nmsSo_one (by first | (intro _; rw [← HNA.out, List.getElem?_map, List.getElem?_eq_getElem hkv, hnm]; rfl) | (intro e; omega)) (by first | (intro _; rw [← HNA.out, List.getElem?_map, List.getElem?_eq_getElem hkv, hnm]; rfl) | (intro e; omega)) (by omega))
            have hnq : nq ≤ 5000 := by
              have h1 := HI.out.row.1
              have h2 := nmsSo_len na nb 0 j
              have h3 := HNL.out
              omega
            have hc := fun q (hq : q < 7) => hc0 j hkx q hq
            clear hc0 htb hnm
            generalize (xs)[j] = z at *
            obtain ⟨zn0, zk, zf, zn, zw, zla, zln, zlc, zma, zmn, zmc⟩ := z
            have b0 := hc 0 (by omega)
            have b1 := hc 1 (by omega)
            have b2 := hc 2 (by omega)
            have b3 := hc 3 (by omega)
            have b4 := hc 4 (by omega)
            have b5 := hc 5 (by omega)
            have b6 := hc 6 (by omega)
            simp only [MA.enc, VA.enc, Nat.add_zero, Nat.zero_add] at b0 b1 b2 b3 b4 b5 b6
            clear hc
            have hb2 : (0 : Int) ≤ j := by omega
            have hb3 : (j : Int) < xmn := by omega
            have m5 : New wr (wr.alloc (.cells #[.string zn0, .int .i64 zk, .bool zf, .int .i64 zn, .string zw, .slice zla zln zlc, .slice zma zmn zmc] 54)) := (Mod.refl _ _).alloc _
            have hlb := Blk.new wr 54 #[.string zn0, .int .i64 zk, .bool zf, .int .i64 zn, .string zw, .slice zla zln zlc, .slice zma zmn zmc]
            go_upto_region 8 with (fail)
            generalize wr.alloc (.cells #[.string zn0, .int .i64 zk, .bool zf, .int .i64 zn, .string zw, .slice zla zln zlc, .slice zma zmn zmc] 54) = w5 at *
            have HI5 := Lib.hid (HI.out.more m5)
            have d0 := hlb.cell 0
            have dl := hlb.lt
            simp only [List.getElem?_toArray, List.getElem?_cons_zero] at d0
            clear b0 b1 b2 b3 b4 b5 b6 hgl hlb m5 HI
            have m6 : New w5 (w5.alloc (.cells #[.string zn0] 9)) := (Mod.refl _ _).alloc _
            have hrow := HI5.out.row.new m6
            have hb6 : Blk (w5.alloc (.cells #[.string zn0] 9)) w5.heap.size 9 (encL 1 sEnc zn0).toArray := Blk.new _ _ _
            have hle6 := Nat.le_trans HI5.out.le m6.size
            have HM6 := Lib.hid m6
            clear m6
            go_wp2_with (at_builtin; refine wpList_push rfl _ _ _ rfl 16 Tryz.underlying79 einfo_str rfl hrow zn0 w5.heap.size rfl hb6 (fun q hq => sEnc_one _ q hq) (by omega) (by omega) hle6 ?_; intro g8 cap8 w8 own8 hm8 hat8 hlt8; have HO8 := Lib.hid own8; have HM8 := Lib.hid hm8; clear own8 hm8 hat8 hrow hb6)
            go_roundw
            case rel => exact ⟨_, _, _, ⟨j + 1, by omega, by go_num, _, _, _, rfl, Lib.hid (by rw [HNX.out]; exact (HI5.out.more HM6.out).next HO8.out HM8.out)⟩, rfl, rfl, rfl⟩
            case measure => simp [intOf]; omega
          · obtain rfl : xmn = j := by omega
            go_wp2_with fail
            go_roundw
            case rel => exact ⟨0 + 1, Aq, nq, cq, by omega, by go_num, rfl, Lib.hid (by rw [nmsSo_next (na := na) (nb := nb) (k := 0) (by omega)]; have h1 := HNL.out.1; have h2 := HNL.out.2; simp only [↓reduceIte, Nat.succ_ne_zero]; first | (rw [h1]; exact HI.out) | (rw [h2]; exact HI.out))⟩
            case measure => first | (simp [intOf]; done) | (simp [intOf]; omega)
      · go_wp2_with fail
        go_loopw [30, 8] (fun i s wr => ∃ (j : Nat) (Aq : Option Addr) (nq cq : Nat), j ≤ ymn ∧ i = .int .i64 j ∧ s = .slice Aq nq cq ∧ Hid (NmI w xb #[.int .i64 xk, .bool xf, .int .i64 xn, .string xw, .slice xla xln xlc, .slice xma xmn xmc] #[.int .i64 yk, .bool yf, .int .i64 yn, .string yw, .slice yla yln ylc, .slice yma ymn ymc] w2.heap.size Aq nq cq (nmsSo na nb 1 j) wr)) (fun i _ _ => ymn - (intOf i).toNat)
        case atStart => exact ⟨0, _, _, _, Nat.zero_le _, rfl, rfl, HI⟩
        clear HI
        case round =>
          rename World => wr
          obtain ⟨j, Aq, nq, cq, hj, rfl, rfl, HI⟩ := hrel
          by_cases hlt2 : j < ymn
          · have hkx : j < (ys).length := by have := (HL3).out.1; omega
            have hkv : j < (b).mem.length := by have := (HL4).out.len; omega
            have hnm := ((HL4).out.get j hkx hkv).1
            obtain ⟨g2, o2, hA, htb, hc0⟩ := (Row.mod (HL3).out HI.out.new (fun _ _ _ e => e)).sl.2 (by omega)
            subst hA
            have hgl := htb.lt
            have HNX : Hid (nmsSo na nb 1 (j + 1) = nmsSo na nb 1 j ++ [(ys)[j].name]) := Lib.hid (nmsSo_one (by first | (intro e; omega) | (intro _; rw [← HNB.out, List.getElem?_map, List.getElem?_eq_getElem hkv, hnm]; rfl)) (by first | (intro e; omega) | (intro _; rw [← HNB.out, List.getElem?_map, List.getElem?_eq_getElem hkv, hnm]; rfl)) (by omega))
            have hnq : nq ≤ 5000 := by
              have h1 := HI.out.row.1
              have h2 := nmsSo_len na nb 1 j
              have h3 := HNL.out
              omega
            have hc := fun q (hq : q < 7) => hc0 j hkx q hq
            clear hc0 htb hnm
            generalize (ys)[j] = z at *
            obtain ⟨zn0, zk, zf, zn, zw, zla, zln, zlc, zma, zmn, zmc⟩ := z
            have b0 := hc 0 (by omega)
            have b1 := hc 1 (by omega)
            have b2 := hc 2 (by omega)
            have b3 := hc 3 (by omega)
            have b4 := hc 4 (by omega)
            have b5 := hc 5 (by omega)
            have b6 := hc 6 (by omega)
            simp only [MA.enc, VA.enc, Nat.add_zero, Nat.zero_add] at b0 b1 b2 b3 b4 b5 b6
            clear hc
            have hb2 : (0 : Int) ≤ j := by omega
            have hb3 : (j : Int) < ymn := by omega
            have m5 : New wr (wr.alloc (.cells #[.string zn0, .int .i64 zk, .bool zf, .int .i64 zn, .string zw, .slice zla zln zlc, .slice zma zmn zmc] 54)) := (Mod.refl _ _).alloc _
            have hlb := Blk.new wr 54 #[.string zn0, .int .i64 zk, .bool zf, .int .i64 zn, .string zw, .slice zla zln zlc, .slice zma zmn zmc]
            go_upto_region 8 with (fail)
            generalize wr.alloc (.cells #[.string zn0, .int .i64 zk, .bool zf, .int .i64 zn, .string zw, .slice zla zln zlc, .slice zma zmn zmc] 54) = w5 at *
            have HI5 := Lib.hid (HI.out.more m5)
            have d0 := hlb.cell 0
            have dl := hlb.lt
            simp only [List.getElem?_toArray, List.getElem?_cons_zero] at d0
            clear b0 b1 b2 b3 b4 b5 b6 hgl hlb m5 HI
            have m6 : New w5 (w5.alloc (.cells #[.string zn0] 9)) := (Mod.refl _ _).alloc _
            have hrow := HI5.out.row.new m6
            have hb6 : Blk (w5.alloc (.cells #[.string zn0] 9)) w5.heap.size 9 (encL 1 sEnc zn0).toArray := Blk.new _ _ _
            have hle6 := Nat.le_trans HI5.out.le m6.size
            have HM6 := Lib.hid m6
            clear m6
            go_wp2_with (at_builtin; refine wpList_push rfl _ _ _ rfl 16 Tryz.underlying79 einfo_str rfl hrow zn0 w5.heap.size rfl hb6 (fun q hq => sEnc_one _ q hq) (by omega) (by omega) hle6 ?_; intro g8 cap8 w8 own8 hm8 hat8 hlt8; have HO8 := Lib.hid own8; have HM8 := Lib.hid hm8; clear own8 hm8 hat8 hrow hb6)
            go_roundw
            case rel => exact ⟨_, _, _, ⟨j + 1, by omega, by go_num, _, _, _, rfl, Lib.hid (by rw [HNX.out]; exact (HI5.out.more HM6.out).next HO8.out HM8.out)⟩, rfl, rfl, rfl⟩
            case measure => simp [intOf]; omega
          · obtain rfl : ymn = j := by omega
            go_wp2_with fail
            go_roundw
            case rel => exact ⟨1 + 1, Aq, nq, cq, by omega, by go_num, rfl, Lib.hid (by rw [nmsSo_next (na := na) (nb := nb) (k := 1) (by omega)]; have h1 := HNL.out.1; have h2 := HNL.out.2; simp only [↓reduceIte, Nat.succ_ne_zero]; first | (rw [h1]; exact HI.out) | (rw [h2]; exact HI.out))⟩
            case measure => first | (simp [intOf]; done) | (simp [intOf]; omega)
    · obtain rfl : k = 2 := by omega
      clear hix0 hix1
      have hrow := HI.out.row
      rw [show nmsSo na nb 2 0 = na ++ nb from rfl] at hrow
      have hnq : nq ≤ 100000 := by
        have h1 := HI.out.row.1
        have h2 := nmsSo_len na nb 2 0
        have h3 := HNL.out
        omega
      have hri := rising_v Aq nq cq (na ++ nb) wr hrow.sl hnq
      have HX := Lib.hid HI.out.bx
      have HY := Lib.hid HI.out.by_
      have HNE := Lib.hid HI.out.new
      clear hrow HI
      go_wp2_with fail
      refine hri.mono ?_
      clear hri
      intro e w5 hq
      unfold RRis at hq
      rw [← HNS.out] at hq
      obtain ⟨A5, c5, rfl, s5, m5⟩ := hq
      have HX5 := Lib.hid (HX.out.mod m5 (fun e => e))
      have HY5 := Lib.hid (HY.out.mod m5 (fun e => e))
      have HN5 := Lib.hid (HNE.out.trans m5)
      have HD5 := Lib.hid (HD.out.new HN5.out)
      have HS5 := Lib.hid s5
      have HP5 := Lib.hid ((HKS.out w (Mod.refl _ _)).new HN5.out)
      have HLA := Lib.hid (HL1.out.mod HN5.out (fun _ _ _ e => e))
      have HLB := Lib.hid (HL3.out.mod HN5.out (fun _ _ _ e => e))
      have HTA := Lib.hid (fun i h h' => ((HL2.out.get i h h').2.new HN5.out))
      have HTB := Lib.hid (fun i h h' => ((HL4.out.get i h h').2.new HN5.out))
      have hml : (nms2 a b).length ≤ 5000 := by
        have h1 := risN_len (na ++ nb)
        rw [← HNS.out, List.length_append] at h1
        have h2 := HNL.out
        omega
      clear s5 m5 HX HY HNE HKT HKS HKV HKM HD
      have HKT : Hid (∀ W k z u, Mod (DfMod db A0) w5 W → Tree w5 (fun _ => True) k z u → Tree W (fun _ => True) k z u) := Lib.hid (fun W k z u h ht => Tree.mod h (fun g _ hg => by
        rcases hg with hg | hg
        · exact (HD5.out).far hg (by decide) (by decide)
        · exact (HD5.out).far hg (by decide) (by decide)) _ _ _ ht)
      have HKS : Hid (∀ W, Mod (DfMod db A0) w5 W → Sl W 76 3 St.enc A n ps) := Lib.hid (fun W h => (HP5.out).mod h (fun g ht => (HD5.out).far ht (by decide) (by decide)))
      have HKV : Hid (∀ W A' n' xs, Mod (DfMod db A0) w5 W → Row w5 (fun _ => True) 29 6 VA.enc A' n' xs → Row W (fun _ => True) 29 6 VA.enc A' n' xs) := Lib.hid (fun W A' n' xs h hr => hr.mod h (fun g _ ht => (HD5.out).far ht (by decide) (by decide)))
      have HKM : Hid (∀ W A' n' xs, Mod (DfMod db A0) w5 W → Row w5 (fun _ => True) 54 7 MA.enc A' n' xs → Row W (fun _ => True) 54 7 MA.enc A' n' xs) := Lib.hid (fun W A' n' xs h hr => hr.mod h (fun g _ ht => (HD5.out).far ht (by decide) (by decide)))
      generalize hNS : nms2 a b = NS at *
      have HI0 : Hid (DfI w5 xb #[.int .i64 xk, .bool xf, .int .i64 xn, .string xw, .slice xla xln xlc, .slice xma xmn xmc] #[.int .i64 yk, .bool yf, .int .i64 yn, .string yw, .slice yla yln ylc, .slice yma ymn ymc] B db D A0 (L ++ nmsD d a b ps NS 0) A0 n0 c0 w5) := Lib.hid ⟨HX5.out, HY5.out, by rw [show nmsD d a b ps NS 0 = [] from rfl, List.append_nil]; exact HD5.out, Mod.refl _ _, fun g e => .inl e⟩
      clear HX5 HY5
      go_wp2_with fail
      go_loopw [44] (fun i wr => ∃ (k : Nat) (A1 : Option Addr) (n1 c1 : Nat), k ≤ NS.length ∧ i = .int .i64 k ∧ Hid (DfI w5 xb #[.int .i64 xk, .bool xf, .int .i64 xn, .string xw, .slice xla xln xlc, .slice xma xmn xmc] #[.int .i64 yk, .bool yf, .int .i64 yn, .string yw, .slice yla yln ylc, .slice yma ymn ymc] B db D A0 (L ++ nmsD d a b ps NS k) A1 n1 c1 wr)) (fun i _ => NS.length - (intOf i).toNat)
      case atStart => exact ⟨0, _, _, _, Nat.zero_le _, rfl, HI0⟩
      clear HI0
      case round =>
        rename World => wr
        obtain ⟨k, A1, n1, c1, hk, rfl, HI⟩ := hrel
        by_cases hlt : k < NS.length
        · have HSR := Lib.hid (HS5.out.mod HI.out.mod (fun g ht => HD5.out.far ht (by decide) (by decide)))
          obtain ⟨g2, o2, hA2, htb2, hc2⟩ := HSR.out.2 (by omega)
          have q0 := hc2 k hlt 0 (by omega)
          simp only [Nat.mul_one, Nat.add_zero, sEnc] at q0
          have ql := htb2.lt
          subst hA2
          have HNX := Lib.hid (nmsD_next d a b ps hlt)
          have hnl := nmsD_le d a b ps NS (k + 1)
          have hlen : (L ++ nmsD d a b ps NS k).length + (nmD d a b ps NS[k]).length ≤ 400000 := by
            rw [HNX.out] at hnl
            simp only [List.length_append] at hnl ⊢
            omega
          have HLEN := Lib.hid hlen
          have HSS := Lib.hid (HKS.out wr HI.out.mod)
          have HMA := Lib.hid (fun s W (h : New wr W) => memberAt_v xma xmn xmc xs a.mem s W ((HKM.out wr _ _ _ HI.out.mod HLA.out).sl.new h) HF6.out (fun i h h' => (HL2.out.get i h h').1) (own_idle HGA.out.1).2.2 (by omega))
          have HMB := Lib.hid (fun s W (h : New wr W) => memberAt_v yma ymn ymc ys b.mem s W ((HKM.out wr _ _ _ HI.out.mod HLB.out).sl.new h) HG6.out (fun i h h' => (HL4.out.get i h h').1) (own_idle HGB.out.1).2.2 (by omega))
          clear hc2 htb2 hnl hlen
          generalize NS[k] = nm at *
          have hb1 : (k : Int) < NS.length := by omega
          have hb2 : (0 : Int) ≤ k := by omega
          have hma := HMA.out nm wr (Mod.refl _ _)
          have hxx := (HI.out).bx
          have hyy := (HI.out).by_
          have e0 := hxx.cell 0
          have e1 := hxx.cell 1
          have e2 := hxx.cell 2
          have e3 := hxx.cell 3
          have e4 := hxx.cell 4
          have e5 := hxx.cell 5
          have el := hxx.lt
          have f0 := hyy.cell 0
          have f1 := hyy.cell 1
          have f2 := hyy.cell 2
          have f3 := hyy.cell 3
          have f4 := hyy.cell 4
          have f5 := hyy.cell 5
          have fl := hyy.lt
          simp only [List.getElem?_toArray, List.getElem?_cons_zero, List.getElem?_cons_succ] at e0 e1 e2 e3 e4 e5 f0 f1 f2 f3 f4 f5
          clear hxx hyy
          go_wp2_with fail
          refine hma.mono ?_
          clear hma
          rintro e w6 ⟨rfl, m6⟩
          clear e0 e1 e2 e3 e4 e5 el f0 f1 f2 f3 f4 f5 fl
          clear q0 ql
          have HI6 := Lib.hid (HI.out.new m6)
          have hmb := HMB.out nm w6 m6
          have HM6 := Lib.hid m6
          clear m6
          have hxx := (HI6.out).bx
          have hyy := (HI6.out).by_
          have e0 := hxx.cell 0
          have e1 := hxx.cell 1
          have e2 := hxx.cell 2
          have e3 := hxx.cell 3
          have e4 := hxx.cell 4
          have e5 := hxx.cell 5
          have el := hxx.lt
          have f0 := hyy.cell 0
          have f1 := hyy.cell 1
          have f2 := hyy.cell 2
          have f3 := hyy.cell 3
          have f4 := hyy.cell 4
          have f5 := hyy.cell 5
          have fl := hyy.lt
          simp only [List.getElem?_toArray, List.getElem?_cons_zero, List.getElem?_cons_succ] at e0 e1 e2 e3 e4 e5 f0 f1 f2 f3 f4 f5
          clear hxx hyy
          go_wp2_with fail
          refine hmb.mono ?_
          clear hmb
          rintro e w7 ⟨rfl, m7⟩
          clear e0 e1 e2 e3 e4 e5 el f0 f1 f2 f3 f4 f5 fl
          have HI7 := Lib.hid (HI6.out.new m7)
          have HM7 := Lib.hid (HM6.out.trans m7)
          clear m7 HI6 HM6
          have hvn := val_named nm w7
          go_wp2_with fail
          refine hvn.mono ?_
          clear hvn
          rintro e w8 ⟨rfl, m8⟩
          have HI8 := Lib.hid (HI7.out.new m8)
          have HM8 := Lib.hid (HM7.out.trans m8)
          clear m8 HI7 HM7
          have hbp := val_behindPath A n c ps ⟨true, nm, (0 : Int)⟩ w8 (HSS.out.new HM8.out) (by omega)
          unfold St.val at hbp
          simp only at hbp
          go_wp2_with fail
          refine hbp.mono ?_
          clear hbp
          rintro e w9 ⟨A9, c9, rfl, own9, m9⟩
          have HI9 := Lib.hid (HI8.out.new m9)
          have HM9 := Lib.hid (HM8.out.trans m9)
          have HS9 := Lib.hid own9.sl
          clear m9 own9 HI8 HM8
          have hl9 : (L ++ nmsD d a b ps NS k).length ≤ 500000 := by have := HLEN.out; omega
          cases hb : hasAt b.mem nm with
          | false =>
            have HND : Hid (nmD d a b ps nm = [⟨3, ps ++ [⟨true, nm, 0⟩], nilV⟩]) := Lib.hid (nmD_take (getR_not (own_idle HGB.out.1).2.2 nm hb))
            clear hb
            have hadd := df_add D 1 3 A9 (n + 1) c9 (ps ++ [⟨true, nm, (0 : Int)⟩]) nilVA nilV A1 n1 c1 _ B db w9 HI9.out.df HS9.out (nil_tree _ _ 0) (wide_nil _ _) (by omega) (by omega) hl9
            go_wp2_with fail
            refine hadd.mono ?_
            clear hadd
            intro e wz hr
            rw [← HND.out] at hr
            obtain ⟨rfl, Az, nz, cz, hiz⟩ := HI9.out.next hr
            have HIZ := Lib.hid hiz
            clear hiz hr
            go_wp2_with fail
            go_roundw
            case rel => exact ⟨k + 1, Az, nz, cz, by omega, by go_num, Lib.hid (by rw [HNX.out, ← List.append_assoc]; exact HIZ.out)⟩
            case measure => simp [intOf]; omega
          | true =>
            obtain ⟨hpb, hgb⟩ := getR_has (own_idle HGB.out.1).2.2 nm hb
            clear hb
            have hky : place b.mem nm < ys.length := by have := HL4.out.len; omega
            have htb := HKT.out wr _ _ _ HI.out.mod (HTB.out _ hky hpb)
            have hfb := (HFB.out.member hpb).1
            have hgdb := HGB.out.2.2 _ (List.getElem_mem hpb)
            obtain ⟨ub, hub⟩ : ∃ u, u = b.mem[place b.mem nm].2 := ⟨_, rfl⟩
            rw [← hub] at hgb htb hfb hgdb
            have hpy : place b.mem nm < ymn := by have := HG6.out; omega
            clear hub hpb
            obtain ⟨g3, o3, hA3, htb3, hc3⟩ := ((HKM.out wr _ _ _ HI.out.mod HLB.out).sl.new HM9.out).2 (by omega)
            subst hA3
            have HC3 : Hid (∀ W, New w9 W → ∀ q, q < 7 → W.cell? ⟨g3, o3 + place b.mem nm * 7 + q, none⟩ = some (MA.enc ys[place b.mem nm] q)) := Lib.hid (fun W h q hq => (h.cell (p := ⟨g3, o3 + place b.mem nm * 7 + q, none⟩) htb3.lt (fun e => e)).trans (hc3 _ hky q hq))
            have HG3 : Hid (∀ W, New w9 W → g3 < W.heap.size) := Lib.hid (fun W h => Nat.lt_of_lt_of_le htb3.lt h.size)
            clear hc3 htb3
            cases ha : hasAt a.mem nm with
            | false =>
              have HND : Hid (nmD d a b ps nm = [⟨1, ps ++ [⟨true, nm, 0⟩], ub⟩]) := Lib.hid (nmD_put (getR_not (own_idle HGA.out.1).2.2 nm ha) hgb)
              have hadd := df_add D d 1 A9 (n + 1) c9 (ps ++ [⟨true, nm, (0 : Int)⟩]) ys[place b.mem nm].v ub A1 n1 c1 _ B db w9 HI9.out.df HS9.out (htb.new HM9.out) hfb.2 (by omega) (by omega) hl9
              clear ha hgb htb hfb hgdb
              have b0 := HC3.out w9 (Mod.refl _ _) 0 (by omega)
              have b1 := HC3.out w9 (Mod.refl _ _) 1 (by omega)
              have b2 := HC3.out w9 (Mod.refl _ _) 2 (by omega)
              have b3 := HC3.out w9 (Mod.refl _ _) 3 (by omega)
              have b4 := HC3.out w9 (Mod.refl _ _) 4 (by omega)
              have b5 := HC3.out w9 (Mod.refl _ _) 5 (by omega)
              have b6 := HC3.out w9 (Mod.refl _ _) 6 (by omega)
              have bl := HG3.out w9 (Mod.refl _ _)
              clear HC3
              generalize ys[place b.mem nm] = z at *
              generalize place b.mem nm = PB at *
              obtain ⟨zn0, zk, zf, zn, zw, zla, zln, zlc, zma, zmn, zmc⟩ := z
              simp only [MA.enc, VA.enc, Nat.add_zero, Nat.zero_add] at b0 b1 b2 b3 b4 b5 b6
              have hbq1 : (PB : Int) < ymn := by omega
              have hbq2 : (0 : Int) ≤ PB := by omega
              have hxx := (HI9.out).bx
              have hyy := (HI9.out).by_
              have e0 := hxx.cell 0
              have e1 := hxx.cell 1
              have e2 := hxx.cell 2
              have e3 := hxx.cell 3
              have e4 := hxx.cell 4
              have e5 := hxx.cell 5
              have el := hxx.lt
              have f0 := hyy.cell 0
              have f1 := hyy.cell 1
              have f2 := hyy.cell 2
              have f3 := hyy.cell 3
              have f4 := hyy.cell 4
              have f5 := hyy.cell 5
              have fl := hyy.lt
              simp only [List.getElem?_toArray, List.getElem?_cons_zero, List.getElem?_cons_succ] at e0 e1 e2 e3 e4 e5 f0 f1 f2 f3 f4 f5
              clear hxx hyy
              go_wp2_with fail
              clear e0 e1 e2 e3 e4 e5 el f0 f1 f2 f3 f4 f5 fl
              refine hadd.mono ?_
              clear hadd
              intro e wz hr
              rw [← HND.out] at hr
              obtain ⟨rfl, Az, nz, cz, hiz⟩ := HI9.out.next hr
              have HIZ := Lib.hid hiz
              clear hiz hr
              go_wp2_with fail
              go_roundw
              case rel => exact ⟨k + 1, Az, nz, cz, by omega, by go_num, Lib.hid (by rw [HNX.out, ← List.append_assoc]; exact HIZ.out)⟩
              case measure => simp [intOf]; omega
            | true =>
              obtain ⟨hpa, hga⟩ := getR_has (own_idle HGA.out.1).2.2 nm ha
              clear ha
              have hkx : place a.mem nm < xs.length := by have := HL2.out.len; omega
              have hta := HKT.out wr _ _ _ HI.out.mod (HTA.out _ hkx hpa)
              have hfa := (HFA.out.member hpa).1
              have hgda := HGA.out.2.2 _ (List.getElem_mem hpa)
              obtain ⟨ua, hua⟩ : ∃ u, u = a.mem[place a.mem nm].2 := ⟨_, rfl⟩
              rw [← hua] at hga hta hfa hgda
              have hpx : place a.mem nm < xmn := by have := HF6.out; omega
              clear hua hpa
              obtain ⟨g4, o4, hA4, htb4, hc4⟩ := ((HKM.out wr _ _ _ HI.out.mod HLA.out).sl.new HM9.out).2 (by omega)
              subst hA4
              have HC4 : Hid (∀ W, New w9 W → ∀ q, q < 7 → W.cell? ⟨g4, o4 + place a.mem nm * 7 + q, none⟩ = some (MA.enc xs[place a.mem nm] q)) := Lib.hid (fun W h q hq => (h.cell (p := ⟨g4, o4 + place a.mem nm * 7 + q, none⟩) htb4.lt (fun e => e)).trans (hc4 _ hkx q hq))
              have HG4 : Hid (∀ W, New w9 W → g4 < W.heap.size) := Lib.hid (fun W h => Nat.lt_of_lt_of_le htb4.lt h.size)
              clear hc4 htb4
              have HND : Hid (nmD d a b ps nm = difF d ua ub (ps ++ [⟨true, nm, 0⟩])) := Lib.hid (nmD_both hga hgb)
              have hlen := HLEN.out
              rw [HND.out] at hlen
              have HIH := Lib.hid (fun W (h : New w9 W) => IH xs[place a.mem nm].v ys[place b.mem nm].v ua ub A9 (n + 1) c9 (ps ++ [⟨true, nm, 0⟩]) A1 n1 c1 _ B db W (HI9.out.df.new h) ((hta.new HM9.out).new h) ((htb.new HM9.out).new h) hgda hgdb hfa hfb (HS9.out.new h) (by omega) (by omega) hlen)
              clear hga hgb hta htb hfa hfb hgda hgdb hlen
              generalize xs[place a.mem nm] = z at *
              generalize ys[place b.mem nm] = u at *
              generalize place a.mem nm = PA at *
              generalize place b.mem nm = PB at *
              obtain ⟨zn0, zk, zf, zn, zw, zla, zln, zlc, zma, zmn, zmc⟩ := z
              obtain ⟨un0, uk, uf, un, uw, ula, uln, ulc, uma, umn, umc⟩ := u
              have HXB := Lib.hid HI9.out.bx
              have HYB := Lib.hid HI9.out.by_
              have HSL : Hid (∀ W, New w9 W → W.cell? ⟨xb, 5, none⟩ = some (.slice (some ⟨g4, o4, none⟩) xmn xmc) ∧ W.cell? ⟨xb + 1, 5, none⟩ = some (.slice (some ⟨g3, o3, none⟩) ymn ymc) ∧
                W.cell? ⟨g4, o4 + PA * 7 + 1, none⟩ = some (.int .i64 zk) ∧ W.cell? ⟨g4, o4 + PA * 7 + 2, none⟩ = some (.bool zf) ∧ W.cell? ⟨g4, o4 + PA * 7 + 3, none⟩ = some (.int .i64 zn) ∧ W.cell? ⟨g4, o4 + PA * 7 + 4, none⟩ = some (.string zw) ∧ W.cell? ⟨g4, o4 + PA * 7 + 5, none⟩ = some (.slice zla zln zlc) ∧ W.cell? ⟨g4, o4 + PA * 7 + 6, none⟩ = some (.slice zma zmn zmc) ∧
                W.cell? ⟨g3, o3 + PB * 7 + 1, none⟩ = some (.int .i64 uk) ∧ W.cell? ⟨g3, o3 + PB * 7 + 2, none⟩ = some (.bool uf) ∧ W.cell? ⟨g3, o3 + PB * 7 + 3, none⟩ = some (.int .i64 un) ∧ W.cell? ⟨g3, o3 + PB * 7 + 4, none⟩ = some (.string uw) ∧ W.cell? ⟨g3, o3 + PB * 7 + 5, none⟩ = some (.slice ula uln ulc) ∧ W.cell? ⟨g3, o3 + PB * 7 + 6, none⟩ = some (.slice uma umn umc) ∧
                xb < W.heap.size ∧ xb + 1 < W.heap.size ∧ g3 < W.heap.size ∧ g4 < W.heap.size) := Lib.hid (fun W hW => by
                have h1 := HXB.out.mod hW (fun e => e)
                have h2 := HYB.out.mod hW (fun e => e)
                have h3 := HC4.out W hW
                have h4 := HC3.out W hW
                exact ⟨(h1.cell 5).trans rfl, (h2.cell 5).trans rfl, h3 1 (by omega), h3 2 (by omega), h3 3 (by omega), h3 4 (by omega), h3 5 (by omega), h3 6 (by omega), h4 1 (by omega), h4 2 (by omega), h4 3 (by omega), h4 4 (by omega), h4 5 (by omega), h4 6 (by omega), h1.lt, h2.lt, HG3.out W hW, HG4.out W hW⟩)
              have hbq1 : (PB : Int) < ymn := by omega
              have hbq2 : (0 : Int) ≤ PB := by omega
              have hbq3 : (PA : Int) < xmn := by omega
              have hbq4 : (0 : Int) ≤ PA := by omega
              clear HC3 HC4 HG3 HG4
              go_upto_region 17 with (fail)
              refine wp_region_held_tree (New w9) 14 (by kernel_rfl) (by kernel_rfl) ?_
              have hn1 : New w9 w9.drew := (Mod.refl _ _).drew
              refine headW_take 0 _ ?_ (fun _ _ d _ _ h => by cases d <;> exact h) (by kernel_rfl) rfl (by kernel_rfl) hn1 (by rfl) (fun W hSw => ?_) ?_
              rotate_left
              · (have hq := HSL.out W hSw); (try simp only [List.getElem_toArray, List.getElem_cons_zero, List.getElem_cons_succ]); go_simp; any_goals (with_reducible rfl)
              simp only [Act.put, List.getElem_toArray, List.getElem_cons_zero, List.getElem_cons_succ, List.setIfInBounds_toArray, List.set_cons_zero, List.set_cons_succ]
              refine headW_take 1 _ ?_ (fun _ _ d _ _ h => by cases d <;> exact h) (by kernel_rfl) rfl (by kernel_rfl) hn1 (by rfl) (fun W hSw => ?_) ?_
              rotate_left
              · (have hq := HSL.out W hSw); (try simp only [List.getElem_toArray, List.getElem_cons_zero, List.getElem_cons_succ]); go_simp; any_goals (with_reducible rfl)
              simp only [Act.put, List.getElem_toArray, List.getElem_cons_zero, List.getElem_cons_succ, List.setIfInBounds_toArray, List.set_cons_zero, List.set_cons_succ]
              refine headW_take 2 _ ?_ (fun _ _ d _ _ h => by cases d <;> exact h) (by kernel_rfl) rfl (by kernel_rfl) hn1 (by rfl) (fun W hSw => ?_) ?_
              rotate_left
              · (have hq := HSL.out W hSw); (try simp only [List.getElem_toArray, List.getElem_cons_zero, List.getElem_cons_succ]); go_simp; any_goals (with_reducible rfl)
              simp only [Act.put, List.getElem_toArray, List.getElem_cons_zero, List.getElem_cons_succ, List.setIfInBounds_toArray, List.set_cons_zero, List.set_cons_succ]
              refine headW_take 3 _ ?_ (fun _ _ d _ _ h => by cases d <;> exact h) (by kernel_rfl) rfl (by kernel_rfl) hn1 (by rfl) (fun W hSw => ?_) ?_
              rotate_left
              · (have hq := HSL.out W hSw); (try simp only [List.getElem_toArray, List.getElem_cons_zero, List.getElem_cons_succ]); go_simp; any_goals (with_reducible rfl)
              simp only [Act.put, List.getElem_toArray, List.getElem_cons_zero, List.getElem_cons_succ, List.setIfInBounds_toArray, List.set_cons_zero, List.set_cons_succ]
              refine headW_take 4 _ ?_ (fun _ _ d _ _ h => by cases d <;> exact h) (by kernel_rfl) rfl (by kernel_rfl) hn1 (by rfl) (fun W hSw => ?_) ?_
              rotate_left
              · (have hq := HSL.out W hSw); (try simp only [List.getElem_toArray, List.getElem_cons_zero, List.getElem_cons_succ]); go_simp; any_goals (with_reducible rfl)
              simp only [Act.put, List.getElem_toArray, List.getElem_cons_zero, List.getElem_cons_succ, List.setIfInBounds_toArray, List.set_cons_zero, List.set_cons_succ]
              refine headW_take 5 _ ?_ (fun _ _ d _ _ h => by cases d <;> exact h) (by kernel_rfl) rfl (by kernel_rfl) hn1 (by rfl) (fun W hSw => ?_) ?_
              rotate_left
              · (have hq := HSL.out W hSw); (try simp only [List.getElem_toArray, List.getElem_cons_zero, List.getElem_cons_succ]); go_simp; any_goals (with_reducible rfl)
              simp only [Act.put, List.getElem_toArray, List.getElem_cons_zero, List.getElem_cons_succ, List.setIfInBounds_toArray, List.set_cons_zero, List.set_cons_succ]
              refine headW_take 6 _ ?_ (fun _ _ d _ _ h => by cases d <;> exact h) (by kernel_rfl) rfl (by kernel_rfl) hn1 (by rfl) (fun W hSw => ?_) ?_
              rotate_left
              · (have hq := HSL.out W hSw); (try simp only [List.getElem_toArray, List.getElem_cons_zero, List.getElem_cons_succ]); go_simp; any_goals (with_reducible rfl)
              simp only [Act.put, List.getElem_toArray, List.getElem_cons_zero, List.getElem_cons_succ, List.setIfInBounds_toArray, List.set_cons_zero, List.set_cons_succ]
              refine headW_take 7 _ ?_ (fun _ _ d _ _ h => by cases d <;> exact h) (by kernel_rfl) rfl (by kernel_rfl) hn1 (by rfl) (fun W hSw => ?_) ?_
              rotate_left
              · (have hq := HSL.out W hSw); (try simp only [List.getElem_toArray, List.getElem_cons_zero, List.getElem_cons_succ]); go_simp; any_goals (with_reducible rfl)
              simp only [Act.put, List.getElem_toArray, List.getElem_cons_zero, List.getElem_cons_succ, List.setIfInBounds_toArray, List.set_cons_zero, List.set_cons_succ]
              refine headW_take 8 _ ?_ (fun _ _ d _ _ h => by cases d <;> exact h) (by kernel_rfl) rfl (by kernel_rfl) hn1 (by rfl) (fun W hSw => ?_) ?_
              rotate_left
              · (have hq := HSL.out W hSw); (try simp only [List.getElem_toArray, List.getElem_cons_zero, List.getElem_cons_succ]); go_simp; any_goals (with_reducible rfl)
              simp only [Act.put, List.getElem_toArray, List.getElem_cons_zero, List.getElem_cons_succ, List.setIfInBounds_toArray, List.set_cons_zero, List.set_cons_succ]
              refine headW_take 9 _ ?_ (fun _ _ d _ _ h => by cases d <;> exact h) (by kernel_rfl) rfl (by kernel_rfl) hn1 (by rfl) (fun W hSw => ?_) ?_
              rotate_left
              · (have hq := HSL.out W hSw); (try simp only [List.getElem_toArray, List.getElem_cons_zero, List.getElem_cons_succ]); go_simp; any_goals (with_reducible rfl)
              simp only [Act.put, List.getElem_toArray, List.getElem_cons_zero, List.getElem_cons_succ, List.setIfInBounds_toArray, List.set_cons_zero, List.set_cons_succ]
              refine headW_take 10 _ ?_ (fun _ _ d _ _ h => by cases d <;> exact h) (by kernel_rfl) rfl (by kernel_rfl) hn1 (by rfl) (fun W hSw => ?_) ?_
              rotate_left
              · (have hq := HSL.out W hSw); (try simp only [List.getElem_toArray, List.getElem_cons_zero, List.getElem_cons_succ]); go_simp; any_goals (with_reducible rfl)
              simp only [Act.put, List.getElem_toArray, List.getElem_cons_zero, List.getElem_cons_succ, List.setIfInBounds_toArray, List.set_cons_zero, List.set_cons_succ]
              refine headW_take 11 _ ?_ (fun _ _ d _ _ h => by cases d <;> exact h) (by kernel_rfl) rfl (by kernel_rfl) hn1 (by rfl) (fun W hSw => ?_) ?_
              rotate_left
              · (have hq := HSL.out W hSw); (try simp only [List.getElem_toArray, List.getElem_cons_zero, List.getElem_cons_succ]); go_simp; any_goals (with_reducible rfl)
              simp only [Act.put, List.getElem_toArray, List.getElem_cons_zero, List.getElem_cons_succ, List.setIfInBounds_toArray, List.set_cons_zero, List.set_cons_succ]
              refine headW_take 12 _ ?_ (fun _ _ d _ _ h => by cases d <;> exact h) (by kernel_rfl) rfl (by kernel_rfl) hn1 (by rfl) (fun W hSw => ?_) ?_
              rotate_left
              · (have hq := HSL.out W hSw); (try simp only [List.getElem_toArray, List.getElem_cons_zero, List.getElem_cons_succ]); go_simp; any_goals (with_reducible rfl)
              simp only [Act.put, List.getElem_toArray, List.getElem_cons_zero, List.getElem_cons_succ, List.setIfInBounds_toArray, List.set_cons_zero, List.set_cons_succ]
              refine headW_take 13 _ ?_ (fun _ _ d _ _ h => by cases d <;> exact h) (by kernel_rfl) rfl (by kernel_rfl) hn1 (by rfl) (fun W hSw => ?_) ?_
              rotate_left
              · (have hq := HSL.out W hSw); (try simp only [List.getElem_toArray, List.getElem_cons_zero, List.getElem_cons_succ]); go_simp; any_goals (with_reducible rfl)
              simp only [Act.put, List.getElem_toArray, List.getElem_cons_zero, List.getElem_cons_succ, List.setIfInBounds_toArray, List.set_cons_zero, List.set_cons_succ]
              refine headW_done (by kernel_rfl) ?_
              have hadd := HIH.out _ hn1
              have HI10 := Lib.hid (HI9.out.new hn1)
              clear HIH HI9 HSL
              have HI9 := HI10
              clear HI10
              go_wp2_with fail
              refine hadd.mono ?_
              clear hadd
              intro e wz hr
              rw [← HND.out] at hr
              obtain ⟨rfl, Az, nz, cz, hiz⟩ := HI9.out.next hr
              have HIZ := Lib.hid hiz
              clear hiz hr
              go_wp2_with fail
              go_roundw
              case rel => exact ⟨k + 1, Az, nz, cz, by omega, by go_num, Lib.hid (by rw [HNX.out, ← List.append_assoc]; exact HIZ.out)⟩
              case measure => simp [intOf]; omega
        · obtain rfl : NS.length = k := by omega
          go_wp2_with fail
          go_end0
          exact RDf.pre HN5.out ⟨rfl, A1, n1, c1, HI.out.df, HI.out.mod, HI.out.far⟩
end Go.Proofs.YtjfgfkbgbhbhjaaGreatDoor

namespace Go.Proofs.YtjfgfkbgbhbhjaaGreatDoor
open Go.RowKit
set_option linter.unusedVariables false
set_option linter.unusedSimpArgs false

set_option maxRecDepth 100000 in
set_option maxHeartbeats 700000 in
theorem df_values_walk (D d : Nat) (IH : VSpec D d) : VSpec D (d + 1) := by
  intro x y a b A n c ps A0 n0 c0 L B db w hD htx hty hga hgb hfa hfb hs hn hd hL
  have HEQ := Lib.hid (fun W (h : New w W) => value_equal (d + 1) x y a b _ W (htx.new h) (hty.new h) hfa hfb)
  have HME := Lib.hid (fun W (h1 : DfAt W B db D A0 n0 c0 L) h2 h3 h4 h5 => df_members D d IH x y a b A n c ps A0 n0 c0 L B db W h1 h2 h3 hga hgb hfa hfb h4 (by omega) (by omega) h5)
  have HLI := Lib.hid (fun W (h1 : DfAt W B db D A0 n0 c0 L) h2 h3 h4 h5 => df_lists D d IH x y a b A n c ps A0 n0 c0 L B db W h1 h2 h3 hga hgb hfa hfb h4 (by omega) (by omega) h5)
  have HKA := Lib.hid htx.fields.1
  have HKB := Lib.hid hty.fields.1
  have HTX := Lib.hid htx
  have HTY := Lib.hid hty
  have HFB := Lib.hid hfb
  have HKT : Hid (∀ W k z u, Mod (DfMod db A0) w W → Tree w (fun _ => True) k z u → Tree W (fun _ => True) k z u) := Lib.hid (fun W k z u h ht => Tree.mod h (fun g _ hg => by
    rcases hg with hg | hg
    · exact (hD).far hg (by decide) (by decide)
    · exact (hD).far hg (by decide) (by decide)) _ _ _ ht)
  have HKS : Hid (∀ W, Mod (DfMod db A0) w W → Sl W 76 3 St.enc A n ps) := Lib.hid (fun W h => (hs).mod h (fun g ht => (hD).far ht (by decide) (by decide)))
  have HKV : Hid (∀ W A' n' xs, Mod (DfMod db A0) w W → Row w (fun _ => True) 29 6 VA.enc A' n' xs → Row W (fun _ => True) 29 6 VA.enc A' n' xs) := Lib.hid (fun W A' n' xs h hr => hr.mod h (fun g _ ht => (hD).far ht (by decide) (by decide)))
  have HKM : Hid (∀ W A' n' xs, Mod (DfMod db A0) w W → Row w (fun _ => True) 54 7 MA.enc A' n' xs → Row W (fun _ => True) 54 7 MA.enc A' n' xs) := Lib.hid (fun W A' n' xs h hr => hr.mod h (fun g _ ht => (hD).far ht (by decide) (by decide)))
  obtain ⟨xk, xf, xn, xw, xla, xln, xlc, xma, xmn, xmc⟩ := x
  obtain ⟨yk, yf, yn, yw, yla, yln, ylc, yma, ymn, ymc⟩ := y
  simp only at HKA HKB
  clear htx hty hga hgb hfa hfb hs
  have hx := Blk.new w 29 #[.int .i64 xk, .bool xf, .int .i64 xn, .string xw, .slice xla xln xlc, .slice xma xmn xmc]
  have hm1 : New w (w.alloc (.cells #[.int .i64 xk, .bool xf, .int .i64 xn, .string xw, .slice xla xln xlc, .slice xma xmn xmc] 29)) := (Mod.refl _ _).alloc _
  have z1 : (w.alloc (.cells #[.int .i64 xk, .bool xf, .int .i64 xn, .string xw, .slice xla xln xlc, .slice xma xmn xmc] 29)).heap.size = w.heap.size + 1 := by simp
  go_enter Tryz.func26, Tryz.ntmps26
  go_upto_region 1 with (fail)
  generalize w.alloc (.cells #[.int .i64 xk, .bool xf, .int .i64 xn, .string xw, .slice xla xln xlc, .slice xma xmn xmc] 29) = w1 at *
  have hy := Blk.new w1 29 #[.int .i64 yk, .bool yf, .int .i64 yn, .string yw, .slice yla yln ylc, .slice yma ymn ymc]
  have hm2 : New w1 (w1.alloc (.cells #[.int .i64 yk, .bool yf, .int .i64 yn, .string yw, .slice yla yln ylc, .slice yma ymn ymc] 29)) := (Mod.refl _ _).alloc _
  rw [z1] at hy
  generalize w1.alloc (.cells #[.int .i64 yk, .bool yf, .int .i64 yn, .string yw, .slice yla yln ylc, .slice yma ymn ymc] 29) = w2 at *
  have hxx := hx.mod hm2 (fun e => e)
  generalize hxb : w.heap.size = xb at *
  have HNW := Lib.hid (hm1.trans hm2)
  have HI : Hid (DfI w xb #[.int .i64 xk, .bool xf, .int .i64 xn, .string xw, .slice xla xln xlc, .slice xma xmn xmc] #[.int .i64 yk, .bool yf, .int .i64 yn, .string yw, .slice yla yln ylc, .slice yma ymn ymc] B db D A0 L A0 n0 c0 w2) := Lib.hid ⟨hxx, hy, hD.new (hm1.trans hm2), (hm1.trans hm2).mono (fun _ _ e => e.elim), fun g e => .inl e⟩
  clear hx hxx hy hm1 hm2 z1 hD
  have heq := HEQ.out w2 HNW.out
  clear HEQ
  have hxx := (HI.out).bx
  have hyy := (HI.out).by_
  have e0 := hxx.cell 0
  have e1 := hxx.cell 1
  have e2 := hxx.cell 2
  have e3 := hxx.cell 3
  have e4 := hxx.cell 4
  have e5 := hxx.cell 5
  have el := hxx.lt
  have f0 := hyy.cell 0
  have f1 := hyy.cell 1
  have f2 := hyy.cell 2
  have f3 := hyy.cell 3
  have f4 := hyy.cell 4
  have f5 := hyy.cell 5
  have fl := hyy.lt
  simp only [List.getElem?_toArray, List.getElem?_cons_zero, List.getElem?_cons_succ] at e0 e1 e2 e3 e4 e5 f0 f1 f2 f3 f4 f5
  clear hxx hyy
  go_wp2_with fail
  clear e0 e1 e2 e3 e4 e5 el f0 f1 f2 f3 f4 f5 fl
  refine heq.mono ?_
  clear heq
  rintro e w3 ⟨rfl, m3⟩
  have HI3 := Lib.hid (HI.out.new m3)
  clear HI HNW m3
  have HI := HI3
  clear HI3
  by_cases h0 : vCmp (d + 1) a b = 0
  · have HDE : Hid (difF (d + 1) a b ps = []) := Lib.hid (difF_same ps h0)
    have h0b : decide (vCmp (d + 1) a b = 0) = true := by simpa using h0
    clear h0
    go_wp2_with fail
    go_end0
    exact ⟨rfl, A0, n0, c0, by rw [HDE.out, List.append_nil]; exact HI.out.df, HI.out.mod, HI.out.far⟩
  · have h0b : decide (vCmp (d + 1) a b = 0) = false := by simpa using h0
    have H0 := Lib.hid h0
    clear h0
    by_cases hx5 : xk = 5
    · have hx5b : (xk == 5) = true := by simpa using hx5
      have hx4b : (xk == 4) = false := by subst hx5; decide
      have hx4 : ¬ xk = 4 := by omega
      by_cases hy5 : yk = 5
      · have hy5b : (yk == 5) = true := by simpa using hy5
        have HDE : Hid (difF (d + 1) a b ps = nmsD d a b ps (nms2 a b) (nms2 a b).length) := Lib.hid (difF_mem ps H0.out (by rw [HKA.out]; exact hx5) (by rw [HKB.out]; exact hy5))
        rw [HDE.out] at hL
        have hcall := HME.out _ HI.out.df (HKT.out _ _ _ _ HI.out.mod HTX.out) (HKT.out _ _ _ _ HI.out.mod HTY.out) (HKS.out _ HI.out.mod) hL
        clear hx5 hx4 hy5
        have hxx := (HI.out).bx
        have hyy := (HI.out).by_
        have e0 := hxx.cell 0
        have e1 := hxx.cell 1
        have e2 := hxx.cell 2
        have e3 := hxx.cell 3
        have e4 := hxx.cell 4
        have e5 := hxx.cell 5
        have el := hxx.lt
        have f0 := hyy.cell 0
        have f1 := hyy.cell 1
        have f2 := hyy.cell 2
        have f3 := hyy.cell 3
        have f4 := hyy.cell 4
        have f5 := hyy.cell 5
        have fl := hyy.lt
        simp only [List.getElem?_toArray, List.getElem?_cons_zero, List.getElem?_cons_succ] at e0 e1 e2 e3 e4 e5 f0 f1 f2 f3 f4 f5
        clear hxx hyy
        go_wp2_with fail
        clear e0 e1 e2 e3 e4 e5 el f0 f1 f2 f3 f4 f5 fl
        refine hcall.mono ?_
        clear hcall
        intro e w6 hr
        obtain ⟨rfl, A9, n9, c9, hi9⟩ := HI.out.next hr
        have HI9 := Lib.hid hi9
        clear hi9 hr
        go_wp2_with fail
        go_end0
        exact ⟨rfl, A9, n9, c9, by rw [HDE.out]; exact HI9.out.df, HI9.out.mod, HI9.out.far⟩
      · have hy5b : (yk == 5) = false := by simpa using hy5
        have HDE : Hid (difF (d + 1) a b ps = [⟨1, ps, b⟩]) := Lib.hid (difF_one ps H0.out (by rw [HKA.out, HKB.out]; omega) (by rw [HKA.out, HKB.out]; omega))
        rw [HDE.out] at hL
        have hadd := df_add D (d + 1) 1 A n c ps ⟨yk, yf, yn, yw, yla, yln, ylc, yma, ymn, ymc⟩ b A0 n0 c0 L B db _ HI.out.df (HKS.out _ HI.out.mod) (HKT.out _ _ _ _ HI.out.mod HTY.out) HFB.out.2 (by omega) (by omega) (by omega)
        clear hx5 hx4
        have hxx := (HI.out).bx
        have hyy := (HI.out).by_
        have e0 := hxx.cell 0
        have e1 := hxx.cell 1
        have e2 := hxx.cell 2
        have e3 := hxx.cell 3
        have e4 := hxx.cell 4
        have e5 := hxx.cell 5
        have el := hxx.lt
        have f0 := hyy.cell 0
        have f1 := hyy.cell 1
        have f2 := hyy.cell 2
        have f3 := hyy.cell 3
        have f4 := hyy.cell 4
        have f5 := hyy.cell 5
        have fl := hyy.lt
        simp only [List.getElem?_toArray, List.getElem?_cons_zero, List.getElem?_cons_succ] at e0 e1 e2 e3 e4 e5 f0 f1 f2 f3 f4 f5
        clear hxx hyy
        go_wp2_with fail
        clear e0 e1 e2 e3 e4 e5 el f0 f1 f2 f3 f4 f5 fl
        refine hadd.mono ?_
        clear hadd
        intro e w6 hr
        obtain ⟨rfl, A9, n9, c9, hi9⟩ := HI.out.next hr
        have HI9 := Lib.hid hi9
        clear hi9 hr
        go_wp2_with fail
        go_end0
        exact ⟨rfl, A9, n9, c9, by rw [HDE.out]; exact HI9.out.df, HI9.out.mod, HI9.out.far⟩
    · have hx5b : (xk == 5) = false := by simpa using hx5
      by_cases hx4 : xk = 4
      · have hx4b : (xk == 4) = true := by simpa using hx4
        by_cases hy4 : yk = 4
        · have hy4b : (yk == 4) = true := by simpa using hy4
          have HDE := Lib.hid (difF_list ps H0.out (by rw [HKA.out]; exact hx4) (by rw [HKB.out]; exact hy4) (d := d) (a := a) (b := b))
          rw [HDE.out] at hL
          have hcall := HLI.out _ HI.out.df (HKT.out _ _ _ _ HI.out.mod HTX.out) (HKT.out _ _ _ _ HI.out.mod HTY.out) (HKS.out _ HI.out.mod) (by simp only [List.length_append, takeD_len, putD_len] at hL; omega)
          clear hx5 hx4 hy4
          have hxx := (HI.out).bx
          have hyy := (HI.out).by_
          have e0 := hxx.cell 0
          have e1 := hxx.cell 1
          have e2 := hxx.cell 2
          have e3 := hxx.cell 3
          have e4 := hxx.cell 4
          have e5 := hxx.cell 5
          have el := hxx.lt
          have f0 := hyy.cell 0
          have f1 := hyy.cell 1
          have f2 := hyy.cell 2
          have f3 := hyy.cell 3
          have f4 := hyy.cell 4
          have f5 := hyy.cell 5
          have fl := hyy.lt
          simp only [List.getElem?_toArray, List.getElem?_cons_zero, List.getElem?_cons_succ] at e0 e1 e2 e3 e4 e5 f0 f1 f2 f3 f4 f5
          clear hxx hyy
          go_wp2_with fail
          clear e0 e1 e2 e3 e4 e5 el f0 f1 f2 f3 f4 f5 fl
          refine hcall.mono ?_
          clear hcall
          intro e w6 hr
          obtain ⟨rfl, A9, n9, c9, hi9⟩ := HI.out.next hr
          have HI9 := Lib.hid hi9
          clear hi9 hr
          go_wp2_with fail
          go_end0
          exact ⟨rfl, A9, n9, c9, by rw [HDE.out]; exact HI9.out.df, HI9.out.mod, HI9.out.far⟩
        · have hy4b : (yk == 4) = false := by simpa using hy4
          have HDE : Hid (difF (d + 1) a b ps = [⟨1, ps, b⟩]) := Lib.hid (difF_one ps H0.out (by rw [HKA.out, HKB.out]; omega) (by rw [HKA.out, HKB.out]; omega))
          rw [HDE.out] at hL
          have hadd := df_add D (d + 1) 1 A n c ps ⟨yk, yf, yn, yw, yla, yln, ylc, yma, ymn, ymc⟩ b A0 n0 c0 L B db _ HI.out.df (HKS.out _ HI.out.mod) (HKT.out _ _ _ _ HI.out.mod HTY.out) HFB.out.2 (by omega) (by omega) (by omega)
          clear hx5 hx4
          have hxx := (HI.out).bx
          have hyy := (HI.out).by_
          have e0 := hxx.cell 0
          have e1 := hxx.cell 1
          have e2 := hxx.cell 2
          have e3 := hxx.cell 3
          have e4 := hxx.cell 4
          have e5 := hxx.cell 5
          have el := hxx.lt
          have f0 := hyy.cell 0
          have f1 := hyy.cell 1
          have f2 := hyy.cell 2
          have f3 := hyy.cell 3
          have f4 := hyy.cell 4
          have f5 := hyy.cell 5
          have fl := hyy.lt
          simp only [List.getElem?_toArray, List.getElem?_cons_zero, List.getElem?_cons_succ] at e0 e1 e2 e3 e4 e5 f0 f1 f2 f3 f4 f5
          clear hxx hyy
          go_wp2_with fail
          clear e0 e1 e2 e3 e4 e5 el f0 f1 f2 f3 f4 f5 fl
          refine hadd.mono ?_
          clear hadd
          intro e w6 hr
          obtain ⟨rfl, A9, n9, c9, hi9⟩ := HI.out.next hr
          have HI9 := Lib.hid hi9
          clear hi9 hr
          go_wp2_with fail
          go_end0
          exact ⟨rfl, A9, n9, c9, by rw [HDE.out]; exact HI9.out.df, HI9.out.mod, HI9.out.far⟩
      · have hx4b : (xk == 4) = false := by simpa using hx4
        have HDE : Hid (difF (d + 1) a b ps = [⟨1, ps, b⟩]) := Lib.hid (difF_one ps H0.out (by rw [HKA.out, HKB.out]; omega) (by rw [HKA.out, HKB.out]; omega))
        rw [HDE.out] at hL
        have hadd := df_add D (d + 1) 1 A n c ps ⟨yk, yf, yn, yw, yla, yln, ylc, yma, ymn, ymc⟩ b A0 n0 c0 L B db _ HI.out.df (HKS.out _ HI.out.mod) (HKT.out _ _ _ _ HI.out.mod HTY.out) HFB.out.2 (by omega) (by omega) (by omega)
        clear hx5 hx4
        have hxx := (HI.out).bx
        have hyy := (HI.out).by_
        have e0 := hxx.cell 0
        have e1 := hxx.cell 1
        have e2 := hxx.cell 2
        have e3 := hxx.cell 3
        have e4 := hxx.cell 4
        have e5 := hxx.cell 5
        have el := hxx.lt
        have f0 := hyy.cell 0
        have f1 := hyy.cell 1
        have f2 := hyy.cell 2
        have f3 := hyy.cell 3
        have f4 := hyy.cell 4
        have f5 := hyy.cell 5
        have fl := hyy.lt
        simp only [List.getElem?_toArray, List.getElem?_cons_zero, List.getElem?_cons_succ] at e0 e1 e2 e3 e4 e5 f0 f1 f2 f3 f4 f5
        clear hxx hyy
        go_wp2_with fail
        clear e0 e1 e2 e3 e4 e5 el f0 f1 f2 f3 f4 f5 fl
        refine hadd.mono ?_
        clear hadd
        intro e w6 hr
        obtain ⟨rfl, A9, n9, c9, hi9⟩ := HI.out.next hr
        have HI9 := Lib.hid hi9
        clear hi9 hr
        go_wp2_with fail
        go_end0
        exact ⟨rfl, A9, n9, c9, by rw [HDE.out]; exact HI9.out.df, HI9.out.mod, HI9.out.far⟩
theorem df_values (D : Nat) : ∀ d, VSpec D d
  | 0 => fun x y a b A n c ps A0 n0 c0 L B db w _ h => h.elim
  | d + 1 => df_values_walk D d (df_values D d)
end Go.Proofs.YtjfgfkbgbhbhjaaGreatDoor
