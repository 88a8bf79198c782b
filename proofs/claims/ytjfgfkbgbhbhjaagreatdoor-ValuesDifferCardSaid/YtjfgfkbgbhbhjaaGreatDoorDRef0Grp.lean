/- Several texts in one. (1) The reference: DifferOf: what its loops keep; append of whole rows, of none too. Conditions: lengths below 10^6. (2) The reference: DifferOf of two lists, of the same values, of values of other kinds, given it one level down. Conditions: values that fit, at most 400000 changes. (3) The reference: DifferOf of two lists, given it one level down. Conditions: values that fit, at most 400000 changes. -/
import Derived.Test.YtjfgfkbgbhbhjaaGreatDoorBehGrp
import Derived.Test.YtjfgfkbgbhbhjaaGreatDoorDAddGrp
import Derived.Test.YtjfgfkbgbhbhjaaGreatDoorSame
import Derived.Test.YtjfgfkbgbhbhjaaGreatDoorDifLawGrp
import Derived.Test.YtjfgfkbgbhbhjaaGreatDoorRowGrp

namespace Go.Proofs.YtjfgfkbgbhbhjaaGreatDoor
open Go.RowKit
set_option linter.unusedVariables false
set_option linter.unusedSimpArgs false

/-- append of nothing to a row with room -/
theorem append_none {P : Program} {t e : TypeId} (ht : P.underlying t = some (.slice e)) {i : TypeInfo} (hi : P.info? e = some i) (A : Option Addr) (n c : Nat) (hn : n ≤ c) (A2 : Option Addr) (c2 : Nat) (ty : TypeId) (w : World) :
    (Builtin.append_ #[t, t] ty #[.slice A n c, .slice A2 0 c2]).run P w = .ok (.slice A n c) w := by
  cases A2 with
  | none =>
    cases A with
    | none => simp [Builtin.append_, run_underlying ht, sizeOf, typeInfo, hi, Builtin.lenOf, Builtin.firstCells, hn, storeCells]
    | some a => simp [Builtin.append_, run_underlying ht, sizeOf, typeInfo, hi, Builtin.lenOf, Builtin.firstCells, hn, storeCells]
  | some b =>
    have hl := run_loadCells_list (P := P) w b [] (by simp)
    simp at hl
    cases A with
    | none => simp [Builtin.append_, run_underlying ht, sizeOf, typeInfo, hi, Builtin.lenOf, Builtin.firstCells, hl, hn, storeCells]
    | some a => simp [Builtin.append_, run_underlying ht, sizeOf, typeInfo, hi, Builtin.lenOf, Builtin.firstCells, hl, hn, storeCells]
theorem wp_append0 {P : Program} {w : World} {o : Oper} {a : Act} {K : Act → World → Prop} {Q : Exit → Act → World → Prop} (s x : Operand) (t : TypeId)
    (ho : o.op = .call { callee := .builtin .append, args := #[s, x], argTypes := #[t, t] }) {v1 v2 v : Value} (hs : a.eval s = v1) (hx : a.eval x = v2) (hr : ∀ ty, (Builtin.append_ #[t, t] ty #[v1, v2]).run P w = .ok v w) (h : K (a.put o.dst v) w) : Oper.wp P o a w K Q := by
  unfold Oper.wp execOp
  simp only [ho, resolve, invoke, builtin, Sem.run_bind, Sem.run_pure, Result.andThen_ok, List.map_toArray, List.map_cons, List.map_nil, hs, hx, hr]
  exact h
theorem Own.room {α : Type} {w : World} {B : Nat} {t : TypeId} {sz : Nat} {enc : α → Nat → Value} {A : Option Addr} {n c : Nat} {xs : List α} (h : Own w B t sz enc A n c xs) : n ≤ c := by
  rcases Nat.eq_zero_or_pos n with h0 | h0
  · omega
  · obtain ⟨g, -, -, -, h1, -⟩ := h.form h0; exact h1
/-- append of a whole row, of none too -/
theorem wp_pushRow {α : Type} {w : World} {B : Nat} {t : TypeId} {sz : Nat} {enc : α → Nat → Value} {A : Option Addr} {n c : Nat} {xs : List α} {P : Program} {o : Oper} {a : Act} {K : Act → World → Prop} {Q : Exit → Act → World → Prop} (s x : Operand) (ts : TypeId)
    (ho : o.op = .call { callee := .builtin .append, args := #[s, x], argTypes := #[ts, ts] }) (bytes : Nat) (ht : P.underlying ts = some (.slice t)) (hi : EInfo P t sz bytes)
    (hs : a.eval s = .slice A n c) (hown : Own w B t sz enc A n c xs) (ys : List α) (Ax : Option Addr) (m cm : Nat) (hx : a.eval x = .slice Ax m cm) (hy : Sl w t sz enc Ax m ys)
    (h1 : ∀ y ∈ ys, ∀ j, j < sz → (enc y j).oneCell' = true) (hn : n + m < 1000000) (hbytes : bytes ≤ 1000000) (hB : B ≤ w.heap.size)
    (h : ∀ A' cap w', Own w' B t sz enc A' (n + m) cap (xs ++ ys) → Mod (fun k => blkOf A = some k) w w' → (∀ g, blkOf A' = some g → blkOf A = some g ∨ w.heap.size ≤ g) →
      K (a.put o.dst (.slice A' (n + m) cap)) w') : Oper.wp P o a w K Q := by
  rcases Nat.eq_zero_or_pos m with h0 | h0
  · subst h0
    obtain rfl : ys = [] := List.eq_nil_of_length_eq_zero hy.1
    obtain ⟨i, z, hi0, hz, hsz, hby, hzs, h0⟩ := hi
    refine wp_append0 s x ts ho hs hx (fun ty => append_none ht hi0 A n c hown.room Ax cm ty w) ?_
    have hq := h A c w (by rw [List.append_nil]; exact hown) (Mod.refl _ _) (fun g e => .inl e)
    exact hq
  · obtain ⟨g, o1, rfl, -, -⟩ := hy.2 h0
    refine wp_pushAll s x ts ho bytes ht hi hs hown ys g o1 m cm hx hy h0 h1 hn hbytes hB (fun g' cap w' h2 h3 h4 h5 => ?_)
    refine h _ _ _ h2 h3 (fun k e => ?_)
    injection e with e
    have e : g' = k := e
    subst e
    rcases h4 with h4 | h4
    · exact .inl h4
    · right; omega
def RDfO (w : World) (D : Nat) (L : List ChD) (e : Ending) (w' : World) : Prop := ∃ (A : Option Addr) (n c : Nat) (qs : List CA), e = .returned (.slice A n c) ∧ Sl w' 65 8 CA.enc A n qs ∧ Al (ChT w' D) qs L ∧ New w w'
def RSpec (D d : Nat) : Prop := ∀ (x y : VA) (a b : VT) (A : Option Addr) (n c : Nat) (ps : List St) (w : World),
  Tree w (fun _ => True) d x a → Tree w (fun _ => True) d y b → Good d a → Good d b → Fit d a → Fit d b → Sl w 76 3 St.enc A n ps → n + d ≤ 900 → d ≤ D → (difF d a b ps).length ≤ 400000 →
  Calls Tryz.prog 13 #[x.val, y.val, .slice A n c] w (RDfO w D (difF d a b ps))
/-- what the loops keep: three boxes, the row of changes -/
structure RfI (w : World) (xb yb pb : Nat) (xc yc : Array Value) (pv : Value) (N D : Nat) (L : List ChD) (A : Option Addr) (n c : Nat) (wr : World) : Prop where
  bx : Blk wr xb 29 xc
  by_ : Blk wr yb 29 yc
  bp : Blk wr pb 63 #[pv]
  row : ∃ qs : List CA, Own wr N 65 8 CA.enc A n c qs ∧ Al (ChT wr D) qs L
  new : New w wr
  le : N ≤ wr.heap.size
  ord : xb < N ∧ yb < N ∧ pb < N ∧ w.heap.size ≤ N
section
variable {w wr w' : World} {xb yb pb : Nat} {xc yc : Array Value} {pv : Value} {N D : Nat} {L L' : List ChD} {A A' : Option Addr} {n c n' c' : Nat}
theorem RfI.more (h : RfI w xb yb pb xc yc pv N D L A n c wr) (hm : New wr w') : RfI w xb yb pb xc yc pv N D L A n c w' := by
  obtain ⟨qs, h1, h2⟩ := h.row
  exact ⟨h.bx.mod hm (fun e => e), h.by_.mod hm (fun e => e), h.bp.mod hm (fun e => e), ⟨qs, h1.new hm, Al.imp (fun _ _ q => q.new hm) h2⟩, h.new.trans hm, Nat.le_trans h.le hm.size, h.ord⟩
theorem RfI.len (h : RfI w xb yb pb xc yc pv N D L A n c wr) : n = L.length := by
  obtain ⟨qs, h1, h2⟩ := h.row
  rw [← h2.len, h1.1]
/-- changes outlive what append turns -/
theorem ChT.push {qs : List CA} {y : CA} {z : ChD} (ho : Own wr N 65 8 CA.enc A n c qs) (hm : Mod (fun k => blkOf A = some k) wr w') (h : ChT wr D y z) : ChT w' D y z := h.mod hm (fun g ht e => by
  have h1 := (ho.tbO g e).1
  rcases ht with ht | ht | ht
  · exact (ht.ne h1 (by decide)) rfl
  · exact (ht.ne h1 (by decide)) rfl
  · exact (ht.ne h1 (by decide)) rfl)
theorem RfI.next {ys : List CA} (h : RfI w xb yb pb xc yc pv N D L A n c wr) (ho : ∀ qs, Own wr N 65 8 CA.enc A n c qs → Al (ChT wr D) qs L → Own w' N 65 8 CA.enc A' n' c' (qs ++ ys)) (hm : Mod (fun k => blkOf A = some k) wr w') (ha : Al (ChT wr D) ys L') : RfI w xb yb pb xc yc pv N D (L ++ L') A' n' c' w' := by
  obtain ⟨qs, h1, h2⟩ := h.row
  have hf : ∀ g, blkOf A = some g → N ≤ g := fun g e => (h1.tbO g e).2
  obtain ⟨o1, o2, o3, o4⟩ := h.ord
  exact ⟨h.bx.mod hm (fun e => by have := hf _ e; omega), h.by_.mod hm (fun e => by have := hf _ e; omega), h.bp.mod hm (fun e => by have := hf _ e; omega),
    ⟨qs ++ ys, ho qs h1 h2, Al.append (Al.imp (fun _ _ q => q.push h1 hm) h2) (Al.imp (fun _ _ q => q.push h1 hm) ha)⟩, h.new.step hm (fun i hi e => by have := hf _ e; omega), Nat.le_trans h.le hm.size, h.ord⟩
theorem RfI.after {w8 w9 : World} {qs q8 : List CA} (h : RfI w xb yb pb xc yc pv N D L A n c wr) (hn : New wr w8) (hm : Mod (fun k => blkOf A = some k) w8 w9) (hown : Own wr N 65 8 CA.enc A n c qs) (hal : Al (ChT wr D) qs L)
    (ho : Own w9 N 65 8 CA.enc A' n' c' (qs ++ q8)) (ha : Al (ChT w8 D) q8 L') : RfI w xb yb pb xc yc pv N D (L ++ L') A' n' c' w9 := by
  have hf : ∀ g, blkOf A = some g → N ≤ g := fun g e => (hown.tbO g e).2
  obtain ⟨o1, o2, o3, o4⟩ := h.ord
  have hq := h.more hn
  exact ⟨hq.bx.mod hm (fun e => by have := hf _ e; omega), hq.by_.mod hm (fun e => by have := hf _ e; omega), hq.bp.mod hm (fun e => by have := hf _ e; omega),
    ⟨qs ++ q8, ho, Al.append (Al.imp (fun _ _ q => (q.new hn).push (hown.new hn) hm) hal) (Al.imp (fun _ _ q => q.push (hown.new hn) hm) ha)⟩, hq.new.step hm (fun i hi e => by have := hf _ e; omega), Nat.le_trans hq.le hm.size, h.ord⟩
/-- blocks of other types are none of the row's -/
theorem RfI.off (h : RfI w xb yb pb xc yc pv N D L A n c wr) {g : Nat} {t : TypeId} (ht : TB wr g t) (hne : t ≠ 65) : ¬ blkOf A = some g := fun e => by
  obtain ⟨qs, h1, -⟩ := h.row
  exact (ht.ne (h1.tbO g e).1 hne) rfl
end
end Go.Proofs.YtjfgfkbgbhbhjaaGreatDoor

namespace Go.Proofs.YtjfgfkbgbhbhjaaGreatDoor
open Go.RowKit
set_option linter.unusedVariables false
set_option linter.unusedSimpArgs false

theorem eqV_cmp {d : Nat} {a b : VT} (ha : Deep d a) (hb : Deep d b) : eqV a b = decide (vCmp d a b = 0) := by
  rw [Bool.eq_iff_iff, eqV_iff, decide_eq_true_iff, vCmp_zero d a b ha hb]
set_option maxRecDepth 100000 in
set_option maxHeartbeats 700000 in
theorem rf_same (D d : Nat) (x y : VA) (a b : VT) (A : Option Addr) (n c : Nat) (ps : List St) (w : World)
    (htx : Tree w (fun _ => True) (d + 1) x a) (hty : Tree w (fun _ => True) (d + 1) y b) (hga : Good (d + 1) a) (hgb : Good (d + 1) b) (hfa : Fit (d + 1) a) (hfb : Fit (d + 1) b) (hs : Sl w 76 3 St.enc A n ps) (hn : n + d ≤ 899) (hd : d + 1 ≤ D)
    (h0 : vCmp (d + 1) a b = 0) : Calls Tryz.prog 13 #[x.val, y.val, .slice A n c] w (RDfO w D (difF (d + 1) a b ps)) := by
  rw [difF_same ps h0]
  have HDA := Lib.hid htx.deep
  have HDB := Lib.hid hty.deep
  have HSM := Lib.hid (fun W (h : New w W) => same_v (d + 1) x y a b _ W (htx.new h) (hty.new h) hfa hfb)
  have HKA := Lib.hid htx.fields.1
  have HKB := Lib.hid hty.fields.1
  have HTX := Lib.hid htx
  have HTY := Lib.hid hty
  have HGA := Lib.hid hga
  have HGB := Lib.hid hgb
  have HFA := Lib.hid hfa
  have HFB := Lib.hid hfb
  have HPS := Lib.hid hs
  obtain ⟨xk, xf, xn, xw, xla, xln, xlc, xma, xmn, xmc⟩ := x
  obtain ⟨yk, yf, yn, yw, yla, yln, ylc, yma, ymn, ymc⟩ := y
  clear htx hty hga hgb hfa hfb hs
  have hx := Blk.new w 29 #[.int .i64 xk, .bool xf, .int .i64 xn, .string xw, .slice xla xln xlc, .slice xma xmn xmc]
  have hm1 : New w (w.alloc (.cells #[.int .i64 xk, .bool xf, .int .i64 xn, .string xw, .slice xla xln xlc, .slice xma xmn xmc] 29)) := (Mod.refl _ _).alloc _
  have z1 : (w.alloc (.cells #[.int .i64 xk, .bool xf, .int .i64 xn, .string xw, .slice xla xln xlc, .slice xma xmn xmc] 29)).heap.size = w.heap.size + 1 := by simp
  go_enter Tryz.func13, Tryz.ntmps13
  go_upto_region 1 with (fail)
  generalize w.alloc (.cells #[.int .i64 xk, .bool xf, .int .i64 xn, .string xw, .slice xla xln xlc, .slice xma xmn xmc] 29) = w1 at *
  have hy := Blk.new w1 29 #[.int .i64 yk, .bool yf, .int .i64 yn, .string yw, .slice yla yln ylc, .slice yma ymn ymc]
  have hm2 : New w1 (w1.alloc (.cells #[.int .i64 yk, .bool yf, .int .i64 yn, .string yw, .slice yla yln ylc, .slice yma ymn ymc] 29)) := (Mod.refl _ _).alloc _
  have z2 : (w1.alloc (.cells #[.int .i64 yk, .bool yf, .int .i64 yn, .string yw, .slice yla yln ylc, .slice yma ymn ymc] 29)).heap.size = w.heap.size + 1 + 1 := by simp [z1]
  rw [z1] at hy
  generalize w1.alloc (.cells #[.int .i64 yk, .bool yf, .int .i64 yn, .string yw, .slice yla yln ylc, .slice yma ymn ymc] 29) = w2 at *
  have hz := Blk.new w2 63 #[.slice A n c]
  have hm3 : New w2 (w2.alloc (.cells #[.slice A n c] 63)) := (Mod.refl _ _).alloc _
  have z3 : (w2.alloc (.cells #[.slice A n c] 63)).heap.size = w.heap.size + 1 + 1 + 1 := by simp [z2]
  rw [z2] at hz
  generalize w2.alloc (.cells #[.slice A n c] 63) = w3 at *
  have HX := Lib.hid ((hx.mod hm2 (fun e => e)).mod hm3 (fun e => e))
  have HY := Lib.hid (hy.mod hm3 (fun e => e))
  have HPB := Lib.hid hz
  have HM := Lib.hid ((hm1.trans hm2).trans hm3)
  have HZ3 := Lib.hid z3
  clear hx hy hz hm1 hm2 hm3 z1 z2 z3
  generalize hxb : w.heap.size = xb at *
  generalize hyb : xb + 1 = yb at *
  generalize hpb : yb + 1 = pb at *
  have HXB : Hid (w.heap.size = xb ∧ xb < yb ∧ yb < pb ∧ w3.heap.size = pb + 1) := Lib.hid ⟨hxb, by omega, by omega, HZ3.out⟩
  clear hxb hyb hpb HZ3
  have hsm := HSM.out w3 HM.out
  rw [eqV_cmp HDA.out HDB.out] at hsm
  have hxx := HX.out
  have hyy := HY.out
  have e0 := hxx.cell 0
  have e1 := hxx.cell 1
  have e2 := hxx.cell 2
  have e3 := hxx.cell 3
  have e4 := hxx.cell 4
  have e5 := hxx.cell 5
  have el := hxx.lt
  have f0 := hyy.cell 0
  have f1 := hyy.cell 1
  have f2 := hyy.cell 2
  have f3 := hyy.cell 3
  have f4 := hyy.cell 4
  have f5 := hyy.cell 5
  have fl := hyy.lt
  simp only [List.getElem?_toArray, List.getElem?_cons_zero, List.getElem?_cons_succ] at e0 e1 e2 e3 e4 e5 f0 f1 f2 f3 f4 f5
  clear hxx hyy
  go_wp2_with fail
  clear e0 e1 e2 e3 e4 e5 el f0 f1 f2 f3 f4 f5 fl
  refine hsm.mono ?_
  clear hsm HSM
  rintro e w4 ⟨rfl, m4⟩
  have HI : Hid (RfI w xb yb pb #[.int .i64 xk, .bool xf, .int .i64 xn, .string xw, .slice xla xln xlc, .slice xma xmn xmc] #[.int .i64 yk, .bool yf, .int .i64 yn, .string yw, .slice yla yln ylc, .slice yma ymn ymc] (.slice A n c) (pb + 1) D [] none 0 0 w4) := Lib.hid ⟨HX.out.mod m4 (fun e => e), HY.out.mod m4 (fun e => e), HPB.out.mod m4 (fun e => e), ⟨[], Own.nil, trivial⟩, HM.out.trans m4, by have := HXB.out; have := m4.size; omega, by have := HXB.out; omega⟩
  clear HX HY HPB HM m4
  have h0b : decide (vCmp (d + 1) a b = 0) = true := by simpa using h0
  clear h0
  go_wp2_with fail
  go_ret
  exact ⟨none, 0, 0, [], rfl, Sl.nil, trivial, HI.out.new⟩
set_option maxRecDepth 100000 in
set_option maxHeartbeats 700000 in
theorem rf_one (D d : Nat) (x y : VA) (a b : VT) (A : Option Addr) (n c : Nat) (ps : List St) (w : World)
    (htx : Tree w (fun _ => True) (d + 1) x a) (hty : Tree w (fun _ => True) (d + 1) y b) (hga : Good (d + 1) a) (hgb : Good (d + 1) b) (hfa : Fit (d + 1) a) (hfb : Fit (d + 1) b) (hs : Sl w 76 3 St.enc A n ps) (hn : n + d ≤ 899) (hd : d + 1 ≤ D)
    (h0 : vCmp (d + 1) a b ≠ 0) (h5 : ¬ (x.kind = 5 ∧ y.kind = 5)) (h4 : ¬ (x.kind = 4 ∧ y.kind = 4)) : Calls Tryz.prog 13 #[x.val, y.val, .slice A n c] w (RDfO w D (difF (d + 1) a b ps)) := by
  rw [difF_one ps h0 (by rw [htx.fields.1, hty.fields.1]; exact h5) (by rw [htx.fields.1, hty.fields.1]; exact h4)]
  have HDA := Lib.hid htx.deep
  have HDB := Lib.hid hty.deep
  have HSM := Lib.hid (fun W (h : New w W) => same_v (d + 1) x y a b _ W (htx.new h) (hty.new h) hfa hfb)
  have HKA := Lib.hid htx.fields.1
  have HKB := Lib.hid hty.fields.1
  have HTX := Lib.hid htx
  have HTY := Lib.hid hty
  have HGA := Lib.hid hga
  have HGB := Lib.hid hgb
  have HFA := Lib.hid hfa
  have HFB := Lib.hid hfb
  have HPS := Lib.hid hs
  obtain ⟨xk, xf, xn, xw, xla, xln, xlc, xma, xmn, xmc⟩ := x
  obtain ⟨yk, yf, yn, yw, yla, yln, ylc, yma, ymn, ymc⟩ := y
  simp only at h5 h4
  clear htx hty hga hgb hfa hfb hs
  have hx := Blk.new w 29 #[.int .i64 xk, .bool xf, .int .i64 xn, .string xw, .slice xla xln xlc, .slice xma xmn xmc]
  have hm1 : New w (w.alloc (.cells #[.int .i64 xk, .bool xf, .int .i64 xn, .string xw, .slice xla xln xlc, .slice xma xmn xmc] 29)) := (Mod.refl _ _).alloc _
  have z1 : (w.alloc (.cells #[.int .i64 xk, .bool xf, .int .i64 xn, .string xw, .slice xla xln xlc, .slice xma xmn xmc] 29)).heap.size = w.heap.size + 1 := by simp
  go_enter Tryz.func13, Tryz.ntmps13
  go_upto_region 1 with (fail)
  generalize w.alloc (.cells #[.int .i64 xk, .bool xf, .int .i64 xn, .string xw, .slice xla xln xlc, .slice xma xmn xmc] 29) = w1 at *
  have hy := Blk.new w1 29 #[.int .i64 yk, .bool yf, .int .i64 yn, .string yw, .slice yla yln ylc, .slice yma ymn ymc]
  have hm2 : New w1 (w1.alloc (.cells #[.int .i64 yk, .bool yf, .int .i64 yn, .string yw, .slice yla yln ylc, .slice yma ymn ymc] 29)) := (Mod.refl _ _).alloc _
  have z2 : (w1.alloc (.cells #[.int .i64 yk, .bool yf, .int .i64 yn, .string yw, .slice yla yln ylc, .slice yma ymn ymc] 29)).heap.size = w.heap.size + 1 + 1 := by simp [z1]
  rw [z1] at hy
  generalize w1.alloc (.cells #[.int .i64 yk, .bool yf, .int .i64 yn, .string yw, .slice yla yln ylc, .slice yma ymn ymc] 29) = w2 at *
  have hz := Blk.new w2 63 #[.slice A n c]
  have hm3 : New w2 (w2.alloc (.cells #[.slice A n c] 63)) := (Mod.refl _ _).alloc _
  have z3 : (w2.alloc (.cells #[.slice A n c] 63)).heap.size = w.heap.size + 1 + 1 + 1 := by simp [z2]
  rw [z2] at hz
  generalize w2.alloc (.cells #[.slice A n c] 63) = w3 at *
  have HX := Lib.hid ((hx.mod hm2 (fun e => e)).mod hm3 (fun e => e))
  have HY := Lib.hid (hy.mod hm3 (fun e => e))
  have HPB := Lib.hid hz
  have HM := Lib.hid ((hm1.trans hm2).trans hm3)
  have HZ3 := Lib.hid z3
  clear hx hy hz hm1 hm2 hm3 z1 z2 z3
  generalize hxb : w.heap.size = xb at *
  generalize hyb : xb + 1 = yb at *
  generalize hpb : yb + 1 = pb at *
  have HXB : Hid (w.heap.size = xb ∧ xb < yb ∧ yb < pb ∧ w3.heap.size = pb + 1) := Lib.hid ⟨hxb, by omega, by omega, HZ3.out⟩
  clear hxb hyb hpb HZ3
  have hsm := HSM.out w3 HM.out
  rw [eqV_cmp HDA.out HDB.out] at hsm
  have hxx := HX.out
  have hyy := HY.out
  have e0 := hxx.cell 0
  have e1 := hxx.cell 1
  have e2 := hxx.cell 2
  have e3 := hxx.cell 3
  have e4 := hxx.cell 4
  have e5 := hxx.cell 5
  have el := hxx.lt
  have f0 := hyy.cell 0
  have f1 := hyy.cell 1
  have f2 := hyy.cell 2
  have f3 := hyy.cell 3
  have f4 := hyy.cell 4
  have f5 := hyy.cell 5
  have fl := hyy.lt
  simp only [List.getElem?_toArray, List.getElem?_cons_zero, List.getElem?_cons_succ] at e0 e1 e2 e3 e4 e5 f0 f1 f2 f3 f4 f5
  clear hxx hyy
  go_wp2_with fail
  clear e0 e1 e2 e3 e4 e5 el f0 f1 f2 f3 f4 f5 fl
  refine hsm.mono ?_
  clear hsm HSM
  rintro e w4 ⟨rfl, m4⟩
  have HI : Hid (RfI w xb yb pb #[.int .i64 xk, .bool xf, .int .i64 xn, .string xw, .slice xla xln xlc, .slice xma xmn xmc] #[.int .i64 yk, .bool yf, .int .i64 yn, .string yw, .slice yla yln ylc, .slice yma ymn ymc] (.slice A n c) (pb + 1) D [] none 0 0 w4) := Lib.hid ⟨HX.out.mod m4 (fun e => e), HY.out.mod m4 (fun e => e), HPB.out.mod m4 (fun e => e), ⟨[], Own.nil, trivial⟩, HM.out.trans m4, by have := HXB.out; have := m4.size; omega, by have := HXB.out; omega⟩
  clear HX HY HPB HM m4
  have h0b : decide (vCmp (d + 1) a b = 0) = false := by simpa using h0
  clear h0
  obtain ⟨x5, hx5⟩ : ∃ q, (xk == 5) = q := ⟨_, rfl⟩
  obtain ⟨y5, hy5⟩ : ∃ q, (yk == 5) = q := ⟨_, rfl⟩
  obtain ⟨x4, hx4⟩ : ∃ q, (xk == 4) = q := ⟨_, rfl⟩
  obtain ⟨y4, hy4⟩ : ∃ q, (yk == 4) = q := ⟨_, rfl⟩
  have hh5 : (x5 && y5) = false := by
    rw [← hx5, ← hy5]
    simpa using h5
  have hh4 : (x4 && y4) = false := by
    rw [← hx4, ← hy4]
    simpa using h4
  clear h5 h4
  have hxx := (HI.out).bx
  have hyy := (HI.out).by_
  have e0 := hxx.cell 0
  have e1 := hxx.cell 1
  have e2 := hxx.cell 2
  have e3 := hxx.cell 3
  have e4 := hxx.cell 4
  have e5 := hxx.cell 5
  have el := hxx.lt
  have f0 := hyy.cell 0
  have f1 := hyy.cell 1
  have f2 := hyy.cell 2
  have f3 := hyy.cell 3
  have f4 := hyy.cell 4
  have f5 := hyy.cell 5
  have fl := hyy.lt
  simp only [List.getElem?_toArray, List.getElem?_cons_zero, List.getElem?_cons_succ] at e0 e1 e2 e3 e4 e5 f0 f1 f2 f3 f4 f5
  clear hxx hyy
  go_upto_region 5 with (fail)
  clear e0 e1 e2 e3 e4 e5 el f0 f1 f2 f3 f4 f5 fl
  go_cut [26] (fun s wx => s = .bool false ∧ Hid (RfI w xb yb pb #[.int .i64 xk, .bool xf, .int .i64 xn, .string xw, .slice xla xln xlc, .slice xma xmn xmc] #[.int .i64 yk, .bool yf, .int .i64 yn, .string yw, .slice yla yln ylc, .slice yma ymn ymc] (.slice A n c) (pb + 1) D [] none 0 0 wx))
  case first =>
    have hxx := (HI.out).bx
    have hyy := (HI.out).by_
    have e0 := hxx.cell 0
    have e1 := hxx.cell 1
    have e2 := hxx.cell 2
    have e3 := hxx.cell 3
    have e4 := hxx.cell 4
    have e5 := hxx.cell 5
    have el := hxx.lt
    have f0 := hyy.cell 0
    have f1 := hyy.cell 1
    have f2 := hyy.cell 2
    have f3 := hyy.cell 3
    have f4 := hyy.cell 4
    have f5 := hyy.cell 5
    have fl := hyy.lt
    simp only [List.getElem?_toArray, List.getElem?_cons_zero, List.getElem?_cons_succ] at e0 e1 e2 e3 e4 e5 f0 f1 f2 f3 f4 f5
    clear hxx hyy
    cases x5 <;> cases y5 <;> first | (exfalso; simp at hh5; done) | skip
    all_goals
      clear hh5
      go_wp2_with fail
      go_meet
      case rel => exact ⟨rfl, HI⟩
  case rest =>
    clear HI
    rename World => w4
    obtain ⟨rfl, HI⟩ := hcut
    have hxx := (HI.out).bx
    have hyy := (HI.out).by_
    have e0 := hxx.cell 0
    have e1 := hxx.cell 1
    have e2 := hxx.cell 2
    have e3 := hxx.cell 3
    have e4 := hxx.cell 4
    have e5 := hxx.cell 5
    have el := hxx.lt
    have f0 := hyy.cell 0
    have f1 := hyy.cell 1
    have f2 := hyy.cell 2
    have f3 := hyy.cell 3
    have f4 := hyy.cell 4
    have f5 := hyy.cell 5
    have fl := hyy.lt
    simp only [List.getElem?_toArray, List.getElem?_cons_zero, List.getElem?_cons_succ] at e0 e1 e2 e3 e4 e5 f0 f1 f2 f3 f4 f5
    clear hxx hyy
    go_upto_region 26 with (fail)
    clear e0 e1 e2 e3 e4 e5 el f0 f1 f2 f3 f4 f5 fl
    go_cut [108] (fun s wx => s = .bool false ∧ Hid (RfI w xb yb pb #[.int .i64 xk, .bool xf, .int .i64 xn, .string xw, .slice xla xln xlc, .slice xma xmn xmc] #[.int .i64 yk, .bool yf, .int .i64 yn, .string yw, .slice yla yln ylc, .slice yma ymn ymc] (.slice A n c) (pb + 1) D [] none 0 0 wx))
    case first =>
      have hxx := (HI.out).bx
      have hyy := (HI.out).by_
      have e0 := hxx.cell 0
      have e1 := hxx.cell 1
      have e2 := hxx.cell 2
      have e3 := hxx.cell 3
      have e4 := hxx.cell 4
      have e5 := hxx.cell 5
      have el := hxx.lt
      have f0 := hyy.cell 0
      have f1 := hyy.cell 1
      have f2 := hyy.cell 2
      have f3 := hyy.cell 3
      have f4 := hyy.cell 4
      have f5 := hyy.cell 5
      have fl := hyy.lt
      simp only [List.getElem?_toArray, List.getElem?_cons_zero, List.getElem?_cons_succ] at e0 e1 e2 e3 e4 e5 f0 f1 f2 f3 f4 f5
      clear hxx hyy
      cases x4 <;> cases y4 <;> first | (exfalso; simp at hh4; done) | skip
      all_goals
        clear hh4
        go_wp2_with fail
        go_meet
        case rel => exact ⟨rfl, HI⟩
    case rest =>
      clear HI
      rename World => w4
      obtain ⟨rfl, HI⟩ := hcut
      have HSL : Hid (∀ W, New w4 W → W.cell? ⟨pb, 0, none⟩ = some (.slice A n c) ∧ W.cell? ⟨yb, 0, none⟩ = some (.int .i64 yk) ∧ W.cell? ⟨yb, 1, none⟩ = some (.bool yf) ∧ W.cell? ⟨yb, 2, none⟩ = some (.int .i64 yn) ∧ W.cell? ⟨yb, 3, none⟩ = some (.string yw) ∧ W.cell? ⟨yb, 4, none⟩ = some (.slice yla yln ylc) ∧ W.cell? ⟨yb, 5, none⟩ = some (.slice yma ymn ymc) ∧ pb < W.heap.size ∧ yb < W.heap.size) := Lib.hid (fun W hW => by
        have h1 := HI.out.bp.mod hW (fun e => e)
        have h2 := HI.out.by_.mod hW (fun e => e)
        exact ⟨(h1.cell 0).trans rfl, (h2.cell 0).trans rfl, (h2.cell 1).trans rfl, (h2.cell 2).trans rfl, (h2.cell 3).trans rfl, (h2.cell 4).trans rfl, (h2.cell 5).trans rfl, h1.lt, h2.lt⟩)
      go_upto_region 41 with (fail)
      refine wp_region_held_tree (New w4) 5 (by kernel_rfl) (by kernel_rfl) ?_
      have hn1 : New w4 w4.drew := (Mod.refl _ _).drew
      refine headW_take 0 _ ?_ (fun _ _ d _ _ h => by cases d <;> exact h) (by kernel_rfl) rfl (by kernel_rfl) hn1 (by rfl) (fun W hSw => ?_) ?_
      rotate_left
      · (have hq := HSL.out W hSw); (try simp only [List.getElem_toArray, List.getElem_cons_zero, List.getElem_cons_succ]); go_simp; any_goals (with_reducible rfl)
      simp only [Act.put, List.getElem_toArray, List.getElem_cons_zero, List.getElem_cons_succ, List.setIfInBounds_toArray, List.set_cons_zero, List.set_cons_succ]
      refine headW_take 2 _ ?_ (fun _ _ d _ _ h => by cases d <;> exact h) (by kernel_rfl) rfl (by kernel_rfl) hn1 (by rfl) (fun W hSw => ?_) ?_
      rotate_left
      · (have hq := HSL.out W hSw); (try simp only [List.getElem_toArray, List.getElem_cons_zero, List.getElem_cons_succ]); go_simp; any_goals (with_reducible rfl)
      simp only [Act.put, List.getElem_toArray, List.getElem_cons_zero, List.getElem_cons_succ, List.setIfInBounds_toArray, List.set_cons_zero, List.set_cons_succ]
      refine headW_ready [1] (by kernel_rfl) (by rfl) ?_
      refine eachW_step rfl rfl (fun K hK => ?_) eachW_nil
      have hcl := cloneS ps A n c _ (HPS.out.new (HI.out.new.trans hn1)) (by omega)
      (try simp only [List.getElem_toArray, List.getElem_cons_zero, List.getElem_cons_succ])
      go_simp
      refine hcl.mono ?_
      clear hcl
      rintro e w6 ⟨A6, c6, rfl, own6, m6⟩
      have HN6 := Lib.hid (hn1.trans m6)
      have HS6 := Lib.hid own6.sl
      clear own6 m6
      go_wp2_with fail
      refine hK.out _ _ HN6.out (fun _ => ?_)
      clear hK K
      (try simp only [Act.put, List.getElem_toArray, List.getElem_cons_zero, List.getElem_cons_succ, List.setIfInBounds_toArray, List.set_cons_zero, List.set_cons_succ])
      have hn6 := HN6.out
      refine headW_take 3 _ ?_ (fun _ _ d _ _ h => by cases d <;> exact h) (by kernel_rfl) rfl (by kernel_rfl) hn6 (by rfl) (fun W hSw => ?_) ?_
      rotate_left
      · (have hq := HSL.out W hSw); (try simp only [List.getElem_toArray, List.getElem_cons_zero, List.getElem_cons_succ]); go_simp; any_goals (with_reducible rfl)
      simp only [Act.put, List.getElem_toArray, List.getElem_cons_zero, List.getElem_cons_succ, List.setIfInBounds_toArray, List.set_cons_zero, List.set_cons_succ]
      refine headW_ready [4] (by kernel_rfl) (by rfl) ?_
      refine eachW_step rfl rfl (fun K hK => ?_) eachW_nil
      have b7 : Blk (w6.alloc (.cells #[.int .i64 1, .slice A6 n c6, .int .i64 yk, .bool yf, .int .i64 yn, .string yw, .slice yla yln ylc, .slice yma ymn ymc] 65)) w6.heap.size 65 (encL 8 CA.enc ⟨1, A6, n, c6, ⟨yk, yf, yn, yw, yla, yln, ylc, yma, ymn, ymc⟩⟩).toArray := Blk.new _ _ _
      have HMA : Hid (New w6 (w6.alloc (.cells #[.int .i64 1, .slice A6 n c6, .int .i64 yk, .bool yf, .int .i64 yn, .string yw, .slice yla yln ylc, .slice yma ymn ymc] 65))) := Lib.hid ((Mod.refl _ _).alloc _)
      have HB7 := Lib.hid b7
      clear b7 hn6
      (try simp only [List.getElem_toArray, List.getElem_cons_zero, List.getElem_cons_succ])
      go_simp
      refine hK.out _ _ (HN6.out.trans HMA.out) (fun _ => ?_)
      clear hK K
      (try simp only [Act.put, List.getElem_toArray, List.getElem_cons_zero, List.getElem_cons_succ, List.setIfInBounds_toArray, List.set_cons_zero, List.set_cons_succ])
      refine headW_done (by kernel_rfl) ?_
      go_wp2_with fail
      go_ret
      refine ⟨some ⟨w6.heap.size, 0, none⟩, 1, 1, [⟨1, A6, n, c6, ⟨yk, yf, yn, yw, yla, yln, ylc, yma, ymn, ymc⟩⟩], rfl, Sl.of_blk HB7.out rfl (fun i hi j hj => ?_), Al.one ⟨rfl, HS6.out.new HMA.out, Tree.upto (by omega) (HTY.out.new ((HI.out.new.trans HN6.out).trans HMA.out))⟩, (HI.out.new.trans HN6.out).trans HMA.out⟩
      obtain rfl : i = 0 := by simp at hi; omega
      simp [encL, hj]
end Go.Proofs.YtjfgfkbgbhbhjaaGreatDoor

namespace Go.Proofs.YtjfgfkbgbhbhjaaGreatDoor
open Go.RowKit
set_option linter.unusedVariables false
set_option linter.unusedSimpArgs false

set_option maxRecDepth 100000 in
set_option maxHeartbeats 700000 in
theorem rf_lists (D d : Nat) (IH : RSpec D d) (x y : VA) (a b : VT) (A : Option Addr) (n c : Nat) (ps : List St) (w : World)
    (htx : Tree w (fun _ => True) (d + 1) x a) (hty : Tree w (fun _ => True) (d + 1) y b) (hga : Good (d + 1) a) (hgb : Good (d + 1) b) (hfa : Fit (d + 1) a) (hfb : Fit (d + 1) b) (hs : Sl w 76 3 St.enc A n ps) (hn : n + d ≤ 899) (hd : d + 1 ≤ D)
    (hL : (difF (d + 1) a b ps).length ≤ 400000) (h0 : vCmp (d + 1) a b ≠ 0) (hx4 : x.kind = 4) (hy4 : y.kind = 4) : Calls Tryz.prog 13 #[x.val, y.val, .slice A n c] w (RDfO w D (difF (d + 1) a b ps)) := by
  rw [difF_list ps h0 (by rw [htx.fields.1]; exact hx4) (by rw [hty.fields.1]; exact hy4)] at hL ⊢
  obtain ⟨xs, xm, h1, h2, -, -⟩ := htx.als
  obtain ⟨ys, ym, h3, h4, -, -⟩ := hty.als
  obtain ⟨-, -, -, -, f5, -⟩ := htx.fields
  obtain ⟨-, -, -, -, g5, -⟩ := hty.fields
  have HDA := Lib.hid htx.deep
  have HDB := Lib.hid hty.deep
  have HSM := Lib.hid (fun W (h : New w W) => same_v (d + 1) x y a b _ W (htx.new h) (hty.new h) hfa hfb)
  have HKA := Lib.hid htx.fields.1
  have HKB := Lib.hid hty.fields.1
  have HTX := Lib.hid htx
  have HTY := Lib.hid hty
  have HGA := Lib.hid hga
  have HGB := Lib.hid hgb
  have HFA := Lib.hid hfa
  have HFB := Lib.hid hfb
  have HPS := Lib.hid hs
  have HL1 := Lib.hid h1
  have HL2 := Lib.hid h2
  have HL3 := Lib.hid h3
  have HL4 := Lib.hid h4
  have hp1 := hfa.parts.1
  have hp2 := hfb.parts.1
  obtain ⟨xk, xf, xn, xw, xla, xln, xlc, xma, xmn, xmc⟩ := x
  obtain ⟨yk, yf, yn, yw, yla, yln, ylc, yma, ymn, ymc⟩ := y
  simp only at f5 g5 HL1 HL3 hx4 hy4
  have HF5 := Lib.hid f5
  have HG5 := Lib.hid g5
  rw [f5, g5] at hL ⊢
  simp only [List.length_append, takeD_len, putD_len] at hL
  have hxln : xln ≤ 1000 := by omega
  have hyln : yln ≤ 1000 := by omega
  have hx4b : (xk == 4) = true := by simpa using hx4
  have hy4b : (yk == 4) = true := by simpa using hy4
  have hx5b : (xk == 5) = false := by subst hx4; decide
  clear htx hty hga hgb hfa hfb hs h1 h2 h3 h4 f5 g5 hp1 hp2 hx4 hy4
  obtain ⟨m, hm⟩ : ∃ m, min xln yln = m := ⟨_, rfl⟩
  rw [hm] at hL ⊢
  have hmx : m ≤ xln := by omega
  have hmy : m ≤ yln := by omega
  have hmin : min (xln : Int) (yln : Int) = (m : Int) := by omega
  have HBL := Lib.hid (fun k (h : k ≤ m) => bothD_le d a b ps h)
  clear hm
  have hx := Blk.new w 29 #[.int .i64 xk, .bool xf, .int .i64 xn, .string xw, .slice xla xln xlc, .slice xma xmn xmc]
  have hm1 : New w (w.alloc (.cells #[.int .i64 xk, .bool xf, .int .i64 xn, .string xw, .slice xla xln xlc, .slice xma xmn xmc] 29)) := (Mod.refl _ _).alloc _
  have z1 : (w.alloc (.cells #[.int .i64 xk, .bool xf, .int .i64 xn, .string xw, .slice xla xln xlc, .slice xma xmn xmc] 29)).heap.size = w.heap.size + 1 := by simp
  go_enter Tryz.func13, Tryz.ntmps13
  go_upto_region 1 with (fail)
  generalize w.alloc (.cells #[.int .i64 xk, .bool xf, .int .i64 xn, .string xw, .slice xla xln xlc, .slice xma xmn xmc] 29) = w1 at *
  have hy := Blk.new w1 29 #[.int .i64 yk, .bool yf, .int .i64 yn, .string yw, .slice yla yln ylc, .slice yma ymn ymc]
  have hm2 : New w1 (w1.alloc (.cells #[.int .i64 yk, .bool yf, .int .i64 yn, .string yw, .slice yla yln ylc, .slice yma ymn ymc] 29)) := (Mod.refl _ _).alloc _
  have z2 : (w1.alloc (.cells #[.int .i64 yk, .bool yf, .int .i64 yn, .string yw, .slice yla yln ylc, .slice yma ymn ymc] 29)).heap.size = w.heap.size + 1 + 1 := by simp [z1]
  rw [z1] at hy
  generalize w1.alloc (.cells #[.int .i64 yk, .bool yf, .int .i64 yn, .string yw, .slice yla yln ylc, .slice yma ymn ymc] 29) = w2 at *
  have hz := Blk.new w2 63 #[.slice A n c]
  have hm3 : New w2 (w2.alloc (.cells #[.slice A n c] 63)) := (Mod.refl _ _).alloc _
  have z3 : (w2.alloc (.cells #[.slice A n c] 63)).heap.size = w.heap.size + 1 + 1 + 1 := by simp [z2]
  rw [z2] at hz
  generalize w2.alloc (.cells #[.slice A n c] 63) = w3 at *
  have HX := Lib.hid ((hx.mod hm2 (fun e => e)).mod hm3 (fun e => e))
  have HY := Lib.hid (hy.mod hm3 (fun e => e))
  have HPB := Lib.hid hz
  have HM := Lib.hid ((hm1.trans hm2).trans hm3)
  have HZ3 := Lib.hid z3
  clear hx hy hz hm1 hm2 hm3 z1 z2 z3
  generalize hxb : w.heap.size = xb at *
  generalize hyb : xb + 1 = yb at *
  generalize hpb : yb + 1 = pb at *
  have HXB : Hid (w.heap.size = xb ∧ xb < yb ∧ yb < pb ∧ w3.heap.size = pb + 1) := Lib.hid ⟨hxb, by omega, by omega, HZ3.out⟩
  clear hxb hyb hpb HZ3
  have hsm := HSM.out w3 HM.out
  rw [eqV_cmp HDA.out HDB.out] at hsm
  have hxx := HX.out
  have hyy := HY.out
  have e0 := hxx.cell 0
  have e1 := hxx.cell 1
  have e2 := hxx.cell 2
  have e3 := hxx.cell 3
  have e4 := hxx.cell 4
  have e5 := hxx.cell 5
  have el := hxx.lt
  have f0 := hyy.cell 0
  have f1 := hyy.cell 1
  have f2 := hyy.cell 2
  have f3 := hyy.cell 3
  have f4 := hyy.cell 4
  have f5 := hyy.cell 5
  have fl := hyy.lt
  simp only [List.getElem?_toArray, List.getElem?_cons_zero, List.getElem?_cons_succ] at e0 e1 e2 e3 e4 e5 f0 f1 f2 f3 f4 f5
  clear hxx hyy
  go_wp2_with fail
  clear e0 e1 e2 e3 e4 e5 el f0 f1 f2 f3 f4 f5 fl
  refine hsm.mono ?_
  clear hsm HSM
  rintro e w4 ⟨rfl, m4⟩
  have HI : Hid (RfI w xb yb pb #[.int .i64 xk, .bool xf, .int .i64 xn, .string xw, .slice xla xln xlc, .slice xma xmn xmc] #[.int .i64 yk, .bool yf, .int .i64 yn, .string yw, .slice yla yln ylc, .slice yma ymn ymc] (.slice A n c) (pb + 1) D [] none 0 0 w4) := Lib.hid ⟨HX.out.mod m4 (fun e => e), HY.out.mod m4 (fun e => e), HPB.out.mod m4 (fun e => e), ⟨[], Own.nil, trivial⟩, HM.out.trans m4, by have := HXB.out; have := m4.size; omega, by have := HXB.out; omega⟩
  clear HX HY HPB HM m4
  have h0b : decide (vCmp (d + 1) a b = 0) = false := by simpa using h0
  clear h0
  have hxx := (HI.out).bx
  have hyy := (HI.out).by_
  have e0 := hxx.cell 0
  have e1 := hxx.cell 1
  have e2 := hxx.cell 2
  have e3 := hxx.cell 3
  have e4 := hxx.cell 4
  have e5 := hxx.cell 5
  have el := hxx.lt
  have f0 := hyy.cell 0
  have f1 := hyy.cell 1
  have f2 := hyy.cell 2
  have f3 := hyy.cell 3
  have f4 := hyy.cell 4
  have f5 := hyy.cell 5
  have fl := hyy.lt
  simp only [List.getElem?_toArray, List.getElem?_cons_zero, List.getElem?_cons_succ] at e0 e1 e2 e3 e4 e5 f0 f1 f2 f3 f4 f5
  clear hxx hyy
  go_wp2_with fail
  clear e0 e1 e2 e3 e4 e5 el f0 f1 f2 f3 f4 f5 fl
  go_loopw [124, 8] (fun i s wr => ∃ (k : Nat) (A1 : Option Addr) (n1 c1 : Nat), k ≤ m ∧ i = .int .i64 k ∧ s = .slice A1 n1 c1 ∧ Hid
    (RfI w xb yb pb #[.int .i64 xk, .bool xf, .int .i64 xn, .string xw, .slice xla xln xlc, .slice xma xmn xmc] #[.int .i64 yk, .bool yf, .int .i64 yn, .string yw, .slice yla yln ylc, .slice yma ymn ymc] (.slice A n c) (pb + 1) D (bothD d a b ps k) A1 n1 c1 wr)
    ) (fun i _ _ => m - (intOf i).toNat)
  case atStart => exact ⟨0, _, _, _, Nat.zero_le _, rfl, rfl, HI⟩
  clear HI
  case round =>
    rename World => wr
    obtain ⟨k, A1, n1, c1, hk, rfl, rfl, HI⟩ := hrel
    by_cases hlt : k < m
    · have hkx : k < xs.length := by have := HL1.out.1; omega
      have hky : k < ys.length := by have := HL3.out.1; omega
      have hka : k < a.list.length := by have := HF5.out; omega
      have hkb : k < b.list.length := by have := HG5.out; omega
      obtain ⟨g2, o2, hA2, htb2, hc2⟩ := (HL1.out.mod HI.out.new (fun _ _ _ e => e)).sl.2 (by omega)
      obtain ⟨g3, o3, hA3, htb3, hc3⟩ := (HL3.out.mod HI.out.new (fun _ _ _ e => e)).sl.2 (by omega)
      subst hA2 hA3
      obtain ⟨qs, hown, hal⟩ := HI.out.row
      have HOW := Lib.hid hown
      have HAL := Lib.hid hal
      have hnf : ∀ g t, TB wr g t → t ≠ 65 → ¬ blkOf A1 = some g := fun g t ht hne e => (ht.ne (hown.tbO g e).1 hne) rfl
      have HNF := Lib.hid hnf
      have HC2 : Hid (∀ W, Mod (fun i => blkOf A1 = some i) wr W → ∀ j, j < 6 → W.cell? ⟨g2, o2 + k * 6 + j, none⟩ = some (VA.enc xs[k] j)) := Lib.hid (fun W h j hj => (h.cell (p := ⟨g2, o2 + k * 6 + j, none⟩) htb2.lt (hnf _ _ htb2 (by decide))).trans (hc2 k hkx j hj))
      have HC3 : Hid (∀ W, Mod (fun i => blkOf A1 = some i) wr W → ∀ j, j < 6 → W.cell? ⟨g3, o3 + k * 6 + j, none⟩ = some (VA.enc ys[k] j)) := Lib.hid (fun W h j hj => (h.cell (p := ⟨g3, o3 + k * 6 + j, none⟩) htb3.lt (hnf _ _ htb3 (by decide))).trans (hc3 k hky j hj))
      have HG2 : Hid (∀ W, Mod (fun i => blkOf A1 = some i) wr W → g2 < W.heap.size ∧ g3 < W.heap.size) := Lib.hid (fun W h => ⟨Nat.lt_of_lt_of_le htb2.lt h.size, Nat.lt_of_lt_of_le htb3.lt h.size⟩)
      have ht1 := HL2.out.get k hkx hka
      have ht2 := HL4.out.get k hky hkb
      have HNX := Lib.hid (bothD_next d ps hka hkb)
      have hlen : (bothD d a b ps k).length + (difF d a.list[k] b.list[k] (ps ++ [⟨false, ⟨#[]⟩, (k : Int)⟩])).length ≤ 400000 := by
        have h1 := HBL.out (k + 1) (by omega)
        rw [bothD_next d ps hka hkb] at h1
        simp only [List.length_append] at h1
        omega
      have hn1 : n1 ≤ 400000 := by have := HI.out.len; omega
      have HIH := Lib.hid (fun A2 n2 c2 W (h : New wr W) hss hnn => IH xs[k] ys[k] a.list[k] b.list[k] A2 n2 c2 (ps ++ [⟨false, ⟨#[]⟩, (k : Int)⟩]) W (ht1.new (HI.out.new.trans h)) (ht2.new (HI.out.new.trans h)) (HGA.out.2.1 _ (List.getElem_mem hka)) (HGB.out.2.1 _ (List.getElem_mem hkb)) (HFA.out.item hka) (HFB.out.item hkb) hss hnn (by omega) (by omega))
      have HLEN := Lib.hid hlen
      generalize difF d a.list[k] b.list[k] (ps ++ [⟨false, ⟨#[]⟩, (k : Int)⟩]) = LD at *
      clear hc2 hc3 ht1 ht2 hlen htb2 htb3 hnf hown hal
      generalize xs[k] = z at *
      generalize ys[k] = u at *
      obtain ⟨zk, zf, zn, zw, zla, zln, zlc, zma, zmn, zmc⟩ := z
      obtain ⟨uk, uf, un, uw, ula, uln, ulc, uma, umn, umc⟩ := u
      have HSL : Hid (∀ W, Mod (fun i => blkOf A1 = some i) wr W → W.cell? ⟨xb, 4, none⟩ = some (.slice (some ⟨g2, o2, none⟩) xln xlc) ∧ W.cell? ⟨yb, 4, none⟩ = some (.slice (some ⟨g3, o3, none⟩) yln ylc) ∧
        W.cell? ⟨g2, o2 + k * 6, none⟩ = some (.int .i64 zk) ∧ W.cell? ⟨g2, o2 + k * 6 + 1, none⟩ = some (.bool zf) ∧ W.cell? ⟨g2, o2 + k * 6 + 2, none⟩ = some (.int .i64 zn) ∧ W.cell? ⟨g2, o2 + k * 6 + 3, none⟩ = some (.string zw) ∧ W.cell? ⟨g2, o2 + k * 6 + 4, none⟩ = some (.slice zla zln zlc) ∧ W.cell? ⟨g2, o2 + k * 6 + 5, none⟩ = some (.slice zma zmn zmc) ∧
        W.cell? ⟨g3, o3 + k * 6, none⟩ = some (.int .i64 uk) ∧ W.cell? ⟨g3, o3 + k * 6 + 1, none⟩ = some (.bool uf) ∧ W.cell? ⟨g3, o3 + k * 6 + 2, none⟩ = some (.int .i64 un) ∧ W.cell? ⟨g3, o3 + k * 6 + 3, none⟩ = some (.string uw) ∧ W.cell? ⟨g3, o3 + k * 6 + 4, none⟩ = some (.slice ula uln ulc) ∧ W.cell? ⟨g3, o3 + k * 6 + 5, none⟩ = some (.slice uma umn umc) ∧
        xb < W.heap.size ∧ yb < W.heap.size ∧ g2 < W.heap.size ∧ g3 < W.heap.size) := Lib.hid (fun W hW => by
        have h1 := HI.out.bx.mod hW (HNF.out _ _ HI.out.bx.tb (by decide))
        have h2 := HI.out.by_.mod hW (HNF.out _ _ HI.out.by_.tb (by decide))
        have h3 := HC2.out W hW
        have h4 := HC3.out W hW
        have h5 := HG2.out W hW
        exact ⟨(h1.cell 4).trans rfl, (h2.cell 4).trans rfl, h3 0 (by omega), h3 1 (by omega), h3 2 (by omega), h3 3 (by omega), h3 4 (by omega), h3 5 (by omega), h4 0 (by omega), h4 1 (by omega), h4 2 (by omega), h4 3 (by omega), h4 4 (by omega), h4 5 (by omega), h1.lt, h2.lt, h5.1, h5.2⟩)
      have hb1 : (k : Int) < m := by omega
      have hb2 : (0 : Int) ≤ k := by omega
      have hb3 : (k : Int) < xln := by omega
      have hb4 : (k : Int) < yln := by omega
      have hb5 : k < xln := by omega
      have hb6 : k < yln := by omega
      clear HC2 HC3 HG2
      go_upto_region 30 with (fail)
      refine wp_region_held_tree (Mod (fun i => blkOf A1 = some i) wr) 17 (by kernel_rfl) (by kernel_rfl) ?_
      have hn1 : New wr wr.drew := (Mod.refl _ _).drew
      have hs1 : Mod (fun i => blkOf A1 = some i) wr wr.drew := (Mod.refl _ _).drew
      refine headW_take 0 _ ?_ (fun _ _ d _ _ h => by cases d <;> exact h) (by kernel_rfl) rfl (by kernel_rfl) hs1 (by rfl) (fun W hSw => ?_) ?_
      rotate_left
      · (have hq := HSL.out W hSw); (try simp only [List.getElem_toArray, List.getElem_cons_zero, List.getElem_cons_succ]); go_simp; any_goals (with_reducible rfl)
      simp only [Act.put, List.getElem_toArray, List.getElem_cons_zero, List.getElem_cons_succ, List.setIfInBounds_toArray, List.set_cons_zero, List.set_cons_succ]
      refine headW_take 1 _ ?_ (fun _ _ d _ _ h => by cases d <;> exact h) (by kernel_rfl) rfl (by kernel_rfl) hs1 (by rfl) (fun W hSw => ?_) ?_
      rotate_left
      · (have hq := HSL.out W hSw); (try simp only [List.getElem_toArray, List.getElem_cons_zero, List.getElem_cons_succ]); go_simp; any_goals (with_reducible rfl)
      simp only [Act.put, List.getElem_toArray, List.getElem_cons_zero, List.getElem_cons_succ, List.setIfInBounds_toArray, List.set_cons_zero, List.set_cons_succ]
      refine headW_take 2 _ ?_ (fun _ _ d _ _ h => by cases d <;> exact h) (by kernel_rfl) rfl (by kernel_rfl) hs1 (by rfl) (fun W hSw => ?_) ?_
      rotate_left
      · (have hq := HSL.out W hSw); (try simp only [List.getElem_toArray, List.getElem_cons_zero, List.getElem_cons_succ]); go_simp; any_goals (with_reducible rfl)
      simp only [Act.put, List.getElem_toArray, List.getElem_cons_zero, List.getElem_cons_succ, List.setIfInBounds_toArray, List.set_cons_zero, List.set_cons_succ]
      refine headW_take 3 _ ?_ (fun _ _ d _ _ h => by cases d <;> exact h) (by kernel_rfl) rfl (by kernel_rfl) hs1 (by rfl) (fun W hSw => ?_) ?_
      rotate_left
      · (have hq := HSL.out W hSw); (try simp only [List.getElem_toArray, List.getElem_cons_zero, List.getElem_cons_succ]); go_simp; any_goals (with_reducible rfl)
      simp only [Act.put, List.getElem_toArray, List.getElem_cons_zero, List.getElem_cons_succ, List.setIfInBounds_toArray, List.set_cons_zero, List.set_cons_succ]
      refine headW_take 4 _ ?_ (fun _ _ d _ _ h => by cases d <;> exact h) (by kernel_rfl) rfl (by kernel_rfl) hs1 (by rfl) (fun W hSw => ?_) ?_
      rotate_left
      · (have hq := HSL.out W hSw); (try simp only [List.getElem_toArray, List.getElem_cons_zero, List.getElem_cons_succ]); go_simp; any_goals (with_reducible rfl)
      simp only [Act.put, List.getElem_toArray, List.getElem_cons_zero, List.getElem_cons_succ, List.setIfInBounds_toArray, List.set_cons_zero, List.set_cons_succ]
      refine headW_take 5 _ ?_ (fun _ _ d _ _ h => by cases d <;> exact h) (by kernel_rfl) rfl (by kernel_rfl) hs1 (by rfl) (fun W hSw => ?_) ?_
      rotate_left
      · (have hq := HSL.out W hSw); (try simp only [List.getElem_toArray, List.getElem_cons_zero, List.getElem_cons_succ]); go_simp; any_goals (with_reducible rfl)
      simp only [Act.put, List.getElem_toArray, List.getElem_cons_zero, List.getElem_cons_succ, List.setIfInBounds_toArray, List.set_cons_zero, List.set_cons_succ]
      refine headW_take 6 _ ?_ (fun _ _ d _ _ h => by cases d <;> exact h) (by kernel_rfl) rfl (by kernel_rfl) hs1 (by rfl) (fun W hSw => ?_) ?_
      rotate_left
      · (have hq := HSL.out W hSw); (try simp only [List.getElem_toArray, List.getElem_cons_zero, List.getElem_cons_succ]); go_simp; any_goals (with_reducible rfl)
      simp only [Act.put, List.getElem_toArray, List.getElem_cons_zero, List.getElem_cons_succ, List.setIfInBounds_toArray, List.set_cons_zero, List.set_cons_succ]
      refine headW_take 7 _ ?_ (fun _ _ d _ _ h => by cases d <;> exact h) (by kernel_rfl) rfl (by kernel_rfl) hs1 (by rfl) (fun W hSw => ?_) ?_
      rotate_left
      · (have hq := HSL.out W hSw); (try simp only [List.getElem_toArray, List.getElem_cons_zero, List.getElem_cons_succ]); go_simp; any_goals (with_reducible rfl)
      simp only [Act.put, List.getElem_toArray, List.getElem_cons_zero, List.getElem_cons_succ, List.setIfInBounds_toArray, List.set_cons_zero, List.set_cons_succ]
      refine headW_take 8 _ ?_ (fun _ _ d _ _ h => by cases d <;> exact h) (by kernel_rfl) rfl (by kernel_rfl) hs1 (by rfl) (fun W hSw => ?_) ?_
      rotate_left
      · (have hq := HSL.out W hSw); (try simp only [List.getElem_toArray, List.getElem_cons_zero, List.getElem_cons_succ]); go_simp; any_goals (with_reducible rfl)
      simp only [Act.put, List.getElem_toArray, List.getElem_cons_zero, List.getElem_cons_succ, List.setIfInBounds_toArray, List.set_cons_zero, List.set_cons_succ]
      refine headW_take 9 _ ?_ (fun _ _ d _ _ h => by cases d <;> exact h) (by kernel_rfl) rfl (by kernel_rfl) hs1 (by rfl) (fun W hSw => ?_) ?_
      rotate_left
      · (have hq := HSL.out W hSw); (try simp only [List.getElem_toArray, List.getElem_cons_zero, List.getElem_cons_succ]); go_simp; any_goals (with_reducible rfl)
      simp only [Act.put, List.getElem_toArray, List.getElem_cons_zero, List.getElem_cons_succ, List.setIfInBounds_toArray, List.set_cons_zero, List.set_cons_succ]
      refine headW_take 10 _ ?_ (fun _ _ d _ _ h => by cases d <;> exact h) (by kernel_rfl) rfl (by kernel_rfl) hs1 (by rfl) (fun W hSw => ?_) ?_
      rotate_left
      · (have hq := HSL.out W hSw); (try simp only [List.getElem_toArray, List.getElem_cons_zero, List.getElem_cons_succ]); go_simp; any_goals (with_reducible rfl)
      simp only [Act.put, List.getElem_toArray, List.getElem_cons_zero, List.getElem_cons_succ, List.setIfInBounds_toArray, List.set_cons_zero, List.set_cons_succ]
      refine headW_take 11 _ ?_ (fun _ _ d _ _ h => by cases d <;> exact h) (by kernel_rfl) rfl (by kernel_rfl) hs1 (by rfl) (fun W hSw => ?_) ?_
      rotate_left
      · (have hq := HSL.out W hSw); (try simp only [List.getElem_toArray, List.getElem_cons_zero, List.getElem_cons_succ]); go_simp; any_goals (with_reducible rfl)
      simp only [Act.put, List.getElem_toArray, List.getElem_cons_zero, List.getElem_cons_succ, List.setIfInBounds_toArray, List.set_cons_zero, List.set_cons_succ]
      refine headW_take 12 _ ?_ (fun _ _ d _ _ h => by cases d <;> exact h) (by kernel_rfl) rfl (by kernel_rfl) hs1 (by rfl) (fun W hSw => ?_) ?_
      rotate_left
      · (have hq := HSL.out W hSw); (try simp only [List.getElem_toArray, List.getElem_cons_zero, List.getElem_cons_succ]); go_simp; any_goals (with_reducible rfl)
      simp only [Act.put, List.getElem_toArray, List.getElem_cons_zero, List.getElem_cons_succ, List.setIfInBounds_toArray, List.set_cons_zero, List.set_cons_succ]
      refine headW_take 13 _ ?_ (fun _ _ d _ _ h => by cases d <;> exact h) (by kernel_rfl) rfl (by kernel_rfl) hs1 (by rfl) (fun W hSw => ?_) ?_
      rotate_left
      · (have hq := HSL.out W hSw); (try simp only [List.getElem_toArray, List.getElem_cons_zero, List.getElem_cons_succ]); go_simp; any_goals (with_reducible rfl)
      simp only [Act.put, List.getElem_toArray, List.getElem_cons_zero, List.getElem_cons_succ, List.setIfInBounds_toArray, List.set_cons_zero, List.set_cons_succ]
      refine headW_ready [14] (by kernel_rfl) (by rfl) ?_
      refine eachW_step rfl rfl (fun K hK => ?_) eachW_nil
      have hto := ref_to pb A n c ps ⟨false, ⟨#[]⟩, (k : Int)⟩ wr.drew (HI.out.bp.mod hn1 (fun e => e)) (HPS.out.new (HI.out.new.trans hn1)) (by omega)
      unfold St.val at hto
      simp only at hto
      (try simp only [List.getElem_toArray, List.getElem_cons_zero, List.getElem_cons_succ])
      go_simp
      refine hto.mono ?_
      clear hto
      rintro e w7 ⟨A7, c7, rfl, own7, m7⟩
      have HN7 := Lib.hid (hn1.trans m7)
      have HS7 := Lib.hid own7.sl
      clear own7 m7
      go_wp2_with fail
      refine hK.out _ _ (HN7.out.mono (fun _ _ e => e.elim)) (fun _ => ?_)
      clear hK K
      (try simp only [Act.put, List.getElem_toArray, List.getElem_cons_zero, List.getElem_cons_succ, List.setIfInBounds_toArray, List.set_cons_zero, List.set_cons_succ])
      refine headW_ready [15] (by kernel_rfl) (by rfl) ?_
      refine eachW_step rfl rfl (fun K hK => ?_) eachW_nil
      have hih := HIH.out A7 (n + 1) c7 w7 HN7.out HS7.out (by omega)
      clear HIH
      (try simp only [List.getElem_toArray, List.getElem_cons_zero, List.getElem_cons_succ])
      go_simp
      refine hih.mono ?_
      clear hih
      rintro e w8 ⟨A8, n8, c8, q8, rfl, s8, al8, m8⟩
      have HN8 := Lib.hid (HN7.out.trans m8)
      have HS8 := Lib.hid s8
      have HA8 := Lib.hid al8
      have hn8 : n1 + n8 < 1000000 := by have h1 := s8.1; have h2 := al8.len; have := HLEN.out; omega
      clear s8 al8 m8 HN7 HS7
      go_wp2_with fail
      refine hK.out _ _ (HN8.out.mono (fun _ _ e => e.elim)) (fun _ => ?_)
      clear hK K
      (try simp only [Act.put, List.getElem_toArray, List.getElem_cons_zero, List.getElem_cons_succ, List.setIfInBounds_toArray, List.set_cons_zero, List.set_cons_succ])
      refine headW_ready [16] (by kernel_rfl) (by rfl) ?_
      refine eachW_step rfl rfl (fun K hK => ?_) eachW_nil
      have hrow := HOW.out.new HN8.out
      have hle8 := Nat.le_trans HI.out.le HN8.out.size
      have hs8 := HS8.out
      refine wp_pushRow (.tmp 127) (.tmp 142) _ rfl 120 Tryz.underlying33 einfo_chg rfl (by exact hrow) q8 A8 n8 c8 rfl (by exact hs8) (fun y _ j hj => CA.one y j hj) hn8 (by omega) hle8 ?_
      intro A9 cap9 w9 own9 hm9 hat9
      have HO9 := Lib.hid own9
      have HM9 := Lib.hid hm9
      refine hK.out _ _ ((HN8.out.mono (fun _ _ e => e.elim)).trans hm9) (fun _ => ?_)
      clear hK K own9 hm9 hat9 hrow hs8
      (try simp only [Act.put, List.getElem_toArray, List.getElem_cons_zero, List.getElem_cons_succ, List.setIfInBounds_toArray, List.set_cons_zero, List.set_cons_succ])
      refine headW_done (by kernel_rfl) ?_
      go_wp2_with fail
      go_roundw
      case rel => exact ⟨k + 1, A9, n1 + n8, cap9, by omega, by go_num, rfl, Lib.hid (by
        rw [HNX.out]
        have hq := (HI.out.more HN8.out)
        exact ⟨hq.bx.mod HM9.out (fun e => by have := (HOW.out.tbO _ e).2; have := HI.out.ord; omega), hq.by_.mod HM9.out (fun e => by have := (HOW.out.tbO _ e).2; have := HI.out.ord; omega), hq.bp.mod HM9.out (fun e => by have := (HOW.out.tbO _ e).2; have := HI.out.ord; omega),
          ⟨qs ++ q8, HO9.out, Al.append (Al.imp (fun _ _ q => (q.new HN8.out).push (HOW.out.new HN8.out) HM9.out) HAL.out) (Al.imp (fun _ _ q => q.push (HOW.out.new HN8.out) HM9.out) HA8.out)⟩, hq.new.step HM9.out (fun i hi e => by have := (HOW.out.tbO _ e).2; have := HI.out.ord; omega), Nat.le_trans hq.le HM9.out.size, HI.out.ord⟩)⟩
      case measure => simp [intOf]; omega
    · obtain rfl : m = k := by omega
      have hxx := (HI.out).bx
      have hyy := (HI.out).by_
      have e0 := hxx.cell 0
      have e1 := hxx.cell 1
      have e2 := hxx.cell 2
      have e3 := hxx.cell 3
      have e4 := hxx.cell 4
      have e5 := hxx.cell 5
      have el := hxx.lt
      have f0 := hyy.cell 0
      have f1 := hyy.cell 1
      have f2 := hyy.cell 2
      have f3 := hyy.cell 3
      have f4 := hyy.cell 4
      have f5 := hyy.cell 5
      have fl := hyy.lt
      simp only [List.getElem?_toArray, List.getElem?_cons_zero, List.getElem?_cons_succ] at e0 e1 e2 e3 e4 e5 f0 f1 f2 f3 f4 f5
      clear hxx hyy
      go_wp2_with fail
      clear e0 e1 e2 e3 e4 e5 el f0 f1 f2 f3 f4 f5 fl
      go_loopw [20, 8] (fun i s wr => ∃ (k : Nat) (z : Int) (A1 : Option Addr) (n1 c1 : Nat), k ≤ xln - yln ∧ z = (xln : Int) - 1 - k ∧ i = .int .i64 z ∧ s = .slice A1 n1 c1 ∧ Hid
        (RfI w xb yb pb #[.int .i64 xk, .bool xf, .int .i64 xn, .string xw, .slice xla xln xlc, .slice xma xmn xmc] #[.int .i64 yk, .bool yf, .int .i64 yn, .string yw, .slice yla yln ylc, .slice yma ymn ymc] (.slice A n c) (pb + 1) D (bothD d a b ps m ++ takeD xln ps k) A1 n1 c1 wr)
        ) (fun i _ _ => (intOf i + 1).toNat)
      case atStart => exact ⟨0, _, _, _, _, Nat.zero_le _, rfl, by go_num, rfl, Lib.hid (by rw [show takeD xln ps 0 = [] from rfl, List.append_nil]; exact HI.out)⟩
      clear HI
      case round =>
        rename World => wr
        obtain ⟨k, z, A1, n1, c1, hk, hz, rfl, rfl, HI⟩ := hrel
        by_cases hge : (yln : Int) ≤ z
        · obtain ⟨j, rfl⟩ : ∃ j : Nat, z = (j : Int) := ⟨z.toNat, by omega⟩
          have HJ : Hid (j = xln - 1 - k) := Lib.hid (by omega)
          have hj9 : j ≤ 1000 := by omega
          have hkm : k < xln - yln := by omega
          have HNX : Hid (bothD d a b ps m ++ takeD xln ps (k + 1) = (bothD d a b ps m ++ takeD xln ps k) ++ [⟨3, ps ++ [⟨false, ⟨#[]⟩, (j : Int)⟩], nilV⟩]) := Lib.hid (by
            rw [takeD_next, HJ.out]
            simp only [List.append_assoc])
          have hn1 : n1 ≤ 500000 := by
            have h := HI.out.len
            simp only [List.length_append, takeD_len] at h
            omega
          have hto := ref_to pb A n c ps ⟨false, ⟨#[]⟩, (j : Int)⟩ wr HI.out.bp (HPS.out.new HI.out.new) (by omega)
          unfold St.val at hto
          simp only at hto
          clear hz
          have hxx := (HI.out).bx
          have hyy := (HI.out).by_
          have e0 := hxx.cell 0
          have e1 := hxx.cell 1
          have e2 := hxx.cell 2
          have e3 := hxx.cell 3
          have e4 := hxx.cell 4
          have e5 := hxx.cell 5
          have el := hxx.lt
          have f0 := hyy.cell 0
          have f1 := hyy.cell 1
          have f2 := hyy.cell 2
          have f3 := hyy.cell 3
          have f4 := hyy.cell 4
          have f5 := hyy.cell 5
          have fl := hyy.lt
          simp only [List.getElem?_toArray, List.getElem?_cons_zero, List.getElem?_cons_succ] at e0 e1 e2 e3 e4 e5 f0 f1 f2 f3 f4 f5
          clear hxx hyy
          go_wp2_with fail
          clear e0 e1 e2 e3 e4 e5 el f0 f1 f2 f3 f4 f5 fl
          refine hto.mono ?_
          clear hto
          rintro e w7 ⟨A7, c7, rfl, own7, m7⟩
          have HS7 := Lib.hid own7.sl
          have HN7 := Lib.hid m7
          clear own7 m7
          have m8 : New w7 (w7.alloc (.cells #[.int .i64 3, .slice A7 (n + 1) c7, .int .i64 0, .bool false, .int .i64 0, .string ⟨#[]⟩, .slice none 0 0, .slice none 0 0] 65)) := (Mod.refl _ _).alloc _
          have b8 : Blk (w7.alloc (.cells #[.int .i64 3, .slice A7 (n + 1) c7, .int .i64 0, .bool false, .int .i64 0, .string ⟨#[]⟩, .slice none 0 0, .slice none 0 0] 65)) w7.heap.size 65 (encL 8 CA.enc (⟨3, A7, n + 1, c7, nilVA⟩ : CA)).toArray := Blk.new _ _ _
          obtain ⟨qs, hown, hal⟩ := HI.out.row
          have HOW := Lib.hid hown
          have HAL := Lib.hid hal
          have HM8 := Lib.hid m8
          have hrow := (hown.new HN7.out).new m8
          have hle8 := Nat.le_trans (Nat.le_trans HI.out.le HN7.out.size) m8.size
          clear m8 hown hal
          go_wp2_with (at_builtin; refine wpList_push rfl _ _ _ rfl 120 Tryz.underlying33 einfo_chg rfl hrow (⟨3, A7, n + 1, c7, nilVA⟩ : CA) w7.heap.size rfl b8 (fun j hj => CA.one _ j hj) (by omega) (by omega) hle8 ?_; intro g9 cap9 w9 own9 hm9 hat9 hlt9; have HO9 := Lib.hid own9; have HM9 := Lib.hid hm9; clear own9 hm9 hat9 hlt9 hrow b8)
          go_roundw
          case rel =>
            refine ⟨k + 1, (j : Int) - 1, some ⟨g9, 0, none⟩, n1 + 1, cap9, by omega, by have := HJ.out; omega, by go_num, rfl, Lib.hid ?_⟩
            rw [HNX.out]
            exact HI.out.after (HN7.out.trans HM8.out) HM9.out HOW.out HAL.out HO9.out (Al.one ⟨rfl, HS7.out.new HM8.out, Tree.upto (d := 1) (by omega) (nil_tree _ _ 0)⟩)
          case measure => first | (simp [intOf]; done) | (simp [intOf]; omega)
        · have HK : Hid (k = xln - yln) := Lib.hid (by omega)
          rw [HK.out] at HI
          clear HK hz hk
          have hxx := (HI.out).bx
          have hyy := (HI.out).by_
          have e0 := hxx.cell 0
          have e1 := hxx.cell 1
          have e2 := hxx.cell 2
          have e3 := hxx.cell 3
          have e4 := hxx.cell 4
          have e5 := hxx.cell 5
          have el := hxx.lt
          have f0 := hyy.cell 0
          have f1 := hyy.cell 1
          have f2 := hyy.cell 2
          have f3 := hyy.cell 3
          have f4 := hyy.cell 4
          have f5 := hyy.cell 5
          have fl := hyy.lt
          simp only [List.getElem?_toArray, List.getElem?_cons_zero, List.getElem?_cons_succ] at e0 e1 e2 e3 e4 e5 f0 f1 f2 f3 f4 f5
          clear hxx hyy
          go_wp2_with fail
          clear e0 e1 e2 e3 e4 e5 el f0 f1 f2 f3 f4 f5 fl
          go_loopw [21, 8] (fun i s wr => ∃ (k : Nat) (A1 : Option Addr) (n1 c1 : Nat), (xln < yln → xln + k ≤ yln) ∧ (yln ≤ xln → k = 0) ∧ i = .int .i64 ((xln + k : Nat) : Int) ∧ s = .slice A1 n1 c1 ∧ Hid
            (RfI w xb yb pb #[.int .i64 xk, .bool xf, .int .i64 xn, .string xw, .slice xla xln xlc, .slice xma xmn xmc] #[.int .i64 yk, .bool yf, .int .i64 yn, .string yw, .slice yla yln ylc, .slice yma ymn ymc] (.slice A n c) (pb + 1) D (bothD d a b ps m ++ takeD xln ps (xln - yln) ++ putD xln b.list ps k) A1 n1 c1 wr)
            ) (fun i _ _ => yln - (intOf i).toNat)
          case atStart => exact ⟨0, _, _, _, by omega, fun _ => rfl, rfl, rfl, Lib.hid (by rw [show putD xln b.list ps 0 = [] from rfl, List.append_nil]; exact HI.out)⟩
          clear HI
          case round =>
            rename World => wr
            obtain ⟨k, A1, n1, c1, hk, hk0, rfl, rfl, HI⟩ := hrel
            obtain ⟨j, hj⟩ : ∃ j, xln + k = j := ⟨_, rfl⟩
            rw [hj] at hk ⊢
            have HJ := Lib.hid hj
            clear hj
            by_cases hlt : j < yln
            · have hkx : j < ys.length := by have := HL3.out.1; omega
              have hka : j < b.list.length := by have := HG5.out; omega
              obtain ⟨g3, o3, hA3, htb3, hc3⟩ := (HL3.out.mod HI.out.new (fun _ _ _ e => e)).sl.2 (by omega)
              subst hA3
              obtain ⟨qs, hown, hal⟩ := HI.out.row
              have HOW := Lib.hid hown
              have HAL := Lib.hid hal
              have HC3 : Hid (∀ W, Mod (fun i => blkOf A1 = some i) wr W → ∀ q, q < 6 → W.cell? ⟨g3, o3 + j * 6 + q, none⟩ = some (VA.enc ys[j] q)) := Lib.hid (fun W h q hq => (h.cell (p := ⟨g3, o3 + j * 6 + q, none⟩) htb3.lt (HI.out.off htb3 (by decide))).trans (hc3 j hkx q hq))
              have HG2 : Hid (∀ W, Mod (fun i => blkOf A1 = some i) wr W → g3 < W.heap.size) := Lib.hid (fun W h => Nat.lt_of_lt_of_le htb3.lt h.size)
              have HTB1 := Lib.hid (HL4.out.get j hkx hka)
              have HNX : Hid (bothD d a b ps m ++ takeD xln ps (xln - yln) ++ putD xln b.list ps (k + 1) = (bothD d a b ps m ++ takeD xln ps (xln - yln) ++ putD xln b.list ps k) ++ [⟨1, ps ++ [⟨false, ⟨#[]⟩, (j : Int)⟩], b.list[j]⟩]) := Lib.hid (by
                have e : xln + k = j := HJ.out
                rw [putD_next xln ps (k := k) (by omega)]
                simp only [e, List.append_assoc])
              have hn1 : n1 ≤ 500000 := by
                have h := HI.out.len
                have := HJ.out
                simp only [List.length_append, takeD_len, putD_len] at h
                omega
              have HWI := Lib.hid (HFB.out.item hka).2
              clear hc3 htb3 hown hal
              generalize ys[j] = u at *
              generalize b.list[j] = ub at *
              obtain ⟨uk, uf, un, uw, ula, uln, ulc, uma, umn, umc⟩ := u
              have HSL : Hid (∀ W, Mod (fun i => blkOf A1 = some i) wr W → W.cell? ⟨yb, 4, none⟩ = some (.slice (some ⟨g3, o3, none⟩) yln ylc) ∧
                W.cell? ⟨g3, o3 + j * 6, none⟩ = some (.int .i64 uk) ∧ W.cell? ⟨g3, o3 + j * 6 + 1, none⟩ = some (.bool uf) ∧ W.cell? ⟨g3, o3 + j * 6 + 2, none⟩ = some (.int .i64 un) ∧ W.cell? ⟨g3, o3 + j * 6 + 3, none⟩ = some (.string uw) ∧ W.cell? ⟨g3, o3 + j * 6 + 4, none⟩ = some (.slice ula uln ulc) ∧ W.cell? ⟨g3, o3 + j * 6 + 5, none⟩ = some (.slice uma umn umc) ∧
                yb < W.heap.size ∧ g3 < W.heap.size) := Lib.hid (fun W hW => by
                have h2 := HI.out.by_.mod hW (HI.out.off HI.out.by_.tb (by decide))
                have h4 := HC3.out W hW
                exact ⟨(h2.cell 4).trans rfl, h4 0 (by omega), h4 1 (by omega), h4 2 (by omega), h4 3 (by omega), h4 4 (by omega), h4 5 (by omega), h2.lt, HG2.out W hW⟩)
              have hb1 : (j : Int) < yln := by omega
              have hb2 : (0 : Int) ≤ j := by omega
              have hb5 : j ≤ 1000 := by omega
              have f4 := (HSL.out wr (Mod.refl _ _)).1
              have fl := (HSL.out wr (Mod.refl _ _)).2.2.2.2.2.2.2.1
              clear HC3 HG2 hk0
              go_upto_region 39 with (fail)
              clear f4 fl
              refine wp_region_held_tree (Mod (fun i => blkOf A1 = some i) wr) 13 (by kernel_rfl) (by kernel_rfl) ?_
              have hn0 : New wr wr.drew := (Mod.refl _ _).drew
              have hs1 : Mod (fun i => blkOf A1 = some i) wr wr.drew := (Mod.refl _ _).drew
              refine headW_take 0 _ ?_ (fun _ _ d _ _ h => by cases d <;> exact h) (by kernel_rfl) rfl (by kernel_rfl) hs1 (by rfl) (fun W hSw => ?_) ?_
              rotate_left
              · (have hq := HSL.out W hSw); (try simp only [List.getElem_toArray, List.getElem_cons_zero, List.getElem_cons_succ]); go_simp; any_goals (with_reducible rfl)
              simp only [Act.put, List.getElem_toArray, List.getElem_cons_zero, List.getElem_cons_succ, List.setIfInBounds_toArray, List.set_cons_zero, List.set_cons_succ]
              refine headW_take 1 _ ?_ (fun _ _ d _ _ h => by cases d <;> exact h) (by kernel_rfl) rfl (by kernel_rfl) hs1 (by rfl) (fun W hSw => ?_) ?_
              rotate_left
              · (have hq := HSL.out W hSw); (try simp only [List.getElem_toArray, List.getElem_cons_zero, List.getElem_cons_succ]); go_simp; any_goals (with_reducible rfl)
              simp only [Act.put, List.getElem_toArray, List.getElem_cons_zero, List.getElem_cons_succ, List.setIfInBounds_toArray, List.set_cons_zero, List.set_cons_succ]
              refine headW_take 2 _ ?_ (fun _ _ d _ _ h => by cases d <;> exact h) (by kernel_rfl) rfl (by kernel_rfl) hs1 (by rfl) (fun W hSw => ?_) ?_
              rotate_left
              · (have hq := HSL.out W hSw); (try simp only [List.getElem_toArray, List.getElem_cons_zero, List.getElem_cons_succ]); go_simp; any_goals (with_reducible rfl)
              simp only [Act.put, List.getElem_toArray, List.getElem_cons_zero, List.getElem_cons_succ, List.setIfInBounds_toArray, List.set_cons_zero, List.set_cons_succ]
              refine headW_take 3 _ ?_ (fun _ _ d _ _ h => by cases d <;> exact h) (by kernel_rfl) rfl (by kernel_rfl) hs1 (by rfl) (fun W hSw => ?_) ?_
              rotate_left
              · (have hq := HSL.out W hSw); (try simp only [List.getElem_toArray, List.getElem_cons_zero, List.getElem_cons_succ]); go_simp; any_goals (with_reducible rfl)
              simp only [Act.put, List.getElem_toArray, List.getElem_cons_zero, List.getElem_cons_succ, List.setIfInBounds_toArray, List.set_cons_zero, List.set_cons_succ]
              refine headW_take 5 _ ?_ (fun _ _ d _ _ h => by cases d <;> exact h) (by kernel_rfl) rfl (by kernel_rfl) hs1 (by rfl) (fun W hSw => ?_) ?_
              rotate_left
              · (have hq := HSL.out W hSw); (try simp only [List.getElem_toArray, List.getElem_cons_zero, List.getElem_cons_succ]); go_simp; any_goals (with_reducible rfl)
              simp only [Act.put, List.getElem_toArray, List.getElem_cons_zero, List.getElem_cons_succ, List.setIfInBounds_toArray, List.set_cons_zero, List.set_cons_succ]
              refine headW_take 6 _ ?_ (fun _ _ d _ _ h => by cases d <;> exact h) (by kernel_rfl) rfl (by kernel_rfl) hs1 (by rfl) (fun W hSw => ?_) ?_
              rotate_left
              · (have hq := HSL.out W hSw); (try simp only [List.getElem_toArray, List.getElem_cons_zero, List.getElem_cons_succ]); go_simp; any_goals (with_reducible rfl)
              simp only [Act.put, List.getElem_toArray, List.getElem_cons_zero, List.getElem_cons_succ, List.setIfInBounds_toArray, List.set_cons_zero, List.set_cons_succ]
              refine headW_take 7 _ ?_ (fun _ _ d _ _ h => by cases d <;> exact h) (by kernel_rfl) rfl (by kernel_rfl) hs1 (by rfl) (fun W hSw => ?_) ?_
              rotate_left
              · (have hq := HSL.out W hSw); (try simp only [List.getElem_toArray, List.getElem_cons_zero, List.getElem_cons_succ]); go_simp; any_goals (with_reducible rfl)
              simp only [Act.put, List.getElem_toArray, List.getElem_cons_zero, List.getElem_cons_succ, List.setIfInBounds_toArray, List.set_cons_zero, List.set_cons_succ]
              refine headW_take 8 _ ?_ (fun _ _ d _ _ h => by cases d <;> exact h) (by kernel_rfl) rfl (by kernel_rfl) hs1 (by rfl) (fun W hSw => ?_) ?_
              rotate_left
              · (have hq := HSL.out W hSw); (try simp only [List.getElem_toArray, List.getElem_cons_zero, List.getElem_cons_succ]); go_simp; any_goals (with_reducible rfl)
              simp only [Act.put, List.getElem_toArray, List.getElem_cons_zero, List.getElem_cons_succ, List.setIfInBounds_toArray, List.set_cons_zero, List.set_cons_succ]
              refine headW_take 9 _ ?_ (fun _ _ d _ _ h => by cases d <;> exact h) (by kernel_rfl) rfl (by kernel_rfl) hs1 (by rfl) (fun W hSw => ?_) ?_
              rotate_left
              · (have hq := HSL.out W hSw); (try simp only [List.getElem_toArray, List.getElem_cons_zero, List.getElem_cons_succ]); go_simp; any_goals (with_reducible rfl)
              simp only [Act.put, List.getElem_toArray, List.getElem_cons_zero, List.getElem_cons_succ, List.setIfInBounds_toArray, List.set_cons_zero, List.set_cons_succ]
              refine headW_ready [4] (by kernel_rfl) (by rfl) ?_
              refine eachW_step rfl rfl (fun K hK => ?_) eachW_nil
              have hto := ref_to pb A n c ps ⟨false, ⟨#[]⟩, (j : Int)⟩ wr.drew (HI.out.bp.mod hn0 (fun e => e)) (HPS.out.new (HI.out.new.trans hn0)) (by omega)
              unfold St.val at hto
              simp only at hto
              (try simp only [List.getElem_toArray, List.getElem_cons_zero, List.getElem_cons_succ])
              go_simp
              refine hto.mono ?_
              clear hto
              rintro e w7 ⟨A7, c7, rfl, own7, m7⟩
              have HN7 := Lib.hid (hn0.trans m7)
              have HS7 := Lib.hid own7.sl
              clear own7 m7
              go_wp2_with fail
              refine hK.out _ _ (HN7.out.mono (fun _ _ e => e.elim)) (fun _ => ?_)
              clear hK K
              (try simp only [Act.put, List.getElem_toArray, List.getElem_cons_zero, List.getElem_cons_succ, List.setIfInBounds_toArray, List.set_cons_zero, List.set_cons_succ])
              have hs7 : Mod (fun i => blkOf A1 = some i) wr w7 := HN7.out.mono (fun _ _ e => e.elim)
              refine headW_take 10 _ ?_ (fun _ _ d _ _ h => by cases d <;> exact h) (by kernel_rfl) rfl (by kernel_rfl) hs7 (by rfl) (fun W hSw => ?_) ?_
              rotate_left
              · (have hq := HSL.out W hSw); (try simp only [List.getElem_toArray, List.getElem_cons_zero, List.getElem_cons_succ]); go_simp; any_goals (with_reducible rfl)
              simp only [Act.put, List.getElem_toArray, List.getElem_cons_zero, List.getElem_cons_succ, List.setIfInBounds_toArray, List.set_cons_zero, List.set_cons_succ]
              refine headW_ready [11] (by kernel_rfl) (by rfl) ?_
              refine eachW_step rfl rfl (fun K hK => ?_) eachW_nil
              have b8 : Blk (w7.alloc (.cells #[.int .i64 1, .slice A7 (n + 1) c7, .int .i64 uk, .bool uf, .int .i64 un, .string uw, .slice ula uln ulc, .slice uma umn umc] 65)) w7.heap.size 65 (encL 8 CA.enc (⟨1, A7, n + 1, c7, ⟨uk, uf, un, uw, ula, uln, ulc, uma, umn, umc⟩⟩ : CA)).toArray := Blk.new _ _ _
              have HMA : Hid (New w7 (w7.alloc (.cells #[.int .i64 1, .slice A7 (n + 1) c7, .int .i64 uk, .bool uf, .int .i64 un, .string uw, .slice ula uln ulc, .slice uma umn umc] 65))) := Lib.hid ((Mod.refl _ _).alloc _)
              have HB8 := Lib.hid b8
              clear b8
              (try simp only [List.getElem_toArray, List.getElem_cons_zero, List.getElem_cons_succ])
              go_simp
              refine hK.out _ _ ((HN7.out.trans HMA.out).mono (fun _ _ e => e.elim)) (fun _ => ?_)
              clear hK K
              (try simp only [Act.put, List.getElem_toArray, List.getElem_cons_zero, List.getElem_cons_succ, List.setIfInBounds_toArray, List.set_cons_zero, List.set_cons_succ])
              generalize w7.alloc (.cells #[.int .i64 1, .slice A7 (n + 1) c7, .int .i64 uk, .bool uf, .int .i64 un, .string uw, .slice ula uln ulc, .slice uma umn umc] 65) = w8 at *
              generalize w7.heap.size = cb at *
              refine headW_ready [12] (by kernel_rfl) (by rfl) ?_
              refine eachW_step rfl rfl (fun K hK => ?_) eachW_nil
              have hrow := (HOW.out.new HN7.out).new HMA.out
              have hle8 := Nat.le_trans (Nat.le_trans HI.out.le HN7.out.size) HMA.out.size
              have hb8 := HB8.out
              refine wp_push (.tmp 174) (.tmp 185) _ rfl 120 Tryz.underlying33 einfo_chg rfl (by exact hrow) (⟨1, A7, n + 1, c7, ⟨uk, uf, un, uw, ula, uln, ulc, uma, umn, umc⟩⟩ : CA) cb rfl (by exact hb8) (fun j hj => CA.one _ j hj) (by omega) (by omega) hle8 ?_
              intro g9 cap9 w9 own9 hm9 hat9 hlt9
              have HO9 := Lib.hid own9
              have HM9 := Lib.hid hm9
              refine hK.out _ _ (((HN7.out.trans HMA.out).mono (fun _ _ e => e.elim)).trans hm9) (fun _ => ?_)
              clear hK K own9 hm9 hat9 hlt9 hrow hb8
              (try simp only [Act.put, List.getElem_toArray, List.getElem_cons_zero, List.getElem_cons_succ, List.setIfInBounds_toArray, List.set_cons_zero, List.set_cons_succ])
              refine headW_done (by kernel_rfl) ?_
              go_wp2_with fail
              go_roundw
              case rel =>
                refine ⟨k + 1, some ⟨g9, 0, none⟩, n1 + 1, cap9, by have := HJ.out; omega, by have := HJ.out; omega, by rw [show xln + (k + 1) = j + 1 by have := HJ.out; omega]; go_num, rfl, Lib.hid ?_⟩
                rw [HNX.out]
                exact HI.out.after (HN7.out.trans HMA.out) HM9.out HOW.out HAL.out HO9.out (Al.one ⟨rfl, HS7.out.new HMA.out, Tree.upto (by omega) (HTB1.out.new ((HI.out.new.trans HN7.out).trans HMA.out))⟩)
              case measure => simp [intOf]; omega
            · have HK : Hid (k = yln - xln) := Lib.hid (by have := HJ.out; omega)
              rw [HK.out] at HI
              have hjj : ¬ (j : Int) < yln := by omega
              clear HK hlt hk hk0
              have hxx := (HI.out).bx
              have hyy := (HI.out).by_
              have e0 := hxx.cell 0
              have e1 := hxx.cell 1
              have e2 := hxx.cell 2
              have e3 := hxx.cell 3
              have e4 := hxx.cell 4
              have e5 := hxx.cell 5
              have el := hxx.lt
              have f0 := hyy.cell 0
              have f1 := hyy.cell 1
              have f2 := hyy.cell 2
              have f3 := hyy.cell 3
              have f4 := hyy.cell 4
              have f5 := hyy.cell 5
              have fl := hyy.lt
              simp only [List.getElem?_toArray, List.getElem?_cons_zero, List.getElem?_cons_succ] at e0 e1 e2 e3 e4 e5 f0 f1 f2 f3 f4 f5
              clear hxx hyy
              go_wp2_with fail
              clear e0 e1 e2 e3 e4 e5 el f0 f1 f2 f3 f4 f5 fl
              go_ret
              obtain ⟨qs, hown, hal⟩ := HI.out.row
              exact ⟨A1, n1, c1, qs, rfl, hown.sl, (by simp only [List.append_assoc] at hal ⊢; exact hal), HI.out.new⟩
end Go.Proofs.YtjfgfkbgbhbhjaaGreatDoor
