/- Several texts in one. (1) Changes of values, the plain law: what is known of a value while changes are made, one after another. No conditions. (2) What stands at a path: the plain law. No conditions. (3) The reference: GetAt of a path of any length (printed by mkgetany.py from XGet). Conditions: rows of at most 100000; steps at 0 to 5000. -/
import Derived.Test.YtjfgfkbgbhbhjaaGreatDoorChgMemGrp
import Derived.Test.YtjfgfkbgbhbhjaaGreatDoorChgLawGrp
import Derived.Test.YtjfgfkbgbhbhjaaGreatDoorGet

namespace Go.Proofs.YtjfgfkbgbhbhjaaGreatDoor
open Go.RowKit
set_option linter.unusedVariables false
set_option linter.unusedSimpArgs false

/-- a change that both can make -/
structure COk (D m : Nat) (c : ChD) : Prop where
  ok : OkC D c
  at_ : ∀ s ∈ c.path, 0 ≤ s.at_ ∧ s.at_ ≤ 5000
  wide : Wide m D c.val
  low : vW D c.val ≤ 90000000
theorem COk.more {D m : Nat} {c : ChD} (h : COk D m c) : COk D (m + 1) c := ⟨h.ok, h.at_, Wide.mono (Nat.le_succ m) _ _ h.wide, h.low⟩
/-- what is known of the value behind k changes -/
structure RS (m k d : Nat) (v : VT) : Prop where
  deep : Deep d v
  wide : Wide m d v
  right : vFault d v = 0
  low : vW d v ≤ 100000000 * (k + 1)
/-- what is known of what a change makes of it -/
structure RN (m k d : Nat) (v : VT) : Prop where
  deep : Deep d v
  wide : Wide m d v
  low : vW d v ≤ 100000000 * (k + 1)
theorem RN.fit {m k d : Nat} {v : VT} (h : RN m k d v) (hm : m ≤ 1000) (hk : k ≤ 8) : Fit d v := ⟨Nat.le_trans h.low (by omega), Wide.mono hm _ _ h.wide⟩
theorem RN.rs {m k d : Nat} {v : VT} (h : RN m k d v) (hv : vCheck d v = 0) : RS m k d v := ⟨h.deep, h.wide, vCheck_fault hv, h.low⟩
theorem RS.rn {m k d : Nat} {v : VT} (h : RS m k d v) : RN m k d v := ⟨h.deep, h.wide, h.low⟩
theorem RN.of {D m k d : Nat} {v r : VT} {c : ChD} (h : RS m k d v) (hc : COk D m c) (ha : Adds d D m (vW D c.val + 604 * c.path.length) v r) : RN (m + 1) (k + 1) (d + D) r := by
  have h1 := h.low
  have h2 := hc.low
  have h3 := hc.ok.2.2.2.2.1
  have h4 := ha.2.1
  exact ⟨ha.1, ha.2.2, by omega⟩
theorem RS.prog {D m k d : Nat} {v : VT} {c : ChD} (h : RS m k d v) (hc : COk D m c) : RN (m + 1) (k + 1) (d + D) (progC c v).1 :=
  RN.of h hc (chg_adds hc.ok.2.2.2.2.2 (Wide.mono (Nat.le_succ m) _ _ hc.wide) c.kind c.path d v hc.ok.2.2.2.1 h.deep h.wide)
end Go.Proofs.YtjfgfkbgbhbhjaaGreatDoor

namespace Go.Proofs.YtjfgfkbgbhbhjaaGreatDoor
open Go.RowKit
set_option linter.unusedVariables false
set_option linter.unusedSimpArgs false

/-- what stands at a path, if anything does -/
def getP : VT → List St → Option VT
  | v, [] => some v
  | v, s :: t => match getR v s with
    | none => none
    | some u => getP u t
theorem getP_none {v : VT} {l : List St} {k : Nat} (hk : k < l.length) (h : getR v l[k] = none) : getP v (l.drop k) = none := by
  rw [List.drop_eq_getElem_cons hk, getP, h]
theorem getP_some {v u : VT} {l : List St} {k : Nat} (hk : k < l.length) (h : getR v l[k] = some u) : getP v (l.drop k) = getP u (l.drop (k + 1)) := by
  rw [List.drop_eq_getElem_cons hk, getP, h]
theorem getP_end {v : VT} {l : List St} {k : Nat} (hk : l.length ≤ k) : getP v (l.drop k) = some v := by
  rw [List.drop_of_length_le hk, getP]
theorem Fit.deep {d : Nat} {v x : VT} {s : St} (hd : Deep (d + 1) v) (hf : Fit (d + 1) v) (h : getR v s = some x) : Fit d x := by
  obtain ⟨-, h2, h3⟩ := getR_deep h hd hf.2
  exact ⟨Nat.le_trans h3 hf.1, h2⟩
theorem Good.get {d : Nat} {v x : VT} {s : St} (h : Good (d + 1) v) (hx : getR v s = some x) : Good d x := Good.at h (by rw [at_eq h.1]; exact hx)
end Go.Proofs.YtjfgfkbgbhbhjaaGreatDoor

namespace Go.Proofs.YtjfgfkbgbhbhjaaGreatDoor
open Go.RowKit
set_option linter.unusedVariables false
set_option linter.unusedSimpArgs false

/-- what stands at a path in the reference's eyes, if anything does -/
def RGetA (G : Nat → Prop) (d n : Nat) (v : VT) (ps : List St) (w : World) (e : Ending) (w' : World) : Prop :=
  (getP v ps = none ∧ e = .returned (.tuple #[nilVA.val, .bool false]) ∧ New w w') ∨ ∃ u y, getP v ps = some u ∧ e = .returned (.tuple #[y.val, .bool true]) ∧ Tree w' G (d - n) y u ∧ New w w'
set_option maxRecDepth 100000 in
set_option maxHeartbeats 2000000 in
theorem getAny_v (G0 : Nat → Prop) (d0 : Nat) (x : VA) (v0 : VT) (A : Option Addr) (n c : Nat) (ps : List St) (w : World) (ht : Tree w G0 d0 x v0) (hs : Sl w 76 3 St.enc A n ps) (hw : Wide 100000 d0 v0) (hk : ∀ s ∈ ps, 0 ≤ s.at_ ∧ s.at_ ≤ 5000) (hn : n ≤ 200000) :
    Calls Tryz.prog 43 #[x.val, .slice A n c] w (RGetA G0 d0 n v0 ps w) := by
  have HT0 : Hid (Tree w (fun g => G0 g ∧ g < w.heap.size) d0 x v0) := Lib.hid ht.oldG
  have HW0 := Lib.hid hw
  have HS := Lib.hid hs
  have hpl := hs.1
  have HPO := Lib.hid hk
  clear ht hs hw hk
  obtain ⟨y, hy⟩ : ∃ y, y = x := ⟨_, rfl⟩
  rw [← hy] at HT0
  have HY := Lib.hid hy
  clear hy
  obtain ⟨xk, xf, xn, xw, xla, xln, xlc, xma, xmn, xmc⟩ := x
  have hx := Blk.new w 29 #[.int .i64 xk, .bool xf, .int .i64 xn, .string xw, .slice xla xln xlc, .slice xma xmn xmc]
  have m1 : New w (w.alloc (.cells #[.int .i64 xk, .bool xf, .int .i64 xn, .string xw, .slice xla xln xlc, .slice xma xmn xmc] 29)) := (Mod.refl _ _).alloc _
  have z1 : (w.alloc (.cells #[.int .i64 xk, .bool xf, .int .i64 xn, .string xw, .slice xla xln xlc, .slice xma xmn xmc] 29)).heap.size = w.heap.size + 1 := by simp
  go_enter Tryz.func43, Tryz.ntmps43
  go_upto_region 1 with (fail)
  generalize w.alloc (.cells #[.int .i64 xk, .bool xf, .int .i64 xn, .string xw, .slice xla xln xlc, .slice xma xmn xmc] 29) = w1 at *
  have hz := Blk.new w1 29 #[.int .i64 0, .bool false, .int .i64 0, .string ⟨#[]⟩, .slice none 0 0, .slice none 0 0]
  have m2 : New w1 (w1.alloc (.cells #[.int .i64 0, .bool false, .int .i64 0, .string ⟨#[]⟩, .slice none 0 0, .slice none 0 0] 29)) := (Mod.refl _ _).alloc _
  generalize w1.alloc (.cells #[.int .i64 0, .bool false, .int .i64 0, .string ⟨#[]⟩, .slice none 0 0, .slice none 0 0] 29) = w2 at *
  rw [z1] at hz
  have HX := Lib.hid (hx.mod m2 (fun e => e))
  have HR := Lib.hid hz
  have HM := Lib.hid (m1.trans m2)
  have z2 : w.heap.size + 1 < w2.heap.size := hz.lt
  clear hx hz m1 m2 z1
  generalize hxb : w.heap.size = xb at *
  have hwb : w.heap.size ≤ xb := by omega
  have HIN : Hid (∃ (y : VA) (u : VT) (e' : Nat), e' + 0 = d0 ∧ Hid (getP v0 ps = getP u (ps.drop 0)) ∧ Hid (Tree w2 (fun g => G0 g ∧ g < xb) e' y u) ∧ Hid (Wide 100000 e' u) ∧ Hid (Blk w2 xb 29 y.cells)) := Lib.hid ⟨y, v0, d0, rfl, Lib.hid rfl, Lib.hid (HT0.out.new HM.out), HW0, Lib.hid (by rw [HY.out]; exact HX.out)⟩
  clear HX HY HT0 HW0
  go_wp2_with fail
  go_loopw [15] (fun i wr => ∃ k : Nat, k ≤ n ∧ i = .int .i64 k ∧ Hid (∃ (y : VA) (u : VT) (e' : Nat), e' + k = d0 ∧ Hid (getP v0 ps = getP u (ps.drop k)) ∧ Hid (Tree wr (fun g => G0 g ∧ g < xb) e' y u) ∧ Hid (Wide 100000 e' u) ∧ Hid (Blk wr xb 29 y.cells)) ∧ Hid (Blk wr (xb + 1) 29 #[.int .i64 0, .bool false, .int .i64 0, .string ⟨#[]⟩, .slice none 0 0, .slice none 0 0]) ∧ Hid (New w wr)) (fun i _ => n - (intOf i).toNat)
  case atStart => exact ⟨0, Nat.zero_le _, rfl, HIN, HR, HM⟩
  clear HIN HR HM
  case round =>
    rename World => wr
    obtain ⟨pk, hpk, rfl, HIN, HR, HM⟩ := hrel
    obtain ⟨y, v, e', hed, HGP, HTY, HWD, HXY⟩ := HIN.out
    clear HIN
    by_cases hlt0 : pk < n
    · have hkl : pk < ps.length := by omega
      obtain ⟨g, o, hA, htb, hc0⟩ := (HS.out.new HM.out).2 (by omega)
      subst hA
      have hc := fun j (hj : j < 3) => hc0 pk hkl j hj
      have hgl := htb.lt
      have hsa := HPO.out ps[pk] (List.getElem_mem hkl)
      have HGNP := Lib.hid (fun h => getP_none (v := v) hkl h)
      have HGSP := Lib.hid (fun z h => getP_some (v := v) (u := z) hkl h)
      clear hc0 htb
      generalize ps[pk] = s at *
      obtain ⟨nm, sn, sa⟩ := s
      obtain ⟨k, hk2⟩ := Int.eq_ofNat_of_zero_le hsa.1
      simp only at hk2 hsa
      subst hk2
      have hk5 : k ≤ 5000 := by omega
      clear hsa
      have s0 := hc 0 (by omega)
      have s1 := hc 1 (by omega)
      have s2 := hc 2 (by omega)
      simp only [St.enc, Nat.add_zero] at s0 s1 s2
      have hb1 : (0 : Int) ≤ pk := by omega
      have hbn : (pk : Int) < n := by omega
      clear hc
      cases e' with
      | zero => exact HTY.out.elim
      | succ d =>
        obtain ⟨xs, ms, h1, h2, h3, h4⟩ := HTY.out.als
        obtain ⟨-, -, -, -, f5, f6⟩ := HTY.out.fields
        have HL1 : Hid (∀ W, Only xb wr W → Sl W 29 6 VA.enc y.la y.ln xs) := Lib.hid (fun W h => (h1.mod h (fun g hg _ e => by have := hg.2; omega)).sl)
        have HL3 : Hid (∀ W, Only xb wr W → Sl W 54 7 MA.enc y.ma y.mn ms) := Lib.hid (fun W h => (h3.mod h (fun g hg _ e => by have := hg.2; omega)).sl)
        have HTM : Hid (∀ W z t, Only xb wr W → Tree wr (fun g => G0 g ∧ g < xb) d z t → Tree W (fun g => G0 g ∧ g < xb) d z t) := Lib.hid (fun W z t h ht => Tree.mod h (fun g hg _ e => by have := hg.2; omega) _ _ _ ht)
        have hxs1 := h1.1
        have hms1 := h3.1
        have HL2 := Lib.hid h2
        have HL4 := Lib.hid h4
        obtain ⟨xk, xf, xn, xw, xla, xln, xlc, xma, xmn, xmc⟩ := y
        have HX : Hid (Blk wr xb 29 #[.int .i64 xk, .bool xf, .int .i64 xn, .string xw, .slice xla xln xlc, .slice xma xmn xmc]) := Lib.hid (by have h := HXY.out; simp only [VA.cells] at h; exact h)
        simp only at f5 f6 HL1 HL3 hxs1 hms1
        have hln : xln ≤ 100000 := by have := HWD.out.1; omega
        have hmn : xmn ≤ 100000 := by have := HWD.out.2.1; omega
        have HF5 := Lib.hid f5
        have HF6 := Lib.hid f6
        clear h1 h2 h3 h4 HXY HTY f5 f6
        cases nm with
        | true =>
          have m3 : New wr (wr.alloc (.cells #[.bool true, .string sn, .int .i64 k] 76)) := (Mod.refl _ _).alloc _
          have hsb := Blk.new wr 76 #[.bool true, .string sn, .int .i64 k]
          go_upto_region 4 with (fail)
          have HX3 := Lib.hid (HX.out.mod m3 (fun e => e))
          have HR3 := Lib.hid (HR.out.mod m3 (fun e => e))
          have HM3 := Lib.hid (HM.out.trans m3)
          have HSB := Lib.hid hsb
          generalize wr.alloc (.cells #[.bool true, .string sn, .int .i64 k] 76) = w3 at *
          have hsz : xb + 1 < wr.heap.size := HR.out.lt
          generalize wr.heap.size = sb at *
          have HO3 : Hid (Only xb wr w3) := Lib.hid (m3.mono (fun _ _ e => e.elim))
          clear s0 s1 s2 hgl m3 hsb HX HR HM
          have e0 := HX3.out.cell 0
          have e1 := HX3.out.cell 1
          have e2 := HX3.out.cell 2
          have e3 := HX3.out.cell 3
          have e4 := HX3.out.cell 4
          have e5 := HX3.out.cell 5
          have el := HX3.out.lt
          have ef := HX3.out.frozen
          simp only [List.getElem?_toArray, List.getElem?_cons_zero, List.getElem?_cons_succ] at e0 e1 e2 e3 e4 e5
          go_wp2_with fail
          clear e0 e1 e2 e3 e4 e5 el ef
          go_loopw [22, 8] (fun i f wq => ∃ q : Nat, q ≤ xln ∧ i = .int .i64 q ∧ f = .bool false ∧ Hid (New w3 wq)) (fun i _ _ => xln - (intOf i).toNat)
          case atStart => exact ⟨0, Nat.zero_le _, rfl, rfl, Lib.hid (Mod.refl _ _)⟩
          case round =>
            rename World => wq
            obtain ⟨q, hq, rfl, rfl, HQ⟩ := hrel
            by_cases hlt : q < xln
            · have hqx : q < xs.length := by have := hxs1; omega
              obtain ⟨g2, o2, hA, htb, hc0⟩ := (HL1.out _ (HO3.out.trans (HQ.out.mono (fun _ _ e => e.elim)))).2 (by omega)
              subst hA
              have hgl2 := htb.lt
              have hb2 : (0 : Int) ≤ q := by omega
              have hb3 : (q : Int) < xln := by omega
              have hc := fun j (hj : j < 6) => hc0 q hqx j hj
              clear hc0 htb
              obtain ⟨z, hz⟩ : ∃ z, xs[q] = z := ⟨_, rfl⟩
              rw [hz] at hc
              have HZ := Lib.hid hz
              clear hz
              obtain ⟨zk, zf, zn, zw, zla, zln, zlc, zma, zmn, zmc⟩ := z
              have b0 := hc 0 (by omega)
              have b1 := hc 1 (by omega)
              have b2 := hc 2 (by omega)
              have b3 := hc 3 (by omega)
              have b4 := hc 4 (by omega)
              have b5 := hc 5 (by omega)
              simp only [VA.enc, Nat.add_zero, Nat.zero_add] at b0 b1 b2 b3 b4 b5
              clear hc
              have hts := HSB.out.mod HQ.out (fun e => e)
              have htm := hts.mod ((Mod.refl (fun _ => False) wq).alloc (.cells #[.int .i64 zk, .bool zf, .int .i64 zn, .string zw, .slice zla zln zlc, .slice zma zmn zmc] 29)) (fun e => e)
              have t0 := htm.cell 0
              have t1 := htm.cell 1
              have t2 := htm.cell 2
              have tl := htm.lt
              simp only [List.getElem?_toArray, List.getElem?_cons_zero, List.getElem?_cons_succ] at t0 t1 t2
              clear hts htm
              go_wp2_with fail
              go_roundw
              case rel => exact ⟨q + 1, by omega, by go_num, rfl, Lib.hid (HQ.out.trans ((Mod.refl _ _).alloc _))⟩
              case measure => simp [intOf]; omega
            · obtain rfl : xln = q := by omega
              have HX4 := Lib.hid (HX3.out.mod HQ.out (fun e => e))
              have HR4 := Lib.hid (HR3.out.mod HQ.out (fun e => e))
              have HS4 := Lib.hid (HSB.out.mod HQ.out (fun e => e))
              have HM4 := Lib.hid (HM3.out.trans HQ.out)
              have HO4 : Hid (Only xb wr wq) := Lib.hid (HO3.out.trans (HQ.out.mono (fun _ _ e => e.elim)))
              clear HX3 HR3 HSB HM3 HQ
              have e0 := HX4.out.cell 0
              have e1 := HX4.out.cell 1
              have e2 := HX4.out.cell 2
              have e3 := HX4.out.cell 3
              have e4 := HX4.out.cell 4
              have e5 := HX4.out.cell 5
              have el := HX4.out.lt
              have ef := HX4.out.frozen
              simp only [List.getElem?_toArray, List.getElem?_cons_zero, List.getElem?_cons_succ] at e0 e1 e2 e3 e4 e5
              go_wp2_with fail
              clear e0 e1 e2 e3 e4 e5 el ef
              go_loopw [45, 8] (fun i f wp => ∃ q : Nat, q ≤ xmn ∧ i = .int .i64 q ∧ Hid (Only xb wq wp) ∧ ((f = .bool false ∧ Hid (Blk wp xb 29 #[.int .i64 xk, .bool xf, .int .i64 xn, .string xw, .slice xla xln xlc, .slice xma xmn xmc]) ∧ Hid (∀ j (h : j < ms.length), j < q → ¬ ms[j].name = sn)) ∨
                (f = .bool true ∧ ∃ (j : Nat) (h : j < ms.length), Hid (ms[j].name = sn) ∧ Hid (∀ i (hi : i < ms.length), i < j → ¬ ms[i].name = sn) ∧ Hid (Blk wp xb 29 ms[j].v.cells)))) (fun i _ _ => xmn - (intOf i).toNat)
              case atStart => exact ⟨0, Nat.zero_le _, rfl, Lib.hid (Mod.refl _ _), .inl ⟨rfl, HX4, Lib.hid (fun j _ hj => absurd hj (by omega))⟩⟩
              case round =>
                rename World => wp
                obtain ⟨q, hq, rfl, HQ, hrel⟩ := hrel
                have HMP : Hid (New w wp) := Lib.hid (HM4.out.step HQ.out (fun i hi e => by omega))
                have HOP : Hid (Only xb wr wp) := Lib.hid (HO4.out.trans HQ.out)
                by_cases hlt : q < xmn
                · have hqx : q < ms.length := by have := hms1; omega
                  obtain ⟨g2, o2, hA, htb, hc0⟩ := (HL3.out _ HOP.out).2 (by omega)
                  subst hA
                  have hgl2 := htb.lt
                  have hb2 : (0 : Int) ≤ q := by omega
                  have hb3 : (q : Int) < xmn := by omega
                  have hc := fun j (hj : j < 7) => hc0 q hqx j hj
                  clear hc0 htb
                  obtain ⟨z, hz⟩ : ∃ z, ms[q] = z := ⟨_, rfl⟩
                  rw [hz] at hc
                  have HZ := Lib.hid hz
                  clear hz
                  obtain ⟨zn0, zk, zf, zn, zw, zla, zln, zlc, zma, zmn, zmc⟩ := z
                  have b0 := hc 0 (by omega)
                  have b1 := hc 1 (by omega)
                  have b2 := hc 2 (by omega)
                  have b3 := hc 3 (by omega)
                  have b4 := hc 4 (by omega)
                  have b5 := hc 5 (by omega)
                  have b6 := hc 6 (by omega)
                  simp only [MA.enc, VA.enc, Nat.add_zero, Nat.zero_add] at b0 b1 b2 b3 b4 b5 b6
                  clear hc
                  have hts := HS4.out.mod HQ.out (by omega)
                  have ma : New wp (wp.alloc (.cells #[.string zn0, .int .i64 zk, .bool zf, .int .i64 zn, .string zw, .slice zla zln zlc, .slice zma zmn zmc] 54)) := (Mod.refl _ _).alloc _
                  have htm := hts.mod ma (fun e => e)
                  have t0 := htm.cell 0
                  have t1 := htm.cell 1
                  have t2 := htm.cell 2
                  have tl := htm.lt
                  simp only [List.getElem?_toArray, List.getElem?_cons_zero, List.getElem?_cons_succ] at t0 t1 t2
                  have hmb := Blk.new wp 54 #[.string zn0, .int .i64 zk, .bool zf, .int .i64 zn, .string zw, .slice zla zln zlc, .slice zma zmn zmc]
                  have hszp : xb < wp.heap.size := Nat.lt_of_lt_of_le HX4.out.lt HQ.out.size
                  have HMA := Lib.hid ma
                  have HMB := Lib.hid hmb
                  clear hts htm
                  go_upto_region 14 with (fail)
                  generalize wp.alloc (.cells #[.string zn0, .int .i64 zk, .bool zf, .int .i64 zn, .string zw, .slice zla zln zlc, .slice zma zmn zmc] 54) = wa at *
                  generalize wp.heap.size = mb at *
                  clear b0 b1 b2 b3 b4 b5 b6 hgl2 ma hmb
                  have d0 := HMB.out.cell 0
                  have d1 := HMB.out.cell 1
                  have d2 := HMB.out.cell 2
                  have d3 := HMB.out.cell 3
                  have d4 := HMB.out.cell 4
                  have d5 := HMB.out.cell 5
                  have d6 := HMB.out.cell 6
                  have dl := HMB.out.lt
                  simp only [List.getElem?_toArray, List.getElem?_cons_zero, List.getElem?_cons_succ] at d0 d1 d2 d3 d4 d5 d6
                  have hcmp : (zn0.toList == sn.toList) = decide (zn0 = sn) := toList_beq _ _
                  rcases hrel with ⟨rfl, HX5, HNO⟩ | ⟨rfl, j, hj, HJ, HJN, HXJ⟩
                  · by_cases hn : zn0 = sn
                    · have hcm : (zn0.toList == sn.toList) = true := by rw [hcmp]; simpa using hn
                      have HN := Lib.hid hn
                      clear hcmp hn
                      have HX6 := Lib.hid (HX5.out.mod HMA.out (fun e => e))
                      have e0 := HX6.out.cell 0
                      have e1 := HX6.out.cell 1
                      have e2 := HX6.out.cell 2
                      have e3 := HX6.out.cell 3
                      have e4 := HX6.out.cell 4
                      have e5 := HX6.out.cell 5
                      have el := HX6.out.lt
                      have ef := HX6.out.frozen
                      simp only [List.getElem?_toArray, List.getElem?_cons_zero, List.getElem?_cons_succ] at e0 e1 e2 e3 e4 e5
                      go_wp2_with fail
                      go_roundw
                      case rel => exact ⟨q + 1, by omega, by go_num, Lib.hid ((HQ.out.step HMA.out (fun _ _ e => e.elim)).trans (Only.cell6 wa xb _ _ _ _ _ _)), .inr ⟨rfl, q, hqx, Lib.hid (by rw [HZ.out]; exact HN.out), Lib.hid (fun i hi hiq => HNO.out i hi hiq), Lib.hid (by
                        rw [HZ.out]
                        exact Blk.copy6 HX6.out _ _ _ _ _ _)⟩⟩
                      case measure => simp [intOf]; omega
                    · have hcm : (zn0.toList == sn.toList) = false := by rw [hcmp]; simpa using hn
                      have HN := Lib.hid hn
                      clear hcmp hn
                      go_wp2_with fail
                      go_roundw
                      case rel => exact ⟨q + 1, by omega, by go_num, Lib.hid (HQ.out.step HMA.out (fun _ _ e => e.elim)), .inl ⟨rfl, Lib.hid (HX5.out.mod HMA.out (fun e => e)), Lib.hid (fun i hi hiq e => by
                        by_cases h : i = q
                        · subst h; rw [HZ.out] at e; exact HN.out e
                        · exact HNO.out i hi (by omega) e)⟩⟩
                      case measure => simp [intOf]; omega
                  · obtain ⟨cm, hcm⟩ : ∃ b, (zn0.toList == sn.toList) = b := ⟨_, rfl⟩
                    clear hcmp
                    cases cm with
                    | true =>
                      go_wp2_with fail
                      go_roundw
                      case rel => exact ⟨q + 1, by omega, by go_num, Lib.hid (HQ.out.step HMA.out (fun _ _ e => e.elim)), .inr ⟨rfl, j, hj, HJ, HJN, Lib.hid (HXJ.out.mod HMA.out (fun e => e))⟩⟩
                      case measure => simp [intOf]; omega
                    | false =>
                      go_wp2_with fail
                      go_roundw
                      case rel => exact ⟨q + 1, by omega, by go_num, Lib.hid (HQ.out.step HMA.out (fun _ _ e => e.elim)), .inr ⟨rfl, j, hj, HJ, HJN, Lib.hid (HXJ.out.mod HMA.out (fun e => e))⟩⟩
                      case measure => simp [intOf]; omega
                · obtain rfl : xmn = q := by omega
                  have HR5 := Lib.hid (HR4.out.mod HQ.out (by omega))
                  rcases hrel with ⟨rfl, HX5, HNO⟩ | ⟨rfl, j, hj, HJ, HJN, HXJ⟩
                  · have HGN : Hid (getR v ⟨true, sn, (k : Int)⟩ = none) := Lib.hid (by
                      unfold getR
                      rw [if_pos rfl, find_no (fun i hi e => by
                        have hi' : i < ms.length := by rw [HL4.out.len]; exact hi
                        exact HNO.out i hi' (by have := hms1; omega) ((HL4.out.get i hi' hi).1.trans e))]
                      rfl)
                    have r0 := HR5.out.cell 0
                    have r1 := HR5.out.cell 1
                    have r2 := HR5.out.cell 2
                    have r3 := HR5.out.cell 3
                    have r4 := HR5.out.cell 4
                    have r5 := HR5.out.cell 5
                    have rl := HR5.out.lt
                    have rf := HR5.out.frozen
                    simp only [List.getElem?_toArray, List.getElem?_cons_zero, List.getElem?_cons_succ] at r0 r1 r2 r3 r4 r5
                    go_wp2_with fail
                    refine bodyPost_ret (v := .tuple #[nilVA.val, .bool false]) (by simp [results, Tryz.results43, go_sem, r0, r1, r2, r3, r4, r5, rf]) rfl (.inl ⟨by rw [HGP.out]; exact HGNP.out HGN.out, rfl, ?_⟩)
                    repeat (with_reducible (first | exact HMP.out | (refine Mod.setCell ?_ (.inr (by first | omega | (dsimp only; omega) | skip)) _)))
                  · have hjm : j < v.mem.length := by rw [← HL4.out.len]; exact hj
                    obtain ⟨hn1, hty⟩ := HL4.out.get j hj hjm
                    have HGS : Hid (getR v ⟨true, sn, (k : Int)⟩ = some v.mem[j].2) := Lib.hid (by
                      unfold getR
                      rw [if_pos rfl, find_first hjm (hn1.symm.trans HJ.out) (fun i hi hij e => by
                        have hi' : i < ms.length := by omega
                        exact HJN.out i hi' hij ((HL4.out.get i hi' hi).1.trans e))]
                      rfl)
                    go_wp2_with fail
                    go_roundw
                    case rel => exact ⟨pk + 1, by omega, by go_num, Lib.hid ⟨ms[j].v, v.mem[j].2, d, by omega, Lib.hid (by rw [HGP.out]; exact HGSP.out _ HGS.out), Lib.hid (HTM.out _ _ _ HOP.out hty), Lib.hid (HWD.out.2.2.2.2 _ (List.getElem_mem hjm)).2, HXJ⟩, HR5, HMP⟩
                    case measure => simp [intOf]; omega
        | false =>
          have m3 : New wr (wr.alloc (.cells #[.bool false, .string sn, .int .i64 k] 76)) := (Mod.refl _ _).alloc _
          have hsb := Blk.new wr 76 #[.bool false, .string sn, .int .i64 k]
          go_upto_region 4 with (fail)
          have HX3 := Lib.hid (HX.out.mod m3 (fun e => e))
          have HR3 := Lib.hid (HR.out.mod m3 (fun e => e))
          have HM3 := Lib.hid (HM.out.trans m3)
          have HSB := Lib.hid hsb
          generalize wr.alloc (.cells #[.bool false, .string sn, .int .i64 k] 76) = w3 at *
          have hsz : xb + 1 < wr.heap.size := HR.out.lt
          generalize wr.heap.size = sb at *
          have HO3 : Hid (Only xb wr w3) := Lib.hid (m3.mono (fun _ _ e => e.elim))
          clear s0 s1 s2 hgl m3 hsb HX HR HM
          have e0 := HX3.out.cell 0
          have e1 := HX3.out.cell 1
          have e2 := HX3.out.cell 2
          have e3 := HX3.out.cell 3
          have e4 := HX3.out.cell 4
          have e5 := HX3.out.cell 5
          have el := HX3.out.lt
          have ef := HX3.out.frozen
          simp only [List.getElem?_toArray, List.getElem?_cons_zero, List.getElem?_cons_succ] at e0 e1 e2 e3 e4 e5
          go_wp2_with fail
          clear e0 e1 e2 e3 e4 e5 el ef
          go_loopw [22, 8] (fun i f wq => ∃ q : Nat, q ≤ xln ∧ i = .int .i64 q ∧ Hid (Only xb w3 wq) ∧ ((f = .bool false ∧ q ≤ k ∧ Hid (Blk wq xb 29 #[.int .i64 xk, .bool xf, .int .i64 xn, .string xw, .slice xla xln xlc, .slice xma xmn xmc])) ∨
            (f = .bool true ∧ k < q ∧ ∃ h : k < xs.length, Hid (Blk wq xb 29 xs[k].cells)))) (fun i _ _ => xln - (intOf i).toNat)
          case atStart => exact ⟨0, Nat.zero_le _, rfl, Lib.hid (Mod.refl _ _), .inl ⟨rfl, by omega, HX3⟩⟩
          case round =>
            rename World => wq
            obtain ⟨q, hq, rfl, HQ, hrel⟩ := hrel
            have HMP : Hid (New w wq) := Lib.hid (HM3.out.step HQ.out (fun i hi e => by omega))
            have HOP : Hid (Only xb wr wq) := Lib.hid (HO3.out.trans HQ.out)
            by_cases hlt : q < xln
            · have hqx : q < xs.length := by have := hxs1; omega
              obtain ⟨g2, o2, hA, htb, hc0⟩ := (HL1.out _ HOP.out).2 (by omega)
              subst hA
              have hgl2 := htb.lt
              have hb2 : (0 : Int) ≤ q := by omega
              have hb3 : (q : Int) < xln := by omega
              have hc := fun j (hj : j < 6) => hc0 q hqx j hj
              clear hc0 htb
              obtain ⟨z, hz⟩ : ∃ z, xs[q] = z := ⟨_, rfl⟩
              rw [hz] at hc
              have HZ := Lib.hid hz
              clear hz
              obtain ⟨zk, zf, zn, zw, zla, zln, zlc, zma, zmn, zmc⟩ := z
              have b0 := hc 0 (by omega)
              have b1 := hc 1 (by omega)
              have b2 := hc 2 (by omega)
              have b3 := hc 3 (by omega)
              have b4 := hc 4 (by omega)
              have b5 := hc 5 (by omega)
              simp only [VA.enc, Nat.add_zero, Nat.zero_add] at b0 b1 b2 b3 b4 b5
              clear hc
              have hts := HSB.out.mod HQ.out (by omega)
              have ma : New wq (wq.alloc (.cells #[.int .i64 zk, .bool zf, .int .i64 zn, .string zw, .slice zla zln zlc, .slice zma zmn zmc] 29)) := (Mod.refl _ _).alloc _
              have htm := hts.mod ma (fun e => e)
              have t0 := htm.cell 0
              have t1 := htm.cell 1
              have t2 := htm.cell 2
              have tl := htm.lt
              simp only [List.getElem?_toArray, List.getElem?_cons_zero, List.getElem?_cons_succ] at t0 t1 t2
              have hmb := Blk.new wq 29 #[.int .i64 zk, .bool zf, .int .i64 zn, .string zw, .slice zla zln zlc, .slice zma zmn zmc]
              have hszp : xb < wq.heap.size := Nat.lt_of_lt_of_le HX3.out.lt HQ.out.size
              have HMA := Lib.hid ma
              have HMB := Lib.hid hmb
              clear hts htm
              go_upto_region 8 with (fail)
              generalize wq.alloc (.cells #[.int .i64 zk, .bool zf, .int .i64 zn, .string zw, .slice zla zln zlc, .slice zma zmn zmc] 29) = wa at *
              generalize wq.heap.size = mb at *
              clear b0 b1 b2 b3 b4 b5 hgl2 ma hmb
              have d0 := HMB.out.cell 0
              have d1 := HMB.out.cell 1
              have d2 := HMB.out.cell 2
              have d3 := HMB.out.cell 3
              have d4 := HMB.out.cell 4
              have d5 := HMB.out.cell 5
              have dl := HMB.out.lt
              simp only [List.getElem?_toArray, List.getElem?_cons_zero, List.getElem?_cons_succ] at d0 d1 d2 d3 d4 d5
              rcases hrel with ⟨rfl, hqk, HX5⟩ | ⟨rfl, hkq, hkx, HXJ⟩
              · by_cases hn : q = k
                · subst hn
                  have HX6 := Lib.hid (HX5.out.mod HMA.out (fun e => e))
                  have e0 := HX6.out.cell 0
                  have e1 := HX6.out.cell 1
                  have e2 := HX6.out.cell 2
                  have e3 := HX6.out.cell 3
                  have e4 := HX6.out.cell 4
                  have e5 := HX6.out.cell 5
                  have el := HX6.out.lt
                  have ef := HX6.out.frozen
                  simp only [List.getElem?_toArray, List.getElem?_cons_zero, List.getElem?_cons_succ] at e0 e1 e2 e3 e4 e5
                  go_wp2_with fail
                  go_roundw
                  case rel => exact ⟨q + 1, by omega, by go_num, Lib.hid ((HQ.out.step HMA.out (fun _ _ e => e.elim)).trans (Only.cell6 wa xb _ _ _ _ _ _)), .inr ⟨rfl, by omega, hqx, Lib.hid (by
                    rw [HZ.out]
                    exact Blk.copy6 HX6.out _ _ _ _ _ _)⟩⟩
                  case measure => simp [intOf]; omega
                · have hcm : ((q : Int) == (k : Int)) = false := by simp; omega
                  go_wp2_with fail
                  go_roundw
                  case rel => exact ⟨q + 1, by omega, by go_num, Lib.hid (HQ.out.step HMA.out (fun _ _ e => e.elim)), .inl ⟨rfl, by omega, Lib.hid (HX5.out.mod HMA.out (fun e => e))⟩⟩
                  case measure => simp [intOf]; omega
              · have hcm : ((q : Int) == (k : Int)) = false := by simp; omega
                go_wp2_with fail
                go_roundw
                case rel => exact ⟨q + 1, by omega, by go_num, Lib.hid (HQ.out.step HMA.out (fun _ _ e => e.elim)), .inr ⟨rfl, by omega, hkx, Lib.hid (HXJ.out.mod HMA.out (fun e => e))⟩⟩
                case measure => simp [intOf]; omega
            · obtain rfl : xln = q := by omega
              have HR4 := Lib.hid (HR3.out.mod HQ.out (by omega))
              have HS4 := Lib.hid (HSB.out.mod HQ.out (by omega))
              clear HX3 HR3 HSB HM3 HQ
              rcases hrel with ⟨rfl, hqk, HX5⟩ | ⟨rfl, hkq, hkx, HXJ⟩
              · obtain ⟨y, ms2, HXY, HSM, hmn2, hfin⟩ : ∃ (y : VA) (ms2 : List MA), Hid (Blk wq xb 29 y.cells) ∧ Hid (∀ W, Only xb wr W → Sl W 54 7 MA.enc y.ma y.mn ms2) ∧ y.mn ≤ 100000 ∧ xln ≤ k :=
                  ⟨⟨xk, xf, xn, xw, xla, xln, xlc, xma, xmn, xmc⟩, ms, HX5, HL3, hmn, hqk⟩
                have hxy := HXY.out
                have HYE : Hid (∃ y2, y2 = y) := Lib.hid ⟨y, rfl⟩
                obtain ⟨yk, yf, yn, yw, yla, yln, ylc, yma, ymn, ymc⟩ := y
                simp only [VA.cells] at hxy
                simp only at hmn2 HSM
                have e0 := hxy.cell 0
                have e1 := hxy.cell 1
                have e2 := hxy.cell 2
                have e3 := hxy.cell 3
                have e4 := hxy.cell 4
                have e5 := hxy.cell 5
                have el := hxy.lt
                have ef := hxy.frozen
                simp only [List.getElem?_toArray, List.getElem?_cons_zero, List.getElem?_cons_succ] at e0 e1 e2 e3 e4 e5
                go_wp2_with fail
                clear e0 e1 e2 e3 e4 e5 el ef
                clear hxy
                go_loopw [45, 8] (fun i f wp => ∃ q : Nat, q ≤ ymn ∧ i = .int .i64 q ∧ f = .bool false ∧ Hid (New wq wp)) (fun i _ _ => ymn - (intOf i).toNat)
                case atStart => exact ⟨0, Nat.zero_le _, rfl, rfl, Lib.hid (Mod.refl _ _)⟩
                case round =>
                  rename World => wp
                  obtain ⟨q, hq, rfl, rfl, HQ⟩ := hrel
                  by_cases hlt : q < ymn
                  · have hqx : q < ms2.length := by have := (HSM.out _ HOP.out).1; omega
                    obtain ⟨g2, o2, hA, htb, hc0⟩ := (HSM.out _ (HOP.out.trans (HQ.out.mono (fun _ _ e => e.elim)))).2 (by omega)
                    subst hA
                    have hgl2 := htb.lt
                    have hb2 : (0 : Int) ≤ q := by omega
                    have hb3 : (q : Int) < ymn := by omega
                    have hc := fun j (hj : j < 7) => hc0 q hqx j hj
                    clear hc0 htb
                    generalize ms2[q] = z at *
                    obtain ⟨zn0, zk, zf, zn, zw, zla, zln, zlc, zma, zmn, zmc⟩ := z
                    have b0 := hc 0 (by omega)
                    have b1 := hc 1 (by omega)
                    have b2 := hc 2 (by omega)
                    have b3 := hc 3 (by omega)
                    have b4 := hc 4 (by omega)
                    have b5 := hc 5 (by omega)
                    have b6 := hc 6 (by omega)
                    simp only [MA.enc, VA.enc, Nat.add_zero, Nat.zero_add] at b0 b1 b2 b3 b4 b5 b6
                    clear hc
                    have hts := HS4.out.mod HQ.out (fun e => e)
                    have htm := hts.mod ((Mod.refl (fun _ => False) wp).alloc (.cells #[.string zn0, .int .i64 zk, .bool zf, .int .i64 zn, .string zw, .slice zla zln zlc, .slice zma zmn zmc] 54)) (fun e => e)
                    have t0 := htm.cell 0
                    have t1 := htm.cell 1
                    have t2 := htm.cell 2
                    have tl := htm.lt
                    simp only [List.getElem?_toArray, List.getElem?_cons_zero, List.getElem?_cons_succ] at t0 t1 t2
                    clear hts htm
                    go_wp2_with fail
                    go_roundw
                    case rel => exact ⟨q + 1, by omega, by go_num, rfl, Lib.hid (HQ.out.trans ((Mod.refl _ _).alloc _))⟩
                    case measure => simp [intOf]; omega
                  · obtain rfl : ymn = q := by omega
                    have HR5 := Lib.hid (HR4.out.mod HQ.out (fun e => e))
                    have hle := hfin
                    have HGN : Hid (getR v ⟨false, sn, (k : Int)⟩ = none) := Lib.hid (by
                      rw [getR4 rfl]
                      exact List.getElem?_eq_none (by show v.list.length ≤ k; have := HF5.out; omega))
                    have HMX := Lib.hid (HMP.out.trans HQ.out)
                    have r0 := HR5.out.cell 0
                    have r1 := HR5.out.cell 1
                    have r2 := HR5.out.cell 2
                    have r3 := HR5.out.cell 3
                    have r4 := HR5.out.cell 4
                    have r5 := HR5.out.cell 5
                    have rl := HR5.out.lt
                    have rf := HR5.out.frozen
                    simp only [List.getElem?_toArray, List.getElem?_cons_zero, List.getElem?_cons_succ] at r0 r1 r2 r3 r4 r5
                    go_wp2_with fail
                    refine bodyPost_ret (v := .tuple #[nilVA.val, .bool false]) (by simp [results, Tryz.results43, go_sem, r0, r1, r2, r3, r4, r5, rf]) rfl (.inl ⟨by rw [HGP.out]; exact HGNP.out HGN.out, rfl, ?_⟩)
                    repeat (with_reducible (first | exact HMX.out | (refine Mod.setCell ?_ (.inr (by first | omega | (dsimp only; omega) | skip)) _)))
              · obtain ⟨y, ms2, HXY, HSM, hmn2, hfin⟩ : ∃ (y : VA) (ms2 : List MA), Hid (Blk wq xb 29 y.cells) ∧ Hid (∀ W, Only xb wr W → Sl W 54 7 MA.enc y.ma y.mn ms2) ∧ y.mn ≤ 100000 ∧ ∃ (h : k < xs.length) (h' : k < v.list.length), y = xs[k] := by
                  have hkl : k < v.list.length := by rw [← HL2.out.len]; exact hkx
                  have hty := HL2.out.get k hkx hkl
                  have hwk := HWD.out.2.2.2.1 _ (List.getElem_mem hkl)
                  cases d with
                  | zero => exact hty.elim
                  | succ d =>
                    obtain ⟨_, ms2, -, -, q3, q4⟩ := Tree.als hty
                    obtain ⟨-, -, -, -, -, q6⟩ := Tree.fields hty
                    exact ⟨xs[k], ms2, HXJ, Lib.hid (fun W h => (q3.mod h (fun g hg _ e => by have := hg.2; omega)).sl), by have := hwk.2.1; omega, hkx, hkl, rfl⟩
                have hxy := HXY.out
                have HYE : Hid (∃ y2, y2 = y) := Lib.hid ⟨y, rfl⟩
                obtain ⟨yk, yf, yn, yw, yla, yln, ylc, yma, ymn, ymc⟩ := y
                simp only [VA.cells] at hxy
                simp only at hmn2 HSM
                have e0 := hxy.cell 0
                have e1 := hxy.cell 1
                have e2 := hxy.cell 2
                have e3 := hxy.cell 3
                have e4 := hxy.cell 4
                have e5 := hxy.cell 5
                have el := hxy.lt
                have ef := hxy.frozen
                simp only [List.getElem?_toArray, List.getElem?_cons_zero, List.getElem?_cons_succ] at e0 e1 e2 e3 e4 e5
                go_wp2_with fail
                clear e0 e1 e2 e3 e4 e5 el ef
                clear hxy
                go_loopw [45, 8] (fun i f wp => ∃ q : Nat, q ≤ ymn ∧ i = .int .i64 q ∧ f = .bool true ∧ Hid (New wq wp)) (fun i _ _ => ymn - (intOf i).toNat)
                case atStart => exact ⟨0, Nat.zero_le _, rfl, rfl, Lib.hid (Mod.refl _ _)⟩
                case round =>
                  rename World => wp
                  obtain ⟨q, hq, rfl, rfl, HQ⟩ := hrel
                  by_cases hlt : q < ymn
                  · have hqx : q < ms2.length := by have := (HSM.out _ HOP.out).1; omega
                    obtain ⟨g2, o2, hA, htb, hc0⟩ := (HSM.out _ (HOP.out.trans (HQ.out.mono (fun _ _ e => e.elim)))).2 (by omega)
                    subst hA
                    have hgl2 := htb.lt
                    have hb2 : (0 : Int) ≤ q := by omega
                    have hb3 : (q : Int) < ymn := by omega
                    have hc := fun j (hj : j < 7) => hc0 q hqx j hj
                    clear hc0 htb
                    generalize ms2[q] = z at *
                    obtain ⟨zn0, zk, zf, zn, zw, zla, zln, zlc, zma, zmn, zmc⟩ := z
                    have b0 := hc 0 (by omega)
                    have b1 := hc 1 (by omega)
                    have b2 := hc 2 (by omega)
                    have b3 := hc 3 (by omega)
                    have b4 := hc 4 (by omega)
                    have b5 := hc 5 (by omega)
                    have b6 := hc 6 (by omega)
                    simp only [MA.enc, VA.enc, Nat.add_zero, Nat.zero_add] at b0 b1 b2 b3 b4 b5 b6
                    clear hc
                    have hts := HS4.out.mod HQ.out (fun e => e)
                    have htm := hts.mod ((Mod.refl (fun _ => False) wp).alloc (.cells #[.string zn0, .int .i64 zk, .bool zf, .int .i64 zn, .string zw, .slice zla zln zlc, .slice zma zmn zmc] 54)) (fun e => e)
                    have t0 := htm.cell 0
                    have t1 := htm.cell 1
                    have t2 := htm.cell 2
                    have tl := htm.lt
                    simp only [List.getElem?_toArray, List.getElem?_cons_zero, List.getElem?_cons_succ] at t0 t1 t2
                    clear hts htm
                    go_wp2_with fail
                    go_roundw
                    case rel => exact ⟨q + 1, by omega, by go_num, rfl, Lib.hid (HQ.out.trans ((Mod.refl _ _).alloc _))⟩
                    case measure => simp [intOf]; omega
                  · obtain rfl : ymn = q := by omega
                    have HR5 := Lib.hid (HR4.out.mod HQ.out (fun e => e))
                    obtain ⟨hkx, hkl2, hye⟩ := hfin
                    have hty := HL2.out.get k hkx hkl2
                    have HGS : Hid (getR v ⟨false, sn, (k : Int)⟩ = some v.list[k]) := Lib.hid (by
                      rw [getR4 rfl]
                      exact List.getElem?_eq_getElem hkl2)
                    rw [← hye] at hty
                    go_wp2_with fail
                    go_roundw
                    case rel => exact ⟨pk + 1, by omega, by go_num, Lib.hid ⟨_, v.list[k], d, by omega, Lib.hid (by rw [HGP.out]; exact HGSP.out _ HGS.out), Lib.hid (HTM.out _ _ _ (HOP.out.trans (HQ.out.mono (fun _ _ e => e.elim))) hty), Lib.hid (HWD.out.2.2.2.1 _ (List.getElem_mem hkl2)), Lib.hid (HXY.out.mod HQ.out (fun e => e))⟩, HR5, Lib.hid (HMP.out.trans HQ.out)⟩
                    case measure => simp [intOf]; omega
    · obtain rfl : pk = n := by omega
      have HGE : Hid (getP v0 ps = some v) := Lib.hid (by rw [HGP.out]; exact getP_end (by omega))
      have hee : e' = d0 - pk := by omega
      obtain ⟨yk, yf, yn, yw, yla, yln, ylc, yma, ymn, ymc⟩ := y
      have hxy := HXY.out
      simp only [VA.cells] at hxy
      have e0 := hxy.cell 0
      have e1 := hxy.cell 1
      have e2 := hxy.cell 2
      have e3 := hxy.cell 3
      have e4 := hxy.cell 4
      have e5 := hxy.cell 5
      have el := hxy.lt
      have ef := hxy.frozen
      simp only [List.getElem?_toArray, List.getElem?_cons_zero, List.getElem?_cons_succ] at e0 e1 e2 e3 e4 e5
      have r0 := HR.out.cell 0
      have r1 := HR.out.cell 1
      have r2 := HR.out.cell 2
      have r3 := HR.out.cell 3
      have r4 := HR.out.cell 4
      have r5 := HR.out.cell 5
      have rl := HR.out.lt
      have rf := HR.out.frozen
      simp only [List.getElem?_toArray, List.getElem?_cons_zero, List.getElem?_cons_succ] at r0 r1 r2 r3 r4 r5
      clear hxy
      go_wp2_with fail
      refine bodyPost_ret (v := .tuple #[VA.val ⟨yk, yf, yn, yw, yla, yln, ylc, yma, ymn, ymc⟩, .bool true]) (by simp [results, Tryz.results43, go_sem, e0, e1, e2, e3, e4, e5, ef, r0, r1, r2, r3, r4, r5, rf]) rfl (.inr ⟨v, ⟨yk, yf, yn, yw, yla, yln, ylc, yma, ymn, ymc⟩, HGE.out, rfl, by
        rw [← hee]
        exact Tree.imp (G := fun g => G0 g ∧ g < xb) (fun g hg _ => hg.1) _ _ _ (Tree.mod (S := fun k => k = xb + 1) (Only.cell6 wr (xb + 1) _ _ _ _ _ _) (fun g hg _ e => by have := hg.2; omega) _ _ _ HTY.out), ?_⟩)
      · repeat (with_reducible (first | exact HM.out | (refine Mod.setCell ?_ (.inr (by first | omega | (dsimp only; omega) | skip)) _)))

end Go.Proofs.YtjfgfkbgbhbhjaaGreatDoor
