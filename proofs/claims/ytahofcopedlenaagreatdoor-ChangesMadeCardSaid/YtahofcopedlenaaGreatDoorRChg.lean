/- The reference: one change at a path, changed, whatever the path. Conditions: a value that is right, rows of at most 11; a path that is right; a change of one of the three kinds. -/
import Derived.Test.YtahofcopedlenaaGreatDoorRChd
namespace Go.Proofs.YtahofcopedlenaaGreatDoor
open Go.RowKit
set_option linter.unusedVariables false
set_option linter.unusedSimpArgs false

theorem Sl.head {α : Type} {w : World} {t : TypeId} {sz : Nat} {enc : α → Nat → Value} {g o n : Nat} {x : α} {xs : List α} (h : Sl w t sz enc (some ⟨g, o, none⟩) n (x :: xs)) : Sl w t sz enc (some ⟨g, o, none⟩) 1 [x] := by
  refine ⟨rfl, fun h0 => ?_⟩
  obtain ⟨g', o', hA, ht, hc⟩ := h.2 (by have := h.1; simp at this; omega)
  refine ⟨g', o', hA, ht, fun i hi j hj => ?_⟩
  simp only [List.length_cons, List.length_nil, Nat.zero_add] at hi
  obtain rfl : i = 0 := by omega
  exact hc 0 (by simp) j hj
/-- a change's contract at a path -/
def RgSpec (dc : Nat) (c : CA) (u : VT) (p : List St) : Prop := ∀ (G : Nat → Prop) (d : Nat) (x : VA) (v : VT) (A : Option Addr) (n pc : Nat) (w : World), Tree w G d x v → Good d v → Wide 11 d v → Tree w G dc c.v u →
  Sl w 60 3 St.enc A n p → n ≤ pc → n ≤ 100 → Calls Tryz.prog 38 #[x.val, .slice A n pc, c.val] w (RChg G (d + dc) w (rchg c.kind u p v))
theorem rchg_one (dc : Nat) (c : CA) (u : VT) (s : St) (hok : 0 ≤ s.at_ ∧ s.at_ ≤ 5000) (hk : 1 ≤ c.kind ∧ c.kind ≤ 3) (h2 : c.kind = 2 → s.named = false) : RgSpec dc c u [s] := by
  intro G d x v A n pc w ht hg hwd hu hs hnc hn
  obtain ⟨d, rfl⟩ : ∃ k, d = k + 1 := by
    cases d with
    | zero => exact ht.elim
    | succ k => exact ⟨k, rfl⟩
  have hn1 : n = 1 := by have := hs.1; simp at this; omega
  subst hn1
  have e : d + 1 + dc = d + dc + 1 := by omega
  have hd := ht.deep
  have hsr := (own_idle hg.1).2.2
  rw [e]
  have ht2 := Tree.upto (show d + 1 ≤ d + dc + 1 by omega) ht
  have hu2 := Tree.upto (show dc ≤ d + dc by omega) hu
  have hw2 := Wide.deep (show d + 1 ≤ d + dc + 1 by omega) hd hwd
  obtain ⟨nm, sn, sa⟩ := s
  obtain ⟨k, hk2⟩ := Int.eq_ofNat_of_zero_le hok.1
  simp only at hk2 h2
  subst hk2
  have hk5 : k ≤ 5000 := by have := hok.2; simp only at this; omega
  cases nm with
  | true => exact rlast_named G (d + dc) x v c u sn k A pc w ht2 hu2 hsr hw2 hs hk5 hk (fun e => by have := h2 e; cases this)
  | false => exact rlast_at G (d + dc) x v c u sn k A pc w ht2 hu2 hsr hw2 hs hk5 hk
set_option maxHeartbeats 1000000 in
theorem rchg_none (dc : Nat) (c : CA) (u : VT) : RgSpec dc c u [] := by
  intro G d x v A n pc w ht hg hwd hu hs hnc hn
  have hn0 : n = 0 := by have := hs.1; simp at this; omega
  subst hn0
  have HU := Lib.hid (Tree.upto (show dc ≤ d + dc by omega) hu)
  obtain ⟨R, hR⟩ : ∃ R, R = rchg c.kind u [] v := ⟨_, rfl⟩
  rw [← hR]
  have HEQ : Hid (R = (u, 0)) := Lib.hid (by rw [hR]; rfl)
  obtain ⟨xk, xf, xn, xw, xla, xln, xlc, xma, xmn, xmc⟩ := x
  obtain ⟨ck, ca, cn, cc, cv⟩ := c
  obtain ⟨yk, yf, yn, yw, yla, yln, ylc, yma, ymn, ymc⟩ := cv
  simp only at HU
  clear ht hg hwd hu hs hR
  go_enter Tryz.func38, Tryz.ntmps38
  have hx := Blk.new w 29 #[.int .i64 xk, .bool xf, .int .i64 xn, .string xw, .slice xla xln xlc, .slice xma xmn xmc]
  have m1 : New w (w.alloc (.cells #[.int .i64 xk, .bool xf, .int .i64 xn, .string xw, .slice xla xln xlc, .slice xma xmn xmc] 29)) := (Mod.refl _ _).alloc _
  have z1 : (w.alloc (.cells #[.int .i64 xk, .bool xf, .int .i64 xn, .string xw, .slice xla xln xlc, .slice xma xmn xmc] 29)).heap.size = w.heap.size + 1 := by simp
  go_upto_region 1 with (fail)
  generalize w.alloc (.cells #[.int .i64 xk, .bool xf, .int .i64 xn, .string xw, .slice xla xln xlc, .slice xma xmn xmc] 29) = w1 at *
  have hy := Blk.new w1 57 #[.int .i64 ck, .slice ca cn cc, .int .i64 yk, .bool yf, .int .i64 yn, .string yw, .slice yla yln ylc, .slice yma ymn ymc]
  have m2 : New w1 (w1.alloc (.cells #[.int .i64 ck, .slice ca cn cc, .int .i64 yk, .bool yf, .int .i64 yn, .string yw, .slice yla yln ylc, .slice yma ymn ymc] 57)) := (Mod.refl _ _).alloc _
  have z2 : (w1.alloc (.cells #[.int .i64 ck, .slice ca cn cc, .int .i64 yk, .bool yf, .int .i64 yn, .string yw, .slice yla yln ylc, .slice yma ymn ymc] 57)).heap.size = w1.heap.size + 1 := by simp
  generalize w1.alloc (.cells #[.int .i64 ck, .slice ca cn cc, .int .i64 yk, .bool yf, .int .i64 yn, .string yw, .slice yla yln ylc, .slice yma ymn ymc] 57) = w2 at *
  have hz := Blk.new w2 29 #[.int .i64 0, .bool false, .int .i64 0, .string ⟨#[]⟩, .slice none 0 0, .slice none 0 0]
  have m3 : New w2 (w2.alloc (.cells #[.int .i64 0, .bool false, .int .i64 0, .string ⟨#[]⟩, .slice none 0 0, .slice none 0 0] 29)) := (Mod.refl _ _).alloc _
  generalize w2.alloc (.cells #[.int .i64 0, .bool false, .int .i64 0, .string ⟨#[]⟩, .slice none 0 0, .slice none 0 0] 29) = w3 at *
  rw [z1] at hy z2
  rw [z2] at hz
  have HX := Lib.hid ((hx.mod m2 (fun e => e)).mod m3 (fun e => e))
  have HC := Lib.hid (hy.mod m3 (fun e => e))
  have HR := Lib.hid hz
  have HM := Lib.hid ((m1.trans m2).trans m3)
  clear hx hy hz m1 m2 m3 z1 z2
  generalize hxb : w.heap.size = xb at *
  have hwb : w.heap.size ≤ xb := by omega
  have e0 := HX.out.cell 0
  have e1 := HX.out.cell 1
  have e2 := HX.out.cell 2
  have e3 := HX.out.cell 3
  have e4 := HX.out.cell 4
  have e5 := HX.out.cell 5
  have el := HX.out.lt
  have ef := HX.out.frozen
  have c0 := HC.out.cell 0
  have c1 := HC.out.cell 1
  have c2 := HC.out.cell 2
  have c3 := HC.out.cell 3
  have c4 := HC.out.cell 4
  have c5 := HC.out.cell 5
  have c6 := HC.out.cell 6
  have c7 := HC.out.cell 7
  have cl := HC.out.lt
  have r0 := HR.out.cell 0
  have r1 := HR.out.cell 1
  have r2 := HR.out.cell 2
  have r3 := HR.out.cell 3
  have r4 := HR.out.cell 4
  have r5 := HR.out.cell 5
  have rl := HR.out.lt
  have rf := HR.out.frozen
  simp only [List.getElem?_toArray, List.getElem?_cons_zero, List.getElem?_cons_succ] at e0 e1 e2 e3 e4 e5 c0 c1 c2 c3 c4 c5 c6 c7 r0 r1 r2 r3 r4 r5
  go_wp2_with fail
  refine bodyPost_ret (v := .tuple #[VA.val ⟨yk, yf, yn, yw, yla, yln, ylc, yma, ymn, ymc⟩, .int .i64 0]) (by simp [results, Tryz.results38, go_sem, e0, e1, e2, e3, e4, e5, ef, r0, r1, r2, r3, r4, r5, rf]) rfl (RChg.of HEQ.out (y := ⟨yk, yf, yn, yw, yla, yln, ylc, yma, ymn, ymc⟩) HU.out ?_)
  repeat (with_reducible (first | exact HM.out | (refine Mod.setCell ?_ (.inr (by first | omega | (dsimp only; omega) | skip)) _)))

set_option maxRecDepth 100000 in
set_option maxHeartbeats 3000000 in
theorem rchg_more (dc : Nat) (c : CA) (u : VT) (s t : St) (q : List St) (hok : 0 ≤ s.at_ ∧ s.at_ ≤ 5000) (IH : RgSpec dc c u (t :: q)) : RgSpec dc c u (s :: t :: q) := by
  intro G d x v A n pc w ht hg hwd hu hs hnc hn
  obtain ⟨d, rfl⟩ : ∃ k, d = k + 1 := by
    cases d with
    | zero => exact ht.elim
    | succ k => exact ⟨k, rfl⟩
  have hn2 : n = q.length + 1 + 1 := by have := hs.1; simp at this; omega
  replace ht := ht.oldG
  replace hu := hu.oldG
  have HNQ := Lib.hid hn2
  have hnn : 2 ≤ n := by omega
  clear hn2
  have HT := Lib.hid ht
  have HU := Lib.hid hu
  have HG := Lib.hid hg
  have HWD := Lib.hid hwd
  have HS := Lib.hid hs
  have HIH := Lib.hid IH
  obtain ⟨R, hR⟩ : ∃ R, R = rchg c.kind u (s :: t :: q) v := ⟨_, rfl⟩
  rw [← hR]
  have HRR : Hid (R = match getR v s with | none => (v, 8) | some x => (withR v s (rchg c.kind u (t :: q) x).1, (rchg c.kind u (t :: q) x).2)) := Lib.hid hR
  obtain ⟨nm, sn, sa⟩ := s
  obtain ⟨k, hk2⟩ := Int.eq_ofNat_of_zero_le hok.1
  simp only at hk2
  subst hk2
  have hk5 : k ≤ 5000 := by have := hok.2; simp only at this; omega
  clear ht hg hwd hu hs IH hR hok
  obtain ⟨xk, xf, xn, xw, xla, xln, xlc, xma, xmn, xmc⟩ := x
  obtain ⟨ck, ca, cn, cc, cv⟩ := c
  obtain ⟨yk, yf, yn, yw, yla, yln, ylc, yma, ymn, ymc⟩ := cv
  go_enter Tryz.func38, Tryz.ntmps38
  have hx := Blk.new w 29 #[.int .i64 xk, .bool xf, .int .i64 xn, .string xw, .slice xla xln xlc, .slice xma xmn xmc]
  have m1 : New w (w.alloc (.cells #[.int .i64 xk, .bool xf, .int .i64 xn, .string xw, .slice xla xln xlc, .slice xma xmn xmc] 29)) := (Mod.refl _ _).alloc _
  have z1 : (w.alloc (.cells #[.int .i64 xk, .bool xf, .int .i64 xn, .string xw, .slice xla xln xlc, .slice xma xmn xmc] 29)).heap.size = w.heap.size + 1 := by simp
  go_upto_region 1 with (fail)
  generalize w.alloc (.cells #[.int .i64 xk, .bool xf, .int .i64 xn, .string xw, .slice xla xln xlc, .slice xma xmn xmc] 29) = w1 at *
  have hy := Blk.new w1 57 #[.int .i64 ck, .slice ca cn cc, .int .i64 yk, .bool yf, .int .i64 yn, .string yw, .slice yla yln ylc, .slice yma ymn ymc]
  have m2 : New w1 (w1.alloc (.cells #[.int .i64 ck, .slice ca cn cc, .int .i64 yk, .bool yf, .int .i64 yn, .string yw, .slice yla yln ylc, .slice yma ymn ymc] 57)) := (Mod.refl _ _).alloc _
  have z2 : (w1.alloc (.cells #[.int .i64 ck, .slice ca cn cc, .int .i64 yk, .bool yf, .int .i64 yn, .string yw, .slice yla yln ylc, .slice yma ymn ymc] 57)).heap.size = w1.heap.size + 1 := by simp
  generalize w1.alloc (.cells #[.int .i64 ck, .slice ca cn cc, .int .i64 yk, .bool yf, .int .i64 yn, .string yw, .slice yla yln ylc, .slice yma ymn ymc] 57) = w2 at *
  have hz := Blk.new w2 29 #[.int .i64 0, .bool false, .int .i64 0, .string ⟨#[]⟩, .slice none 0 0, .slice none 0 0]
  have m3 : New w2 (w2.alloc (.cells #[.int .i64 0, .bool false, .int .i64 0, .string ⟨#[]⟩, .slice none 0 0, .slice none 0 0] 29)) := (Mod.refl _ _).alloc _
  generalize w2.alloc (.cells #[.int .i64 0, .bool false, .int .i64 0, .string ⟨#[]⟩, .slice none 0 0, .slice none 0 0] 29) = w3 at *
  rw [z1] at hy z2
  rw [z2] at hz
  have HX := Lib.hid ((hx.mod m2 (fun e => e)).mod m3 (fun e => e))
  have HC := Lib.hid (hy.mod m3 (fun e => e))
  have HR := Lib.hid hz
  have HM := Lib.hid ((m1.trans m2).trans m3)
  clear hx hy hz m1 m2 m3 z1 z2
  generalize hxb : w.heap.size = xb at *
  have hwb : w.heap.size ≤ xb := by omega
  obtain ⟨g, o, hA, htb, hc0⟩ := (HS.out.new HM.out).2 (by omega)
  have hc := fun j (hj : j < 3) => hc0 0 (by simp) j hj
  have hgl := htb.lt
  simp only [List.getElem_cons_zero, Nat.zero_mul, Nat.add_zero] at hc
  have HSO : Hid (Sl w3 60 3 St.enc (some ⟨g, o, none⟩) n (⟨nm, sn, (k : Int)⟩ :: t :: q)) := Lib.hid (by rw [← hA]; exact HS.out.new HM.out)
  subst hA
  have s0 := hc 0 (by omega)
  have s1 := hc 1 (by omega)
  have s2 := hc 2 (by omega)
  simp only [Nat.add_zero] at s0
  simp only [St.enc] at s0 s1 s2
  clear hc hc0 htb
  have hsb := Blk.new w3 60 #[.bool nm, .string sn, .int .i64 k]
  have m4 : New w3 (w3.alloc (.cells #[.bool nm, .string sn, .int .i64 k] 60)) := (Mod.refl _ _).alloc _
  have hsz3 : xb + 1 + 1 < w3.heap.size := HR.out.lt
  go_upto_region 4 with (fail)
  clear s0 s1 s2 hgl
  generalize w3.alloc (.cells #[.bool nm, .string sn, .int .i64 k] 60) = w4 at *
  have HSB := Lib.hid hsb
  generalize w3.heap.size = sb at *
  have hsb4 : sb < w4.heap.size := HSB.out.lt
  have HX1 := Lib.hid (HX.out.mod m4 (fun e => e))
  have HC1 := Lib.hid (HC.out.mod m4 (fun e => e))
  have HR1 := Lib.hid (HR.out.mod m4 (fun e => e))
  have HM1 := Lib.hid (HM.out.trans m4)
  have HSO4 := Lib.hid (HSO.out.new m4)
  clear HX HC HR HM hsb m4 HSO
  have HX := HX1
  have HC := HC1
  have HR := HR1
  have HM := HM1
  clear HX1 HC1 HR1 HM1
  have hb1 : (1 : Int) < n := by omega
  have hb3 : (1 : Int) ≤ pc := by omega
  have hb4 : 1 ≤ pc := by omega
  have HSR2 : Hid (∀ W, New w4 W → (
    W.cell? ⟨xb, 0, none⟩ = some (.int .i64 xk) ∧ W.cell? ⟨xb, 1, none⟩ = some (.bool xf) ∧ W.cell? ⟨xb, 2, none⟩ = some (.int .i64 xn) ∧ W.cell? ⟨xb, 3, none⟩ = some (.string xw) ∧ W.cell? ⟨xb, 4, none⟩ = some (.slice xla xln xlc) ∧ W.cell? ⟨xb, 5, none⟩ = some (.slice xma xmn xmc) ∧
    W.cell? ⟨xb + 1, 0, none⟩ = some (.int .i64 ck) ∧ W.cell? ⟨xb + 1, 1, none⟩ = some (.slice ca cn cc) ∧ W.cell? ⟨xb + 1, 2, none⟩ = some (.int .i64 yk) ∧ W.cell? ⟨xb + 1, 3, none⟩ = some (.bool yf) ∧ W.cell? ⟨xb + 1, 4, none⟩ = some (.int .i64 yn) ∧ W.cell? ⟨xb + 1, 5, none⟩ = some (.string yw) ∧ W.cell? ⟨xb + 1, 6, none⟩ = some (.slice yla yln ylc) ∧ W.cell? ⟨xb + 1, 7, none⟩ = some (.slice yma ymn ymc) ∧
    W.cell? ⟨sb, 0, none⟩ = some (.bool nm) ∧ W.cell? ⟨sb, 1, none⟩ = some (.string sn) ∧ W.cell? ⟨sb, 2, none⟩ = some (.int .i64 k) ∧ sb < W.heap.size ∧ xb < W.heap.size ∧ xb + 1 < W.heap.size
    )) := Lib.hid (fun W hW => by
    have h1 := HX.out.mod hW (fun e => e)
    have h2 := HC.out.mod hW (fun e => e)
    have h3 := HSB.out.mod hW (fun e => e)
    exact ⟨(h1.cell 0).trans rfl, (h1.cell 1).trans rfl, (h1.cell 2).trans rfl, (h1.cell 3).trans rfl, (h1.cell 4).trans rfl, (h1.cell 5).trans rfl, (h2.cell 0).trans rfl, (h2.cell 1).trans rfl, (h2.cell 2).trans rfl, (h2.cell 3).trans rfl, (h2.cell 4).trans rfl, (h2.cell 5).trans rfl, (h2.cell 6).trans rfl, (h2.cell 7).trans rfl, (h3.cell 0).trans rfl, (h3.cell 1).trans rfl, (h3.cell 2).trans rfl, h3.lt, h1.lt, h2.lt⟩)
  have HGET := Lib.hid (fun W (h : New w4 W) => getAt_v (fun g => G g ∧ g < xb) d ⟨xk, xf, xn, xw, xla, xln, xlc, xma, xmn, xmc⟩ v ⟨nm, sn, (k : Int)⟩ (some ⟨g, o, none⟩) pc W (HT.out.new (HM.out.trans h)) (HSO4.out.head.new h) (Wide.mono (by omega) _ _ HWD.out) ⟨by simp only; omega, by simp only; omega⟩)
  go_upto_region 5 with (fail)
  cases hat : getR v ⟨nm, sn, (k : Int)⟩ with
  | none =>
    have HGN : Hid (∀ W, New w4 W → Calls Tryz.prog 59 #[VA.val ⟨xk, xf, xn, xw, xla, xln, xlc, xma, xmn, xmc⟩, .slice (some ⟨g, o, none⟩) 1 pc] W fun e w' => ∃ y : VA, e = .returned (.tuple #[y.val, .bool false]) ∧ True ∧ New W w') := Lib.hid (fun W h => (HGET.out W h).mono (fun e w' hq => by
      rcases hq with ⟨-, h2, h3⟩ | ⟨_, _, h2, -⟩
      · exact ⟨_, h2, trivial, h3⟩
      · rw [hat] at h2; cases h2))
    have HEQ : Hid (R = (v, 8)) := Lib.hid (by rw [HRR.out, hat])
    clear hat
    go_cut [9, 10] (fun s9 s10 wx => ∃ (b9 : Nat) (y : VA), s9 = .pointer (some ⟨b9, 0, none⟩) ∧ s10 = .bool false ∧ Hid (Blk wx b9 29 y.cells) ∧ sb < b9 ∧ Hid True ∧ Hid (New w4 wx))
    case first =>
      refine wp_region_held_tree (New w4) 9 (by kernel_rfl) (by kernel_rfl) ?_
      have hn0 : New w4 w4.drew := (Mod.refl _ _).drew
      refine headW_take 0 _ ?_ (fun _ _ d _ _ h => by cases d <;> exact h) (by kernel_rfl) rfl (by kernel_rfl) hn0 (by rfl) (fun W hSw => ?_) ?_
      rotate_left
      · (have hq := HSR2.out W hSw); (try simp only [List.getElem_toArray, List.getElem_cons_zero, List.getElem_cons_succ]); go_simp; any_goals (with_reducible rfl)
      simp only [Act.put, List.getElem_toArray, List.getElem_cons_zero, List.getElem_cons_succ, List.setIfInBounds_toArray, List.set_cons_zero, List.set_cons_succ]
      refine headW_take 1 _ ?_ (fun _ _ d _ _ h => by cases d <;> exact h) (by kernel_rfl) rfl (by kernel_rfl) hn0 (by rfl) (fun W hSw => ?_) ?_
      rotate_left
      · (have hq := HSR2.out W hSw); (try simp only [List.getElem_toArray, List.getElem_cons_zero, List.getElem_cons_succ]); go_simp; any_goals (with_reducible rfl)
      simp only [Act.put, List.getElem_toArray, List.getElem_cons_zero, List.getElem_cons_succ, List.setIfInBounds_toArray, List.set_cons_zero, List.set_cons_succ]
      refine headW_take 2 _ ?_ (fun _ _ d _ _ h => by cases d <;> exact h) (by kernel_rfl) rfl (by kernel_rfl) hn0 (by rfl) (fun W hSw => ?_) ?_
      rotate_left
      · (have hq := HSR2.out W hSw); (try simp only [List.getElem_toArray, List.getElem_cons_zero, List.getElem_cons_succ]); go_simp; any_goals (with_reducible rfl)
      simp only [Act.put, List.getElem_toArray, List.getElem_cons_zero, List.getElem_cons_succ, List.setIfInBounds_toArray, List.set_cons_zero, List.set_cons_succ]
      refine headW_ready [3, 7] (by kernel_rfl) (by rfl) ?_
      refine eachW_step rfl rfl (fun K hK => ?_) (eachW_step rfl rfl (fun K hK => ?_) eachW_nil)
      · (try simp only [List.getElem_toArray, List.getElem_cons_zero, List.getElem_cons_succ])
        go_simp
        refine (HGN.out _ hn0).mono ?_
        rintro e w5 ⟨⟨zk, zf, zn, zw, zla, zln, zlc, zma, zmn, zmc⟩, rfl, hpt, m5⟩
        have n5 : New w4 w5 := hn0.trans m5
        go_wp2_with fail
        refine hK.out _ _ n5 (fun _ => ?_)
        clear hK K
        (try simp only [Act.put, List.getElem_toArray, List.getElem_cons_zero, List.getElem_cons_succ, List.setIfInBounds_toArray, List.set_cons_zero, List.set_cons_succ])
        refine headW_take 4 _ ?_ (fun _ _ d _ _ h => by cases d <;> exact h) (by kernel_rfl) rfl (by kernel_rfl) n5 (by rfl) (fun W hSw => ?_) ?_
        rotate_left
        · (have hq := HSR2.out W hSw); (try simp only [List.getElem_toArray, List.getElem_cons_zero, List.getElem_cons_succ]); go_simp; any_goals (with_reducible rfl)
        simp only [Act.put, List.getElem_toArray, List.getElem_cons_zero, List.getElem_cons_succ, List.setIfInBounds_toArray, List.set_cons_zero, List.set_cons_succ]
        refine headW_take 5 _ ?_ (fun _ _ d _ _ h => by cases d <;> exact h) (by kernel_rfl) rfl (by kernel_rfl) n5 (by rfl) (fun W hSw => ?_) ?_
        rotate_left
        · (have hq := HSR2.out W hSw); (try simp only [List.getElem_toArray, List.getElem_cons_zero, List.getElem_cons_succ]); go_simp; any_goals (with_reducible rfl)
        simp only [Act.put, List.getElem_toArray, List.getElem_cons_zero, List.getElem_cons_succ, List.setIfInBounds_toArray, List.set_cons_zero, List.set_cons_succ]
        refine headW_take 6 _ ?_ (fun _ _ d _ _ h => by cases d <;> exact h) (by kernel_rfl) rfl (by kernel_rfl) n5 (by rfl) (fun W hSw => ?_) ?_
        rotate_left
        · (have hq := HSR2.out W hSw); (try simp only [List.getElem_toArray, List.getElem_cons_zero, List.getElem_cons_succ]); go_simp; any_goals (with_reducible rfl)
        simp only [Act.put, List.getElem_toArray, List.getElem_cons_zero, List.getElem_cons_succ, List.setIfInBounds_toArray, List.set_cons_zero, List.set_cons_succ]
        refine headW_ready [7] (by kernel_rfl) (by rfl) ?_
        refine eachW_step rfl rfl (fun K hK => ?_) eachW_nil
        (try simp only [List.getElem_toArray, List.getElem_cons_zero, List.getElem_cons_succ])
        go_simp
        refine hK.out _ _ (n5.alloc _) (fun _ => ?_)
        clear hK K
        (try simp only [Act.put, List.getElem_toArray, List.getElem_cons_zero, List.getElem_cons_succ, List.setIfInBounds_toArray, List.set_cons_zero, List.set_cons_succ])
        refine headW_ready [8] (by kernel_rfl) (by rfl) ?_
        refine eachW_step rfl rfl (fun K hK => ?_) eachW_nil
        (try simp only [List.getElem_toArray, List.getElem_cons_zero, List.getElem_cons_succ])
        go_simp
        refine hK.out _ _ (n5.alloc _) (fun _ => ?_)
        clear hK K
        (try simp only [Act.put, List.getElem_toArray, List.getElem_cons_zero, List.getElem_cons_succ, List.setIfInBounds_toArray, List.set_cons_zero, List.set_cons_succ])
        refine headW_done (by kernel_rfl) ?_
        go_wp2_with fail
        go_meet
        case rel => exact ⟨_, ⟨zk, zf, zn, zw, zla, zln, zlc, zma, zmn, zmc⟩, rfl, rfl, Lib.hid (Blk.new _ _ _), by have := n5.size; omega, Lib.hid trivial, Lib.hid (n5.alloc _)⟩
      · (try simp only [List.getElem_toArray, List.getElem_cons_zero, List.getElem_cons_succ])
        go_simp
        have bz0 := Blk.new w4 29 #[.int .i64 0, .bool false, .int .i64 0, .string ⟨#[]⟩, .slice none 0 0, .slice none 0 0]
        have n4 : New w4 (World.drew (w4.alloc (.cells #[.int .i64 0, .bool false, .int .i64 0, .string ⟨#[]⟩, .slice none 0 0, .slice none 0 0] 29))) := ((Mod.refl _ _).alloc _).drew
        have n4b : New (w4.alloc (.cells #[.int .i64 0, .bool false, .int .i64 0, .string ⟨#[]⟩, .slice none 0 0, .slice none 0 0] 29)) (World.drew (w4.alloc (.cells #[.int .i64 0, .bool false, .int .i64 0, .string ⟨#[]⟩, .slice none 0 0, .slice none 0 0] 29))) := (Mod.refl _ _).drew
        refine hK.out _ _ n4 (fun _ => ?_)
        clear hK K
        (try simp only [Act.put, List.getElem_toArray, List.getElem_cons_zero, List.getElem_cons_succ, List.setIfInBounds_toArray, List.set_cons_zero, List.set_cons_succ])
        refine headW_ready [3] (by kernel_rfl) (by rfl) ?_
        refine eachW_step rfl rfl (fun K hK => ?_) eachW_nil
        (try simp only [List.getElem_toArray, List.getElem_cons_zero, List.getElem_cons_succ])
        go_simp
        refine (HGN.out _ n4).mono ?_
        rintro e w5 ⟨⟨zk, zf, zn, zw, zla, zln, zlc, zma, zmn, zmc⟩, rfl, hpt, m5⟩
        have n5 : New w4 w5 := n4.trans m5
        have bz := (bz0.mod n4b (fun e => e)).mod m5 (fun e => e)
        have z0 := bz.cell 0
        have z1 := bz.cell 1
        have z2 := bz.cell 2
        have z3 := bz.cell 3
        have z4 := bz.cell 4
        have z5 := bz.cell 5
        have zl := bz.lt
        have zfr := bz.frozen
        simp only [List.getElem?_toArray, List.getElem?_cons_zero, List.getElem?_cons_succ] at z0 z1 z2 z3 z4 z5
        have n6 : New w4 ((((((w5.setCell ⟨w4.heap.size, 0, none⟩ (.int .i64 zk)).setCell ⟨w4.heap.size, 1, none⟩ (.bool zf)).setCell ⟨w4.heap.size, 2, none⟩ (.int .i64 zn)).setCell ⟨w4.heap.size, 3, none⟩ (.string zw)).setCell ⟨w4.heap.size, 4, none⟩ (.slice zla zln zlc)).setCell ⟨w4.heap.size, 5, none⟩ (.slice zma zmn zmc)) := Mod.setCell (Mod.setCell (Mod.setCell (Mod.setCell (Mod.setCell (Mod.setCell n5 (.inr (Nat.le_refl _)) _) (.inr (Nat.le_refl _)) _) (.inr (Nat.le_refl _)) _) (.inr (Nat.le_refl _)) _) (.inr (Nat.le_refl _)) _) (.inr (Nat.le_refl _)) _
        clear bz0 n4b
        go_wp2_with fail
        refine hK.out _ _ n5 (fun _ => ?_)
        clear hK K
        (try simp only [Act.put, List.getElem_toArray, List.getElem_cons_zero, List.getElem_cons_succ, List.setIfInBounds_toArray, List.set_cons_zero, List.set_cons_succ])
        refine headW_take 4 _ ?_ (fun _ _ d _ _ h => by cases d <;> exact h) (by kernel_rfl) rfl (by kernel_rfl) n5 (by rfl) (fun W hSw => ?_) ?_
        rotate_left
        · (have hq := HSR2.out W hSw); (try simp only [List.getElem_toArray, List.getElem_cons_zero, List.getElem_cons_succ]); go_simp; any_goals (with_reducible rfl)
        simp only [Act.put, List.getElem_toArray, List.getElem_cons_zero, List.getElem_cons_succ, List.setIfInBounds_toArray, List.set_cons_zero, List.set_cons_succ]
        refine headW_take 5 _ ?_ (fun _ _ d _ _ h => by cases d <;> exact h) (by kernel_rfl) rfl (by kernel_rfl) n5 (by rfl) (fun W hSw => ?_) ?_
        rotate_left
        · (have hq := HSR2.out W hSw); (try simp only [List.getElem_toArray, List.getElem_cons_zero, List.getElem_cons_succ]); go_simp; any_goals (with_reducible rfl)
        simp only [Act.put, List.getElem_toArray, List.getElem_cons_zero, List.getElem_cons_succ, List.setIfInBounds_toArray, List.set_cons_zero, List.set_cons_succ]
        refine headW_take 6 _ ?_ (fun _ _ d _ _ h => by cases d <;> exact h) (by kernel_rfl) rfl (by kernel_rfl) n5 (by rfl) (fun W hSw => ?_) ?_
        rotate_left
        · (have hq := HSR2.out W hSw); (try simp only [List.getElem_toArray, List.getElem_cons_zero, List.getElem_cons_succ]); go_simp; any_goals (with_reducible rfl)
        simp only [Act.put, List.getElem_toArray, List.getElem_cons_zero, List.getElem_cons_succ, List.setIfInBounds_toArray, List.set_cons_zero, List.set_cons_succ]
        refine headW_ready [8] (by kernel_rfl) (by rfl) ?_
        refine eachW_step rfl rfl (fun K hK => ?_) eachW_nil
        (try simp only [List.getElem_toArray, List.getElem_cons_zero, List.getElem_cons_succ])
        go_simp
        refine hK.out _ _ n6 (fun _ => ?_)
        clear hK K
        (try simp only [Act.put, List.getElem_toArray, List.getElem_cons_zero, List.getElem_cons_succ, List.setIfInBounds_toArray, List.set_cons_zero, List.set_cons_succ])
        refine headW_done (by kernel_rfl) ?_
        go_wp2_with fail
        go_meet
        case rel => exact ⟨_, ⟨zk, zf, zn, zw, zla, zln, zlc, zma, zmn, zmc⟩, rfl, rfl, Lib.hid (Blk.copy6 bz _ _ _ _ _ _), by omega, Lib.hid trivial, Lib.hid n6⟩
    case rest =>
      rename World => wx
      obtain ⟨b8, y8, rfl, rfl, -, hb8, -, HNX⟩ := hcut
      have nx := HNX.out
      have hB4 : xb + 1 + 1 < wx.heap.size := Nat.lt_of_lt_of_le HR.out.lt nx.size
      have e0 := HX.out.cell 0
      have e1 := HX.out.cell 1
      have e2 := HX.out.cell 2
      have e3 := HX.out.cell 3
      have e4 := HX.out.cell 4
      have e5 := HX.out.cell 5
      have el := HX.out.lt
      have ef := HX.out.frozen
      have c0 := HC.out.cell 0
      have c1 := HC.out.cell 1
      have c2 := HC.out.cell 2
      have c3 := HC.out.cell 3
      have c4 := HC.out.cell 4
      have c5 := HC.out.cell 5
      have c6 := HC.out.cell 6
      have c7 := HC.out.cell 7
      have cl := HC.out.lt
      have r0 := HR.out.cell 0
      have r1 := HR.out.cell 1
      have r2 := HR.out.cell 2
      have r3 := HR.out.cell 3
      have r4 := HR.out.cell 4
      have r5 := HR.out.cell 5
      have rl := HR.out.lt
      have rf := HR.out.frozen
      simp only [List.getElem?_toArray, List.getElem?_cons_zero, List.getElem?_cons_succ] at e0 e1 e2 e3 e4 e5 c0 c1 c2 c3 c4 c5 c6 c7 r0 r1 r2 r3 r4 r5
      have t0 := HSB.out.cell 0
      have t1 := HSB.out.cell 1
      have t2 := HSB.out.cell 2
      have tl := HSB.out.lt
      simp only [List.getElem?_toArray, List.getElem?_cons_zero, List.getElem?_cons_succ] at t0 t1 t2
      have HX1 := Lib.hid (HX.out.mod nx (fun e => e))
      have HC1 := Lib.hid (HC.out.mod nx (fun e => e))
      have HR1 := Lib.hid (HR.out.mod nx (fun e => e))
      have HS1 := Lib.hid (HSB.out.mod nx (fun e => e))
      have HM1 := Lib.hid (HM.out.trans nx)
      clear e0 e1 e2 e3 e4 e5 el ef c0 c1 c2 c3 c4 c5 c6 c7 cl r0 r1 r2 r3 r4 r5 rl rf
      clear t0 t1 t2 tl
      clear HX HC HR HSB HM
      have HX := HX1
      have HC := HC1
      have HR := HR1
      have HSB := HS1
      have HM := HM1
      clear HX1 HC1 HR1 HS1 HM1
      have e0 := HX.out.cell 0
      have e1 := HX.out.cell 1
      have e2 := HX.out.cell 2
      have e3 := HX.out.cell 3
      have e4 := HX.out.cell 4
      have e5 := HX.out.cell 5
      have el := HX.out.lt
      have ef := HX.out.frozen
      have c0 := HC.out.cell 0
      have c1 := HC.out.cell 1
      have c2 := HC.out.cell 2
      have c3 := HC.out.cell 3
      have c4 := HC.out.cell 4
      have c5 := HC.out.cell 5
      have c6 := HC.out.cell 6
      have c7 := HC.out.cell 7
      have cl := HC.out.lt
      have r0 := HR.out.cell 0
      have r1 := HR.out.cell 1
      have r2 := HR.out.cell 2
      have r3 := HR.out.cell 3
      have r4 := HR.out.cell 4
      have r5 := HR.out.cell 5
      have rl := HR.out.lt
      have rf := HR.out.frozen
      simp only [List.getElem?_toArray, List.getElem?_cons_zero, List.getElem?_cons_succ] at e0 e1 e2 e3 e4 e5 c0 c1 c2 c3 c4 c5 c6 c7 r0 r1 r2 r3 r4 r5
      have t0 := HSB.out.cell 0
      have t1 := HSB.out.cell 1
      have t2 := HSB.out.cell 2
      have tl := HSB.out.lt
      simp only [List.getElem?_toArray, List.getElem?_cons_zero, List.getElem?_cons_succ] at t0 t1 t2
      go_wp2_with fail
      refine bodyPost_ret (v := .tuple #[VA.val ⟨xk, xf, xn, xw, xla, xln, xlc, xma, xmn, xmc⟩, .int .i64 8]) (by simp [results, Tryz.results38, go_sem, e0, e1, e2, e3, e4, e5, ef, r0, r1, r2, r3, r4, r5, rf]) rfl (RChg.of HEQ.out (y := ⟨xk, xf, xn, xw, xla, xln, xlc, xma, xmn, xmc⟩) (Tree.upto (by omega) (Tree.imp (G := fun g => G g ∧ g < xb) (fun g hg _ => hg.1) _ _ _ HT.out)) ?_)
      repeat (with_reducible (first | exact HM.out | (refine Mod.setCell ?_ (.inr (by first | omega | (dsimp only; omega) | skip)) _)))
  | some ua =>
    have HGS : Hid (∀ W, New w4 W → Calls Tryz.prog 59 #[VA.val ⟨xk, xf, xn, xw, xla, xln, xlc, xma, xmn, xmc⟩, .slice (some ⟨g, o, none⟩) 1 pc] W fun e w' => ∃ y : VA, e = .returned (.tuple #[y.val, .bool true]) ∧ Tree w' (fun g => G g ∧ g < xb) d y ua ∧ New W w') := Lib.hid (fun W h => (HGET.out W h).mono (fun e w' hq => by
      rcases hq with ⟨h1, -, -⟩ | ⟨u2, y2, h1, h2, h3, h4⟩
      · rw [hat] at h1; cases h1
      · rw [hat] at h1; injection h1 with h1; subst h1; exact ⟨y2, h2, h3, h4⟩))
    have hdp := getR_deep hat HT.out.deep HWD.out
    have HGA := Lib.hid (Good.at HG.out (by rw [at_eq HG.out.1]; exact hat))
    have HWA := Lib.hid hdp.2.1
    have HRC : Hid (R = (withR v ⟨nm, sn, (k : Int)⟩ (rchg ck u (t :: q) ua).1, (rchg ck u (t :: q) ua).2)) := Lib.hid (by rw [HRR.out, hat])
    have HKL : Hid ((⟨nm, sn, (k : Int)⟩ : St).named = false → (⟨nm, sn, (k : Int)⟩ : St).at_.toNat ≤ v.list.length) := Lib.hid (fun hnm => by
      rw [getR4 hnm] at hat
      obtain ⟨h, -⟩ := List.getElem?_eq_some_iff.1 hat
      exact Nat.le_of_lt h)
    clear hat hdp
    go_cut [9, 10] (fun s9 s10 wx => ∃ (b9 : Nat) (y : VA), s9 = .pointer (some ⟨b9, 0, none⟩) ∧ s10 = .bool true ∧ Hid (Blk wx b9 29 y.cells) ∧ sb < b9 ∧ Hid (Tree wx (fun g => G g ∧ g < xb) d y ua) ∧ Hid (New w4 wx))
    case first =>
      refine wp_region_held_tree (New w4) 9 (by kernel_rfl) (by kernel_rfl) ?_
      have hn0 : New w4 w4.drew := (Mod.refl _ _).drew
      refine headW_take 0 _ ?_ (fun _ _ d _ _ h => by cases d <;> exact h) (by kernel_rfl) rfl (by kernel_rfl) hn0 (by rfl) (fun W hSw => ?_) ?_
      rotate_left
      · (have hq := HSR2.out W hSw); (try simp only [List.getElem_toArray, List.getElem_cons_zero, List.getElem_cons_succ]); go_simp; any_goals (with_reducible rfl)
      simp only [Act.put, List.getElem_toArray, List.getElem_cons_zero, List.getElem_cons_succ, List.setIfInBounds_toArray, List.set_cons_zero, List.set_cons_succ]
      refine headW_take 1 _ ?_ (fun _ _ d _ _ h => by cases d <;> exact h) (by kernel_rfl) rfl (by kernel_rfl) hn0 (by rfl) (fun W hSw => ?_) ?_
      rotate_left
      · (have hq := HSR2.out W hSw); (try simp only [List.getElem_toArray, List.getElem_cons_zero, List.getElem_cons_succ]); go_simp; any_goals (with_reducible rfl)
      simp only [Act.put, List.getElem_toArray, List.getElem_cons_zero, List.getElem_cons_succ, List.setIfInBounds_toArray, List.set_cons_zero, List.set_cons_succ]
      refine headW_take 2 _ ?_ (fun _ _ d _ _ h => by cases d <;> exact h) (by kernel_rfl) rfl (by kernel_rfl) hn0 (by rfl) (fun W hSw => ?_) ?_
      rotate_left
      · (have hq := HSR2.out W hSw); (try simp only [List.getElem_toArray, List.getElem_cons_zero, List.getElem_cons_succ]); go_simp; any_goals (with_reducible rfl)
      simp only [Act.put, List.getElem_toArray, List.getElem_cons_zero, List.getElem_cons_succ, List.setIfInBounds_toArray, List.set_cons_zero, List.set_cons_succ]
      refine headW_ready [3, 7] (by kernel_rfl) (by rfl) ?_
      refine eachW_step rfl rfl (fun K hK => ?_) (eachW_step rfl rfl (fun K hK => ?_) eachW_nil)
      · (try simp only [List.getElem_toArray, List.getElem_cons_zero, List.getElem_cons_succ])
        go_simp
        refine (HGS.out _ hn0).mono ?_
        rintro e w5 ⟨⟨zk, zf, zn, zw, zla, zln, zlc, zma, zmn, zmc⟩, rfl, hpt, m5⟩
        have n5 : New w4 w5 := hn0.trans m5
        go_wp2_with fail
        refine hK.out _ _ n5 (fun _ => ?_)
        clear hK K
        (try simp only [Act.put, List.getElem_toArray, List.getElem_cons_zero, List.getElem_cons_succ, List.setIfInBounds_toArray, List.set_cons_zero, List.set_cons_succ])
        refine headW_take 4 _ ?_ (fun _ _ d _ _ h => by cases d <;> exact h) (by kernel_rfl) rfl (by kernel_rfl) n5 (by rfl) (fun W hSw => ?_) ?_
        rotate_left
        · (have hq := HSR2.out W hSw); (try simp only [List.getElem_toArray, List.getElem_cons_zero, List.getElem_cons_succ]); go_simp; any_goals (with_reducible rfl)
        simp only [Act.put, List.getElem_toArray, List.getElem_cons_zero, List.getElem_cons_succ, List.setIfInBounds_toArray, List.set_cons_zero, List.set_cons_succ]
        refine headW_take 5 _ ?_ (fun _ _ d _ _ h => by cases d <;> exact h) (by kernel_rfl) rfl (by kernel_rfl) n5 (by rfl) (fun W hSw => ?_) ?_
        rotate_left
        · (have hq := HSR2.out W hSw); (try simp only [List.getElem_toArray, List.getElem_cons_zero, List.getElem_cons_succ]); go_simp; any_goals (with_reducible rfl)
        simp only [Act.put, List.getElem_toArray, List.getElem_cons_zero, List.getElem_cons_succ, List.setIfInBounds_toArray, List.set_cons_zero, List.set_cons_succ]
        refine headW_take 6 _ ?_ (fun _ _ d _ _ h => by cases d <;> exact h) (by kernel_rfl) rfl (by kernel_rfl) n5 (by rfl) (fun W hSw => ?_) ?_
        rotate_left
        · (have hq := HSR2.out W hSw); (try simp only [List.getElem_toArray, List.getElem_cons_zero, List.getElem_cons_succ]); go_simp; any_goals (with_reducible rfl)
        simp only [Act.put, List.getElem_toArray, List.getElem_cons_zero, List.getElem_cons_succ, List.setIfInBounds_toArray, List.set_cons_zero, List.set_cons_succ]
        refine headW_ready [7] (by kernel_rfl) (by rfl) ?_
        refine eachW_step rfl rfl (fun K hK => ?_) eachW_nil
        (try simp only [List.getElem_toArray, List.getElem_cons_zero, List.getElem_cons_succ])
        go_simp
        refine hK.out _ _ (n5.alloc _) (fun _ => ?_)
        clear hK K
        (try simp only [Act.put, List.getElem_toArray, List.getElem_cons_zero, List.getElem_cons_succ, List.setIfInBounds_toArray, List.set_cons_zero, List.set_cons_succ])
        refine headW_ready [8] (by kernel_rfl) (by rfl) ?_
        refine eachW_step rfl rfl (fun K hK => ?_) eachW_nil
        (try simp only [List.getElem_toArray, List.getElem_cons_zero, List.getElem_cons_succ])
        go_simp
        refine hK.out _ _ (n5.alloc _) (fun _ => ?_)
        clear hK K
        (try simp only [Act.put, List.getElem_toArray, List.getElem_cons_zero, List.getElem_cons_succ, List.setIfInBounds_toArray, List.set_cons_zero, List.set_cons_succ])
        refine headW_done (by kernel_rfl) ?_
        go_wp2_with fail
        go_meet
        case rel => exact ⟨_, ⟨zk, zf, zn, zw, zla, zln, zlc, zma, zmn, zmc⟩, rfl, rfl, Lib.hid (Blk.new _ _ _), by have := n5.size; omega, Lib.hid (hpt.new ((Mod.refl _ _).alloc _)), Lib.hid (n5.alloc _)⟩
      · (try simp only [List.getElem_toArray, List.getElem_cons_zero, List.getElem_cons_succ])
        go_simp
        have bz0 := Blk.new w4 29 #[.int .i64 0, .bool false, .int .i64 0, .string ⟨#[]⟩, .slice none 0 0, .slice none 0 0]
        have n4 : New w4 (World.drew (w4.alloc (.cells #[.int .i64 0, .bool false, .int .i64 0, .string ⟨#[]⟩, .slice none 0 0, .slice none 0 0] 29))) := ((Mod.refl _ _).alloc _).drew
        have n4b : New (w4.alloc (.cells #[.int .i64 0, .bool false, .int .i64 0, .string ⟨#[]⟩, .slice none 0 0, .slice none 0 0] 29)) (World.drew (w4.alloc (.cells #[.int .i64 0, .bool false, .int .i64 0, .string ⟨#[]⟩, .slice none 0 0, .slice none 0 0] 29))) := (Mod.refl _ _).drew
        refine hK.out _ _ n4 (fun _ => ?_)
        clear hK K
        (try simp only [Act.put, List.getElem_toArray, List.getElem_cons_zero, List.getElem_cons_succ, List.setIfInBounds_toArray, List.set_cons_zero, List.set_cons_succ])
        refine headW_ready [3] (by kernel_rfl) (by rfl) ?_
        refine eachW_step rfl rfl (fun K hK => ?_) eachW_nil
        (try simp only [List.getElem_toArray, List.getElem_cons_zero, List.getElem_cons_succ])
        go_simp
        refine (HGS.out _ n4).mono ?_
        rintro e w5 ⟨⟨zk, zf, zn, zw, zla, zln, zlc, zma, zmn, zmc⟩, rfl, hpt, m5⟩
        have n5 : New w4 w5 := n4.trans m5
        have bz := (bz0.mod n4b (fun e => e)).mod m5 (fun e => e)
        have z0 := bz.cell 0
        have z1 := bz.cell 1
        have z2 := bz.cell 2
        have z3 := bz.cell 3
        have z4 := bz.cell 4
        have z5 := bz.cell 5
        have zl := bz.lt
        have zfr := bz.frozen
        simp only [List.getElem?_toArray, List.getElem?_cons_zero, List.getElem?_cons_succ] at z0 z1 z2 z3 z4 z5
        have n6 : New w4 ((((((w5.setCell ⟨w4.heap.size, 0, none⟩ (.int .i64 zk)).setCell ⟨w4.heap.size, 1, none⟩ (.bool zf)).setCell ⟨w4.heap.size, 2, none⟩ (.int .i64 zn)).setCell ⟨w4.heap.size, 3, none⟩ (.string zw)).setCell ⟨w4.heap.size, 4, none⟩ (.slice zla zln zlc)).setCell ⟨w4.heap.size, 5, none⟩ (.slice zma zmn zmc)) := Mod.setCell (Mod.setCell (Mod.setCell (Mod.setCell (Mod.setCell (Mod.setCell n5 (.inr (Nat.le_refl _)) _) (.inr (Nat.le_refl _)) _) (.inr (Nat.le_refl _)) _) (.inr (Nat.le_refl _)) _) (.inr (Nat.le_refl _)) _) (.inr (Nat.le_refl _)) _
        clear bz0 n4b
        go_wp2_with fail
        refine hK.out _ _ n5 (fun _ => ?_)
        clear hK K
        (try simp only [Act.put, List.getElem_toArray, List.getElem_cons_zero, List.getElem_cons_succ, List.setIfInBounds_toArray, List.set_cons_zero, List.set_cons_succ])
        refine headW_take 4 _ ?_ (fun _ _ d _ _ h => by cases d <;> exact h) (by kernel_rfl) rfl (by kernel_rfl) n5 (by rfl) (fun W hSw => ?_) ?_
        rotate_left
        · (have hq := HSR2.out W hSw); (try simp only [List.getElem_toArray, List.getElem_cons_zero, List.getElem_cons_succ]); go_simp; any_goals (with_reducible rfl)
        simp only [Act.put, List.getElem_toArray, List.getElem_cons_zero, List.getElem_cons_succ, List.setIfInBounds_toArray, List.set_cons_zero, List.set_cons_succ]
        refine headW_take 5 _ ?_ (fun _ _ d _ _ h => by cases d <;> exact h) (by kernel_rfl) rfl (by kernel_rfl) n5 (by rfl) (fun W hSw => ?_) ?_
        rotate_left
        · (have hq := HSR2.out W hSw); (try simp only [List.getElem_toArray, List.getElem_cons_zero, List.getElem_cons_succ]); go_simp; any_goals (with_reducible rfl)
        simp only [Act.put, List.getElem_toArray, List.getElem_cons_zero, List.getElem_cons_succ, List.setIfInBounds_toArray, List.set_cons_zero, List.set_cons_succ]
        refine headW_take 6 _ ?_ (fun _ _ d _ _ h => by cases d <;> exact h) (by kernel_rfl) rfl (by kernel_rfl) n5 (by rfl) (fun W hSw => ?_) ?_
        rotate_left
        · (have hq := HSR2.out W hSw); (try simp only [List.getElem_toArray, List.getElem_cons_zero, List.getElem_cons_succ]); go_simp; any_goals (with_reducible rfl)
        simp only [Act.put, List.getElem_toArray, List.getElem_cons_zero, List.getElem_cons_succ, List.setIfInBounds_toArray, List.set_cons_zero, List.set_cons_succ]
        refine headW_ready [8] (by kernel_rfl) (by rfl) ?_
        refine eachW_step rfl rfl (fun K hK => ?_) eachW_nil
        (try simp only [List.getElem_toArray, List.getElem_cons_zero, List.getElem_cons_succ])
        go_simp
        refine hK.out _ _ n6 (fun _ => ?_)
        clear hK K
        (try simp only [Act.put, List.getElem_toArray, List.getElem_cons_zero, List.getElem_cons_succ, List.setIfInBounds_toArray, List.set_cons_zero, List.set_cons_succ])
        refine headW_done (by kernel_rfl) ?_
        go_wp2_with fail
        go_meet
        case rel => exact ⟨_, ⟨zk, zf, zn, zw, zla, zln, zlc, zma, zmn, zmc⟩, rfl, rfl, Lib.hid (Blk.copy6 bz _ _ _ _ _ _), by omega, Lib.hid (Tree.mod (Only.cell6 w5 w4.heap.size _ _ _ _ _ _) (fun i hi _ e => by have := hi.2; omega) _ _ _ hpt), Lib.hid n6⟩
    case rest =>
      rename World => wx
      obtain ⟨b9, y9, rfl, rfl, HB9, hb9, HT9, HNX⟩ := hcut
      have nx := HNX.out
      have hB4 : xb + 1 + 1 < wx.heap.size := Nat.lt_of_lt_of_le HR.out.lt nx.size
      have e0 := HX.out.cell 0
      have e1 := HX.out.cell 1
      have e2 := HX.out.cell 2
      have e3 := HX.out.cell 3
      have e4 := HX.out.cell 4
      have e5 := HX.out.cell 5
      have el := HX.out.lt
      have ef := HX.out.frozen
      have c0 := HC.out.cell 0
      have c1 := HC.out.cell 1
      have c2 := HC.out.cell 2
      have c3 := HC.out.cell 3
      have c4 := HC.out.cell 4
      have c5 := HC.out.cell 5
      have c6 := HC.out.cell 6
      have c7 := HC.out.cell 7
      have cl := HC.out.lt
      have r0 := HR.out.cell 0
      have r1 := HR.out.cell 1
      have r2 := HR.out.cell 2
      have r3 := HR.out.cell 3
      have r4 := HR.out.cell 4
      have r5 := HR.out.cell 5
      have rl := HR.out.lt
      have rf := HR.out.frozen
      simp only [List.getElem?_toArray, List.getElem?_cons_zero, List.getElem?_cons_succ] at e0 e1 e2 e3 e4 e5 c0 c1 c2 c3 c4 c5 c6 c7 r0 r1 r2 r3 r4 r5
      have t0 := HSB.out.cell 0
      have t1 := HSB.out.cell 1
      have t2 := HSB.out.cell 2
      have tl := HSB.out.lt
      simp only [List.getElem?_toArray, List.getElem?_cons_zero, List.getElem?_cons_succ] at t0 t1 t2
      have HX1 := Lib.hid (HX.out.mod nx (fun e => e))
      have HC1 := Lib.hid (HC.out.mod nx (fun e => e))
      have HR1 := Lib.hid (HR.out.mod nx (fun e => e))
      have HS1 := Lib.hid (HSB.out.mod nx (fun e => e))
      have HM1 := Lib.hid (HM.out.trans nx)
      clear e0 e1 e2 e3 e4 e5 el ef c0 c1 c2 c3 c4 c5 c6 c7 cl r0 r1 r2 r3 r4 r5 rl rf
      clear t0 t1 t2 tl
      clear HX HC HR HSB HM
      have HX := HX1
      have HC := HC1
      have HR := HR1
      have HSB := HS1
      have HM := HM1
      clear HX1 HC1 HR1 HS1 HM1
      have hsz := HM.out.size
      obtain ⟨y9k, y9f, y9n, y9w, y9la, y9ln, y9lc, y9ma, y9mn, y9mc⟩ := y9
      have hsbx : xb + 1 + 1 < b9 := by omega
      have hb9x : b9 < wx.heap.size := HB9.out.lt
      have HREC : Hid (∀ W, New wx W → Calls Tryz.prog 38 #[VA.val ⟨y9k, y9f, y9n, y9w, y9la, y9ln, y9lc, y9ma, y9mn, y9mc⟩, .slice (some ⟨g, o + 3, none⟩) (n - 1) (pc - 1), CA.val ⟨ck, ca, cn, cc, ⟨yk, yf, yn, yw, yla, yln, ylc, yma, ymn, ymc⟩⟩] W (RChg (fun g => G g ∧ g < xb) (d + dc) W (rchg ck u (t :: q) ua))) := Lib.hid (fun W h =>
        HIH.out (fun g => G g ∧ g < xb) d ⟨y9k, y9f, y9n, y9w, y9la, y9ln, y9lc, y9ma, y9mn, y9mc⟩ ua (some ⟨g, o + 3, none⟩) (n - 1) (pc - 1) W (HT9.out.new h) HGA.out HWA.out (HU.out.new (HM.out.trans h)) (by
          have h9 := (HSO4.out.new HNX.out).new h
          rw [show n = (n - 1) + 1 by omega] at h9
          exact h9.tail) (by omega) (by omega))
      have hc3 : (1 : Int) ≤ n := by omega
      have hc4 : (n : Int) ≤ pc := by omega
      have hc5 : 1 ≤ n := by omega
      have hc6 : ¬ pc = 1 := by omega
      generalize hre : rchg ck u (t :: q) ua = r at *
      obtain ⟨r1v, r2e⟩ := r
      simp only at HRC
      have HSR3 : Hid (∀ W, Mod (fun i => i = b9) wx W → (
        W.cell? ⟨xb, 0, none⟩ = some (.int .i64 xk) ∧ W.cell? ⟨xb, 1, none⟩ = some (.bool xf) ∧ W.cell? ⟨xb, 2, none⟩ = some (.int .i64 xn) ∧ W.cell? ⟨xb, 3, none⟩ = some (.string xw) ∧ W.cell? ⟨xb, 4, none⟩ = some (.slice xla xln xlc) ∧ W.cell? ⟨xb, 5, none⟩ = some (.slice xma xmn xmc) ∧
        W.cell? ⟨xb + 1, 0, none⟩ = some (.int .i64 ck) ∧ W.cell? ⟨xb + 1, 1, none⟩ = some (.slice ca cn cc) ∧ W.cell? ⟨xb + 1, 2, none⟩ = some (.int .i64 yk) ∧ W.cell? ⟨xb + 1, 3, none⟩ = some (.bool yf) ∧ W.cell? ⟨xb + 1, 4, none⟩ = some (.int .i64 yn) ∧ W.cell? ⟨xb + 1, 5, none⟩ = some (.string yw) ∧ W.cell? ⟨xb + 1, 6, none⟩ = some (.slice yla yln ylc) ∧ W.cell? ⟨xb + 1, 7, none⟩ = some (.slice yma ymn ymc) ∧
        W.cell? ⟨sb, 0, none⟩ = some (.bool nm) ∧ W.cell? ⟨sb, 1, none⟩ = some (.string sn) ∧ W.cell? ⟨sb, 2, none⟩ = some (.int .i64 k) ∧ sb < W.heap.size ∧ xb < W.heap.size ∧ xb + 1 < W.heap.size
        )) := Lib.hid (fun W hW => by
        have h1 := HX.out.mod hW (by omega)
        have h2 := HC.out.mod hW (by omega)
        have h3 := HSB.out.mod hW (by omega)
        exact ⟨(h1.cell 0).trans rfl, (h1.cell 1).trans rfl, (h1.cell 2).trans rfl, (h1.cell 3).trans rfl, (h1.cell 4).trans rfl, (h1.cell 5).trans rfl, (h2.cell 0).trans rfl, (h2.cell 1).trans rfl, (h2.cell 2).trans rfl, (h2.cell 3).trans rfl, (h2.cell 4).trans rfl, (h2.cell 5).trans rfl, (h2.cell 6).trans rfl, (h2.cell 7).trans rfl, (h3.cell 0).trans rfl, (h3.cell 1).trans rfl, (h3.cell 2).trans rfl, h3.lt, h1.lt, h2.lt⟩)
      go_upto_region 8 with (fail)
      go_cut [11] (fun s11 wz => ∃ y : VA, s11 = .int .i64 r2e ∧ Hid (Blk wz b9 29 y.cells) ∧ Hid (Tree wz (fun g => (G g ∧ g < xb) ∨ b9 < g) (d + dc) y r1v) ∧ Hid (Mod (fun i => i = b9) wx wz))
      case first =>
        refine wp_region_held_tree (Mod (fun i => i = b9) wx) 9 (by kernel_rfl) (by kernel_rfl) ?_
        have hn0 : Mod (fun i => i = b9) wx wx.drew := (Mod.refl _ _).drew
        have hn1 : New wx wx.drew := (Mod.refl _ _).drew
        refine headW_take 1 _ ?_ (fun _ _ d _ _ h => by cases d <;> exact h) (by kernel_rfl) rfl (by kernel_rfl) hn0 (by rfl) (fun W hSw => ?_) ?_
        rotate_left
        · (have hq := HSR3.out W hSw); (try simp only [List.getElem_toArray, List.getElem_cons_zero, List.getElem_cons_succ]); go_simp; any_goals (with_reducible rfl)
        simp only [Act.put, List.getElem_toArray, List.getElem_cons_zero, List.getElem_cons_succ, List.setIfInBounds_toArray, List.set_cons_zero, List.set_cons_succ]
        refine headW_take 2 _ ?_ (fun _ _ d _ _ h => by cases d <;> exact h) (by kernel_rfl) rfl (by kernel_rfl) hn0 (by rfl) (fun W hSw => ?_) ?_
        rotate_left
        · (have hq := HSR3.out W hSw); (try simp only [List.getElem_toArray, List.getElem_cons_zero, List.getElem_cons_succ]); go_simp; any_goals (with_reducible rfl)
        simp only [Act.put, List.getElem_toArray, List.getElem_cons_zero, List.getElem_cons_succ, List.setIfInBounds_toArray, List.set_cons_zero, List.set_cons_succ]
        refine headW_take 3 _ ?_ (fun _ _ d _ _ h => by cases d <;> exact h) (by kernel_rfl) rfl (by kernel_rfl) hn0 (by rfl) (fun W hSw => ?_) ?_
        rotate_left
        · (have hq := HSR3.out W hSw); (try simp only [List.getElem_toArray, List.getElem_cons_zero, List.getElem_cons_succ]); go_simp; any_goals (with_reducible rfl)
        simp only [Act.put, List.getElem_toArray, List.getElem_cons_zero, List.getElem_cons_succ, List.setIfInBounds_toArray, List.set_cons_zero, List.set_cons_succ]
        have h9 := HB9.out
        simp only [VA.cells] at h9
        have d0 := h9.cell 0
        have d1 := h9.cell 1
        have d2 := h9.cell 2
        have d3 := h9.cell 3
        have d4 := h9.cell 4
        have d5 := h9.cell 5
        simp only [List.getElem?_toArray, List.getElem?_cons_zero, List.getElem?_cons_succ] at d0 d1 d2 d3 d4 d5
        refine headW_ready [0] (by kernel_rfl) (by rfl) ?_
        refine eachW_step rfl rfl (fun K hK => ?_) eachW_nil
        (try simp only [List.getElem_toArray, List.getElem_cons_zero, List.getElem_cons_succ])
        go_simp
        refine hK.out _ _ hn0 (fun _ => ?_)
        clear hK K
        (try simp only [Act.put, List.getElem_toArray, List.getElem_cons_zero, List.getElem_cons_succ, List.setIfInBounds_toArray, List.set_cons_zero, List.set_cons_succ])
        clear d0 d1 d2 d3 d4 d5
        refine headW_ready [4] (by kernel_rfl) (by rfl) ?_
        refine eachW_step rfl rfl (fun K hK => ?_) eachW_nil
        (try simp only [List.getElem_toArray, List.getElem_cons_zero, List.getElem_cons_succ])
        go_simp
        refine (HREC.out _ hn1).mono ?_
        rintro e w5 ⟨⟨zk, zf, zn, zw, zla, zln, zlc, zma, zmn, zmc⟩, rfl, hty, m5⟩
        have n5 : New wx w5 := hn1.trans m5
        have n5m : Mod (fun i => i = b9) wx w5 := n5.mono (fun _ _ e => e.elim)
        go_wp2_with fail
        refine hK.out _ _ n5m (fun _ => ?_)
        clear hK K
        (try simp only [Act.put, List.getElem_toArray, List.getElem_cons_zero, List.getElem_cons_succ, List.setIfInBounds_toArray, List.set_cons_zero, List.set_cons_succ])
        refine headW_take 5 _ ?_ (fun _ _ d _ _ h => by cases d <;> exact h) (by kernel_rfl) rfl (by kernel_rfl) n5m (by rfl) (fun W hSw => ?_) ?_
        rotate_left
        · (have hq := HSR3.out W hSw); (try simp only [List.getElem_toArray, List.getElem_cons_zero, List.getElem_cons_succ]); go_simp; any_goals (with_reducible rfl)
        simp only [Act.put, List.getElem_toArray, List.getElem_cons_zero, List.getElem_cons_succ, List.setIfInBounds_toArray, List.set_cons_zero, List.set_cons_succ]
        refine headW_take 6 _ ?_ (fun _ _ d _ _ h => by cases d <;> exact h) (by kernel_rfl) rfl (by kernel_rfl) n5m (by rfl) (fun W hSw => ?_) ?_
        rotate_left
        · (have hq := HSR3.out W hSw); (try simp only [List.getElem_toArray, List.getElem_cons_zero, List.getElem_cons_succ]); go_simp; any_goals (with_reducible rfl)
        simp only [Act.put, List.getElem_toArray, List.getElem_cons_zero, List.getElem_cons_succ, List.setIfInBounds_toArray, List.set_cons_zero, List.set_cons_succ]
        refine headW_take 7 _ ?_ (fun _ _ d _ _ h => by cases d <;> exact h) (by kernel_rfl) rfl (by kernel_rfl) n5m (by rfl) (fun W hSw => ?_) ?_
        rotate_left
        · (have hq := HSR3.out W hSw); (try simp only [List.getElem_toArray, List.getElem_cons_zero, List.getElem_cons_succ]); go_simp; any_goals (with_reducible rfl)
        simp only [Act.put, List.getElem_toArray, List.getElem_cons_zero, List.getElem_cons_succ, List.setIfInBounds_toArray, List.set_cons_zero, List.set_cons_succ]
        have h5 := h9.mod n5 (fun e => e)
        have d0 := h5.cell 0
        have d1 := h5.cell 1
        have d2 := h5.cell 2
        have d3 := h5.cell 3
        have d4 := h5.cell 4
        have d5 := h5.cell 5
        have dl := h5.lt
        have df := h5.frozen
        simp only [List.getElem?_toArray, List.getElem?_cons_zero, List.getElem?_cons_succ] at d0 d1 d2 d3 d4 d5
        have n6 := n5m.trans (Only.cell6 w5 b9 (.int .i64 zk) (.bool zf) (.int .i64 zn) (.string zw) (.slice zla zln zlc) (.slice zma zmn zmc))
        refine headW_ready [8] (by kernel_rfl) (by rfl) ?_
        refine eachW_step rfl rfl (fun K hK => ?_) eachW_nil
        (try simp only [List.getElem_toArray, List.getElem_cons_zero, List.getElem_cons_succ])
        go_simp
        refine hK.out _ _ n6 (fun _ => ?_)
        clear hK K
        (try simp only [Act.put, List.getElem_toArray, List.getElem_cons_zero, List.getElem_cons_succ, List.setIfInBounds_toArray, List.set_cons_zero, List.set_cons_succ])
        refine headW_done (by kernel_rfl) ?_
        go_wp2_with fail
        go_meet
        case rel => exact ⟨⟨zk, zf, zn, zw, zla, zln, zlc, zma, zmn, zmc⟩, rfl, Lib.hid (Blk.copy6 h5 _ _ _ _ _ _), Lib.hid (Tree.mod (Only.cell6 w5 b9 _ _ _ _ _ _) (fun g9 h9 _ e => Or.elim h9 (fun h => by have := h.2; omega) (fun h => by omega)) _ _ _ (Tree.imp (fun g9 h9 _ => Or.elim h9 (fun h => Or.inl h) (fun h => Or.inr (by have hz : wx.drew.heap.size = wx.heap.size := rfl; omega))) _ _ _ hty)), Lib.hid n6⟩
      case rest =>
        rename World => wz
        obtain ⟨y10, rfl, HB10, HT10, HMZ⟩ := hcut
        obtain ⟨tk, tf, tn, tw, tla, tln, tlc, tma, tmn, tmc⟩ := y10
        have HXZ := Lib.hid (HX.out.mod HMZ.out (by omega))
        have HCZ := Lib.hid (HC.out.mod HMZ.out (by omega))
        have HRZ := Lib.hid (HR.out.mod HMZ.out (by omega))
        have HSZ := Lib.hid (HSB.out.mod HMZ.out (by omega))
        have HMM := Lib.hid (HM.out.step HMZ.out (fun i hi e => by omega))
        have HTXZ : Hid (Tree wz (fun g => (G g ∧ g < xb) ∨ b9 < g) (d + dc + 1) ⟨xk, xf, xn, xw, xla, xln, xlc, xma, xmn, xmc⟩ v) := Lib.hid (Tree.upto (by omega) (Tree.imp (fun g hg _ => .inl hg) _ _ _ (Tree.mod HMZ.out (fun g hg _ e => by have := hg.2; omega) _ _ _ (HT.out.new HM.out))))
        clear HX HC HR HSB HM
        have HX := HXZ
        have HC := HCZ
        have HR := HRZ
        have HSB := HSZ
        have HM := HMM
        clear HXZ HCZ HRZ HSZ HMM
        have hzz := HMZ.out.size
        have hwith := with_v (fun g => (G g ∧ g < xb) ∨ b9 < g) (d + dc) ⟨xk, xf, xn, xw, xla, xln, xlc, xma, xmn, xmc⟩ ⟨tk, tf, tn, tw, tla, tln, tlc, tma, tmn, tmc⟩ v r1v ⟨nm, sn, (k : Int)⟩ wz HTXZ.out HT10.out (own_idle HG.out.1).2.2 HWD.out.2.1 (by have := HWD.out.1; omega) (by simp only; omega) HKL.out
        have h10 := HB10.out
        simp only [VA.cells] at h10
        have d0 := h10.cell 0
        have d1 := h10.cell 1
        have d2 := h10.cell 2
        have d3 := h10.cell 3
        have d4 := h10.cell 4
        have d5 := h10.cell 5
        have dl := h10.lt
        simp only [List.getElem?_toArray, List.getElem?_cons_zero, List.getElem?_cons_succ] at d0 d1 d2 d3 d4 d5
        clear h10
        have e0 := HX.out.cell 0
        have e1 := HX.out.cell 1
        have e2 := HX.out.cell 2
        have e3 := HX.out.cell 3
        have e4 := HX.out.cell 4
        have e5 := HX.out.cell 5
        have el := HX.out.lt
        have ef := HX.out.frozen
        have c0 := HC.out.cell 0
        have c1 := HC.out.cell 1
        have c2 := HC.out.cell 2
        have c3 := HC.out.cell 3
        have c4 := HC.out.cell 4
        have c5 := HC.out.cell 5
        have c6 := HC.out.cell 6
        have c7 := HC.out.cell 7
        have cl := HC.out.lt
        have r0 := HR.out.cell 0
        have r1 := HR.out.cell 1
        have r2 := HR.out.cell 2
        have r3 := HR.out.cell 3
        have r4 := HR.out.cell 4
        have r5 := HR.out.cell 5
        have rl := HR.out.lt
        have rf := HR.out.frozen
        simp only [List.getElem?_toArray, List.getElem?_cons_zero, List.getElem?_cons_succ] at e0 e1 e2 e3 e4 e5 c0 c1 c2 c3 c4 c5 c6 c7 r0 r1 r2 r3 r4 r5
        have t0 := HSB.out.cell 0
        have t1 := HSB.out.cell 1
        have t2 := HSB.out.cell 2
        have tl := HSB.out.lt
        simp only [List.getElem?_toArray, List.getElem?_cons_zero, List.getElem?_cons_succ] at t0 t1 t2
        go_wp2_with fail
        refine hwith.mono ?_
        clear hwith
        rintro e w7 ⟨⟨zk, zf, zn, zw, zla, zln, zlc, zma, zmn, zmc⟩, rfl, htz, m7⟩
        have HTZ := Lib.hid htz
        clear d0 d1 d2 d3 d4 d5 dl
        have HX1 := Lib.hid (HX.out.mod m7 (fun e => e))
        have HC1 := Lib.hid (HC.out.mod m7 (fun e => e))
        have HR1 := Lib.hid (HR.out.mod m7 (fun e => e))
        have HS1 := Lib.hid (HSB.out.mod m7 (fun e => e))
        have HM1 := Lib.hid (HM.out.trans m7)
        clear e0 e1 e2 e3 e4 e5 el ef c0 c1 c2 c3 c4 c5 c6 c7 cl r0 r1 r2 r3 r4 r5 rl rf
        clear t0 t1 t2 tl
        clear HX HC HR HSB HM
        have HX := HX1
        have HC := HC1
        have HR := HR1
        have HSB := HS1
        have HM := HM1
        clear HX1 HC1 HR1 HS1 HM1
        have e0 := HX.out.cell 0
        have e1 := HX.out.cell 1
        have e2 := HX.out.cell 2
        have e3 := HX.out.cell 3
        have e4 := HX.out.cell 4
        have e5 := HX.out.cell 5
        have el := HX.out.lt
        have ef := HX.out.frozen
        have c0 := HC.out.cell 0
        have c1 := HC.out.cell 1
        have c2 := HC.out.cell 2
        have c3 := HC.out.cell 3
        have c4 := HC.out.cell 4
        have c5 := HC.out.cell 5
        have c6 := HC.out.cell 6
        have c7 := HC.out.cell 7
        have cl := HC.out.lt
        have r0 := HR.out.cell 0
        have r1 := HR.out.cell 1
        have r2 := HR.out.cell 2
        have r3 := HR.out.cell 3
        have r4 := HR.out.cell 4
        have r5 := HR.out.cell 5
        have rl := HR.out.lt
        have rf := HR.out.frozen
        simp only [List.getElem?_toArray, List.getElem?_cons_zero, List.getElem?_cons_succ] at e0 e1 e2 e3 e4 e5 c0 c1 c2 c3 c4 c5 c6 c7 r0 r1 r2 r3 r4 r5
        have t0 := HSB.out.cell 0
        have t1 := HSB.out.cell 1
        have t2 := HSB.out.cell 2
        have tl := HSB.out.lt
        simp only [List.getElem?_toArray, List.getElem?_cons_zero, List.getElem?_cons_succ] at t0 t1 t2
        clear htz m7
        go_wp2_with fail
        refine bodyPost_ret (v := .tuple #[VA.val ⟨zk, zf, zn, zw, zla, zln, zlc, zma, zmn, zmc⟩, .int .i64 r2e]) (by simp [results, Tryz.results38, go_sem, e0, e1, e2, e3, e4, e5, ef, r0, r1, r2, r3, r4, r5, rf]) rfl (RChg.to HRC.out (y := ⟨zk, zf, zn, zw, zla, zln, zlc, zma, zmn, zmc⟩) (Tree.imp (G := fun g => ((G g ∧ g < xb) ∨ b9 < g) ∨ wz.heap.size ≤ g) (fun g hg _ => by rcases hg with (h | h) | h; exact .inl h.1; exact .inr (by omega); exact .inr (by omega)) _ _ _ (Tree.upto (show d + dc + 1 ≤ d + 1 + dc by omega) (Tree.mod (S := fun k => k = xb + 1 + 1) ?_ (fun g hg _ q => by rcases hg with (h | h) | h <;> omega) _ _ _ HTZ.out))) ?_)
        · repeat (with_reducible (first | exact Mod.refl _ _ | (refine Mod.setCell ?_ (.inl (by first | rfl | omega | (dsimp only; omega) | skip)) _)))
        · repeat (with_reducible (first | exact HM.out | (refine Mod.setCell ?_ (.inr (by first | omega | (dsimp only; omega) | skip)) _)))

theorem rchg_v (dc : Nat) (c : CA) (u : VT) (hk : 1 ≤ c.kind ∧ c.kind ≤ 3) : ∀ p : List St, (∀ s ∈ p, 0 ≤ s.at_ ∧ s.at_ ≤ 5000) → (c.kind = 2 → lastNamed p = false) → RgSpec dc c u p
  | [], _, _ => rchg_none dc c u
  | [s], h, h2 => rchg_one dc c u s (h s (by simp)) hk (fun e => by have := h2 e; simpa [lastNamed] using this)
  | s :: t :: q, h, h2 => rchg_more dc c u s t q (h s (by simp)) (rchg_v dc c u hk (t :: q) (fun x hx => h x (List.mem_cons_of_mem _ hx)) (fun e => by have := h2 e; simpa [lastNamed] using this))

end Go.Proofs.YtahofcopedlenaaGreatDoor
