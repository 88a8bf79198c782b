/- One change at a path (the program): value.changed. Conditions: a value that is right, rows of at most 900; a path that is right. -/
import Derived.Test.YtahofcopedlenaaGreatDoorChgd
import Derived.Deep.RegionHeld3
import Derived.Deep.CutBlock
namespace Go.Proofs.YtahofcopedlenaaGreatDoor
open Go.RowKit
set_option linter.unusedVariables false
set_option linter.unusedSimpArgs false

theorem Tree.deep {w : World} {G : Nat → Prop} : ∀ (d : Nat) (x : VA) (v : VT), Tree w G d x v → Deep d v
  | 0, _, _, h => h
  | d + 1, x, v, h => by
    obtain ⟨vs, ps, rfl, ⟨xs, -, h2, h3⟩, ⟨ms, -, h5, h6⟩⟩ := h
    refine ⟨fun y hy => ?_, fun p hp => ?_⟩
    · obtain ⟨i, hi, rfl⟩ := List.mem_iff_getElem.1 hy
      have hi' : i < vs.length := hi
      exact Tree.deep d _ _ (h3 i (by omega) hi')
    · obtain ⟨i, hi, rfl⟩ := List.mem_iff_getElem.1 hp
      have hi' : i < ps.length := hi
      exact Tree.deep d _ _ (h6 i (by omega) hi').2
theorem Blk.copy6 {W : World} {g : Nat} {T : TypeId} {x1 x2 x3 x4 x5 x6 : Value} (hb : Blk W g T #[x1, x2, x3, x4, x5, x6]) (u1 u2 u3 u4 u5 u6 : Value) : Blk ((((((W.setCell ⟨g, 0, none⟩ u1).setCell ⟨g, 1, none⟩ u2).setCell ⟨g, 2, none⟩ u3).setCell ⟨g, 3, none⟩ u4).setCell ⟨g, 4, none⟩ u5).setCell ⟨g, 5, none⟩ u6) g T #[u1, u2, u3, u4, u5, u6] := by
  simpa using (((((hb.set 0 u1).set 1 u2).set 2 u3).set 3 u4).set 4 u5).set 5 u6
theorem Only.cell6 (w : World) (g : Nat) (u1 u2 u3 u4 u5 u6 : Value) : Only g w ((((((w.setCell ⟨g, 0, none⟩ u1).setCell ⟨g, 1, none⟩ u2).setCell ⟨g, 2, none⟩ u3).setCell ⟨g, 3, none⟩ u4).setCell ⟨g, 4, none⟩ u5).setCell ⟨g, 5, none⟩ u6) :=
  (((((Only.set (Mod.refl _ _) _ _).set _ _).set _ _).set _ _).set _ _).set _ _
theorem Sl.tail {α : Type} {w : World} {t : TypeId} {sz : Nat} {enc : α → Nat → Value} {g o n : Nat} {x : α} {xs : List α} (h : Sl w t sz enc (some ⟨g, o, none⟩) (n + 1) (x :: xs)) : Sl w t sz enc (some ⟨g, o + sz, none⟩) n xs := by
  refine ⟨by simpa using h.1, fun h0 => ?_⟩
  obtain ⟨g', o', hA, ht, hc⟩ := h.2 (by omega)
  injection hA with hA
  injection hA with hA1 hA2
  subst hA1 hA2
  refine ⟨_, _, rfl, ht, fun i hi j hj => ?_⟩
  have := hc (i + 1) (by simpa using hi) j hj
  simp only [List.getElem_cons_succ] at this
  rw [← this]
  congr 2
  rw [Nat.succ_mul]
  omega

/-- a change's contract at a path -/
def CgSpec (dc : Nat) (c : CA) (u : VT) (p : List St) : Prop := ∀ (G : Nat → Prop) (d : Nat) (x : VA) (v : VT) (A : Option Addr) (n pc : Nat) (w : World), Tree w G d x v → Good d v → Wide 900 d v → Tree w G dc c.v u →
  Sl w 60 3 St.enc A n p → n ≤ pc → n ≤ 100 → Calls Tryz.prog 29 #[x.val, c.val, .slice A n pc] w (RChg G (d + dc) w (chg c.kind u p v))
set_option maxRecDepth 100000 in
set_option maxHeartbeats 1000000 in
theorem changed_walk (dc : Nat) (c : CA) (u : VT) (p : List St) (hok : ∀ s ∈ p, 0 ≤ s.at_ ∧ s.at_ ≤ 5000) (IH : ∀ s q, p = s :: q → CgSpec dc c u q) : CgSpec dc c u p := by
  intro G d x v A n pc w ht hg hwd hu hs hnc hn
  obtain ⟨d, rfl⟩ : ∃ k, d = k + 1 := by
    cases d with
    | zero => exact ht.elim
    | succ k => exact ⟨k, rfl⟩
  have HT := Lib.hid ht
  have HT0 := Lib.hid ht.oldG
  have HU0 := Lib.hid hu.oldG
  have HG := Lib.hid hg
  have HWD := Lib.hid hwd
  have HU := Lib.hid hu
  have HS := Lib.hid hs
  have HPN := Lib.hid hs.1
  have HIH := Lib.hid IH
  have HOK := Lib.hid hok
  obtain ⟨R, hR⟩ : ∃ R, R = chg c.kind u p v := ⟨_, rfl⟩
  rw [← hR]
  have HRR := Lib.hid hR
  obtain ⟨xk, xf, xn, xw, xla, xln, xlc, xma, xmn, xmc⟩ := x
  obtain ⟨ck, ca, cn, cc, cv⟩ := c
  obtain ⟨yk, yf, yn, yw, yla, yln, ylc, yma, ymn, ymc⟩ := cv
  simp only at HU HU0 HRR
  clear ht hg hwd hu hs IH hok hR
  go_enter Tryz.func29, Tryz.ntmps29
  have hx := Blk.new w 29 #[.int .i64 xk, .bool xf, .int .i64 xn, .string xw, .slice xla xln xlc, .slice xma xmn xmc]
  have m1 : New w (w.alloc (.cells #[.int .i64 xk, .bool xf, .int .i64 xn, .string xw, .slice xla xln xlc, .slice xma xmn xmc] 29)) := (Mod.refl _ _).alloc _
  have z1 : (w.alloc (.cells #[.int .i64 xk, .bool xf, .int .i64 xn, .string xw, .slice xla xln xlc, .slice xma xmn xmc] 29)).heap.size = w.heap.size + 1 := by simp
  go_upto_region 1 with (fail)
  generalize w.alloc (.cells #[.int .i64 xk, .bool xf, .int .i64 xn, .string xw, .slice xla xln xlc, .slice xma xmn xmc] 29) = w1 at *
  have hy := Blk.new w1 57 #[.int .i64 ck, .slice ca cn cc, .int .i64 yk, .bool yf, .int .i64 yn, .string yw, .slice yla yln ylc, .slice yma ymn ymc]
  have m2 : New w1 (w1.alloc (.cells #[.int .i64 ck, .slice ca cn cc, .int .i64 yk, .bool yf, .int .i64 yn, .string yw, .slice yla yln ylc, .slice yma ymn ymc] 57)) := (Mod.refl _ _).alloc _
  have z2 : (w1.alloc (.cells #[.int .i64 ck, .slice ca cn cc, .int .i64 yk, .bool yf, .int .i64 yn, .string yw, .slice yla yln ylc, .slice yma ymn ymc] 57)).heap.size = w1.heap.size + 1 := by simp
  generalize w1.alloc (.cells #[.int .i64 ck, .slice ca cn cc, .int .i64 yk, .bool yf, .int .i64 yn, .string yw, .slice yla yln ylc, .slice yma ymn ymc] 57) = w2 at *
  have hz := Blk.new w2 29 #[.int .i64 0, .bool false, .int .i64 0, .string ⟨#[]⟩, .slice none 0 0, .slice none 0 0]
  have m3 : New w2 (w2.alloc (.cells #[.int .i64 0, .bool false, .int .i64 0, .string ⟨#[]⟩, .slice none 0 0, .slice none 0 0] 29)) := (Mod.refl _ _).alloc _
  generalize w2.alloc (.cells #[.int .i64 0, .bool false, .int .i64 0, .string ⟨#[]⟩, .slice none 0 0, .slice none 0 0] 29) = w3 at *
  rw [z1] at hy z2
  rw [z2] at hz
  have HX := Lib.hid ((hx.mod m2 (fun e => e)).mod m3 (fun e => e))
  have HC := Lib.hid (hy.mod m3 (fun e => e))
  have HR := Lib.hid hz
  have HM := Lib.hid ((m1.trans m2).trans m3)
  clear hx hy hz m1 m2 m3 z1 z2
  generalize hxb : w.heap.size = xb at *
  have e0 := HX.out.cell 0
  have e1 := HX.out.cell 1
  have e2 := HX.out.cell 2
  have e3 := HX.out.cell 3
  have e4 := HX.out.cell 4
  have e5 := HX.out.cell 5
  have el := HX.out.lt
  have ef := HX.out.frozen
  have c0 := HC.out.cell 0
  have c1 := HC.out.cell 1
  have c2 := HC.out.cell 2
  have c3 := HC.out.cell 3
  have c4 := HC.out.cell 4
  have c5 := HC.out.cell 5
  have c6 := HC.out.cell 6
  have c7 := HC.out.cell 7
  have cl := HC.out.lt
  have r0 := HR.out.cell 0
  have r1 := HR.out.cell 1
  have r2 := HR.out.cell 2
  have r3 := HR.out.cell 3
  have r4 := HR.out.cell 4
  have r5 := HR.out.cell 5
  have rl := HR.out.lt
  have rf := HR.out.frozen
  simp only [List.getElem?_toArray, List.getElem?_cons_zero, List.getElem?_cons_succ] at e0 e1 e2 e3 e4 e5 c0 c1 c2 c3 c4 c5 c6 c7 r0 r1 r2 r3 r4 r5
  cases hp : p with
  | nil =>
    subst hp
    have h0 : n = 0 := by have := HPN.out; simp at this; omega
    subst h0
    have HEQ : Hid (R = (u, 0)) := Lib.hid (by rw [HRR.out]; rfl)
    go_wp2_with fail
    refine bodyPost_ret (v := .tuple #[VA.val ⟨yk, yf, yn, yw, yla, yln, ylc, yma, ymn, ymc⟩, .int .i64 0]) (by simp [results, Tryz.results29, go_sem, e0, e1, e2, e3, e4, e5, ef, r0, r1, r2, r3, r4, r5, rf]) rfl (RChg.of HEQ.out (y := ⟨yk, yf, yn, yw, yla, yln, ylc, yma, ymn, ymc⟩) (Tree.upto (by omega) HU.out) ?_)
    repeat (with_reducible (first | exact HM.out | (refine Mod.setCell ?_ (.inr (by first | omega | (dsimp only; omega) | skip)) _)))
  | cons s q =>
    subst hp
    have hsk := HOK.out s (by simp)
    obtain ⟨g, o, hA, htb, hc0⟩ := (HS.out.new HM.out).2 (by have := HPN.out; simp at this; omega)
    have hc := fun j (hj : j < 3) => hc0 0 (by simp) j hj
    have hgl := htb.lt
    simp only [List.getElem_cons_zero, Nat.zero_mul, Nat.add_zero] at hc
    have HSO : Hid (Sl w3 60 3 St.enc (some ⟨g, o, none⟩) n (s :: q)) := Lib.hid (by rw [← hA]; exact HS.out.new HM.out)
    subst hA
    clear hc0 htb
    have HTB : Hid (∀ W, New w3 W → W.cell? ⟨g, o, none⟩ = some (.bool s.named) ∧ W.cell? ⟨g, o + 1, none⟩ = some (.string s.name) ∧ W.cell? ⟨g, o + 2, none⟩ = some (.int .i64 s.at_) ∧ g < W.heap.size) := Lib.hid (fun W hW => by
      have h1 := (hW.cell (p := ⟨g, o, none⟩) hgl (fun e => e)).trans (hc 0 (by omega))
      have h2 := (hW.cell (p := ⟨g, o + 1, none⟩) hgl (fun e => e)).trans (hc 1 (by omega))
      have h3 := (hW.cell (p := ⟨g, o + 2, none⟩) hgl (fun e => e)).trans (hc 2 (by omega))
      exact ⟨h1, h2, h3, Nat.lt_of_lt_of_le hgl hW.size⟩)
    have s0 := hc 0 (by omega)
    have s1 := hc 1 (by omega)
    have s2 := hc 2 (by omega)
    simp only [Nat.add_zero] at s0
    obtain ⟨nm, sn, sa⟩ := s
    simp only [St.enc] at s0 s1 s2
    obtain ⟨k, hk⟩ := Int.eq_ofNat_of_zero_le hsk.1
    simp only at hk hsk
    subst hk
    have hk5 : k ≤ 5000 := by omega
    clear hc hsk
    have hp0 : ((n : Int) == 0) = false := by have := HPN.out; simp at this; simp; omega
    cases q with
    | nil =>
      have h1 : n = 1 := by have := HPN.out; simp at this; omega
      have hp1 : ((n : Int) == 1) = true := by simp; omega
      have hb2 : (0 : Int) < n := by omega
      have hbn : 0 < n := by omega
      clear h1
      have HSX : Hid (∀ W, New w3 W → (
        W.cell? ⟨xb, 0, none⟩ = some (.int .i64 xk) ∧ W.cell? ⟨xb, 1, none⟩ = some (.bool xf) ∧ W.cell? ⟨xb, 2, none⟩ = some (.int .i64 xn) ∧ W.cell? ⟨xb, 3, none⟩ = some (.string xw) ∧ W.cell? ⟨xb, 4, none⟩ = some (.slice xla xln xlc) ∧ W.cell? ⟨xb, 5, none⟩ = some (.slice xma xmn xmc) ∧
        W.cell? ⟨xb + 1, 0, none⟩ = some (.int .i64 ck) ∧ W.cell? ⟨xb + 1, 1, none⟩ = some (.slice ca cn cc) ∧ W.cell? ⟨xb + 1, 2, none⟩ = some (.int .i64 yk) ∧ W.cell? ⟨xb + 1, 3, none⟩ = some (.bool yf) ∧ W.cell? ⟨xb + 1, 4, none⟩ = some (.int .i64 yn) ∧ W.cell? ⟨xb + 1, 5, none⟩ = some (.string yw) ∧ W.cell? ⟨xb + 1, 6, none⟩ = some (.slice yla yln ylc) ∧ W.cell? ⟨xb + 1, 7, none⟩ = some (.slice yma ymn ymc) ∧
        W.cell? ⟨g, o, none⟩ = some (.bool nm) ∧ W.cell? ⟨g, o + 1, none⟩ = some (.string sn) ∧ W.cell? ⟨g, o + 2, none⟩ = some (.int .i64 k) ∧ g < W.heap.size ∧ xb + 1 < W.heap.size
        )) := Lib.hid (fun W hW => by
        have h1 := HX.out.mod hW (fun e => e)
        have h2 := HC.out.mod hW (fun e => e)
        obtain ⟨h3, h4, h5, h6⟩ := HTB.out W hW
        exact ⟨(h1.cell 0).trans rfl, (h1.cell 1).trans rfl, (h1.cell 2).trans rfl, (h1.cell 3).trans rfl, (h1.cell 4).trans rfl, (h1.cell 5).trans rfl, (h2.cell 0).trans rfl, (h2.cell 1).trans rfl, (h2.cell 2).trans rfl, (h2.cell 3).trans rfl, (h2.cell 4).trans rfl, (h2.cell 5).trans rfl, (h2.cell 6).trans rfl, (h2.cell 7).trans rfl, h3, h4, h5, h6, h2.lt⟩)
      have HCM := Lib.hid (fun W (h : New w W) => changedMembers_v (fun g => G g ∧ g < xb) (d + dc) ⟨xk, xf, xn, xw, xla, xln, xlc, xma, xmn, xmc⟩ v ⟨ck, ca, cn, cc, ⟨yk, yf, yn, yw, yla, yln, ylc, yma, ymn, ymc⟩⟩ u sn W ((Tree.upto (by omega) HT0.out).new h) ((Tree.upto (by omega) HU0.out).new h) (own_idle HG.out.1).2.2 (by have := HWD.out.2.1; omega))
      have HCL := Lib.hid (fun W (h : New w W) => changedList_v (fun g => G g ∧ g < xb) (d + dc) ⟨xk, xf, xn, xw, xla, xln, xlc, xma, xmn, xmc⟩ v ⟨ck, ca, cn, cc, ⟨yk, yf, yn, yw, yla, yln, ylc, yma, ymn, ymc⟩⟩ u (k : Int) W ((Tree.upto (by omega) HT0.out).new h) ((Tree.upto (by omega) HU0.out).new h) ⟨by omega, by omega⟩ (by have := HWD.out.1; omega))
      cases nm with
      | true =>
        have HRE : Hid (R = chM v ck sn u) := Lib.hid (by rw [HRR.out]; rfl)
        go_upto_region 4 with (fail)
        refine wp_region_held_ord (fun W =>
          W.cell? ⟨xb, 0, none⟩ = some (.int .i64 xk) ∧ W.cell? ⟨xb, 1, none⟩ = some (.bool xf) ∧ W.cell? ⟨xb, 2, none⟩ = some (.int .i64 xn) ∧ W.cell? ⟨xb, 3, none⟩ = some (.string xw) ∧ W.cell? ⟨xb, 4, none⟩ = some (.slice xla xln xlc) ∧ W.cell? ⟨xb, 5, none⟩ = some (.slice xma xmn xmc) ∧
          W.cell? ⟨xb + 1, 0, none⟩ = some (.int .i64 ck) ∧ W.cell? ⟨xb + 1, 1, none⟩ = some (.slice ca cn cc) ∧ W.cell? ⟨xb + 1, 2, none⟩ = some (.int .i64 yk) ∧ W.cell? ⟨xb + 1, 3, none⟩ = some (.bool yf) ∧ W.cell? ⟨xb + 1, 4, none⟩ = some (.int .i64 yn) ∧ W.cell? ⟨xb + 1, 5, none⟩ = some (.string yw) ∧ W.cell? ⟨xb + 1, 6, none⟩ = some (.slice yla yln ylc) ∧ W.cell? ⟨xb + 1, 7, none⟩ = some (.slice yma ymn ymc) ∧
          W.cell? ⟨g, o, none⟩ = some (.bool true) ∧ W.cell? ⟨g, o + 1, none⟩ = some (.string sn) ∧ W.cell? ⟨g, o + 2, none⟩ = some (.int .i64 k) ∧ g < W.heap.size ∧ xb + 1 < W.heap.size
          ) [6] [0, 1, 2, 3, 4, 5, 6, 7, 8] (by kernel_rfl) (by kernel_rfl) (fun _ _ d _ _ h => by cases d <;> exact h) ?_ (fun hHeld => ?_)
        · exact HSX.out _ (Mod.refl _ _).drew
        simp only [List.length_cons, List.length_nil, List.drop_succ_cons, List.drop_zero]
        refine heldO_take ?_ (by rfl) (by rfl) (by rfl) (fun w hSw => ?_) ?_
        rotate_left
        · (try dsimp only at hSw); go_simp; any_goals (with_reducible rfl)
        simp only [Act.put, List.setIfInBounds_toArray, List.set_cons_zero, List.set_cons_succ]
        refine heldO_take ?_ (by rfl) (by rfl) (by rfl) (fun w hSw => ?_) ?_
        rotate_left
        · (try dsimp only at hSw); go_simp; any_goals (with_reducible rfl)
        simp only [Act.put, List.setIfInBounds_toArray, List.set_cons_zero, List.set_cons_succ]
        refine heldO_take ?_ (by rfl) (by rfl) (by rfl) (fun w hSw => ?_) ?_
        rotate_left
        · (try dsimp only at hSw); go_simp; any_goals (with_reducible rfl)
        simp only [Act.put, List.setIfInBounds_toArray, List.set_cons_zero, List.set_cons_succ]
        refine heldO_take ?_ (by rfl) (by rfl) (by rfl) (fun w hSw => ?_) ?_
        rotate_left
        · (try dsimp only at hSw); go_simp; any_goals (with_reducible rfl)
        simp only [Act.put, List.setIfInBounds_toArray, List.set_cons_zero, List.set_cons_succ]
        refine heldO_take ?_ (by rfl) (by rfl) (by rfl) (fun w hSw => ?_) ?_
        rotate_left
        · (try dsimp only at hSw); go_simp; any_goals (with_reducible rfl)
        simp only [Act.put, List.setIfInBounds_toArray, List.set_cons_zero, List.set_cons_succ]
        refine heldO_take ?_ (by rfl) (by rfl) (by rfl) (fun w hSw => ?_) ?_
        rotate_left
        · (try dsimp only at hSw); go_simp; any_goals (with_reducible rfl)
        simp only [Act.put, List.setIfInBounds_toArray, List.set_cons_zero, List.set_cons_succ]
        refine heldO_step (by rfl) (by rfl) (by rfl) (fun K hK => ?_)
        go_simp
        refine (HCM.out _ (HM.out.drew)).mono ?_
        rintro e w5 ⟨⟨zk, zf, zn, zw, zla, zln, zlc, zma, zmn, zmc⟩, rfl, hty, m5⟩
        have n5 : New w3 w5 := (Mod.refl _ _).drew.trans m5
        go_wp2_with fail
        refine hK.out _ _ (HSX.out _ n5) (fun hHeld => ?_)
        clear hK K
        try simp only [Act.put, List.setIfInBounds_toArray, List.set_cons_zero, List.set_cons_succ]
        refine heldO_take ?_ (by rfl) (by rfl) (by rfl) (fun w hSw => ?_) ?_
        rotate_left
        · (try dsimp only at hSw); go_simp; any_goals (with_reducible rfl)
        simp only [Act.put, List.setIfInBounds_toArray, List.set_cons_zero, List.set_cons_succ]
        refine heldO_take ?_ (by rfl) (by rfl) (by rfl) (fun w hSw => ?_) ?_
        rotate_left
        · (try dsimp only at hSw); go_simp; any_goals (with_reducible rfl)
        simp only [Act.put, List.setIfInBounds_toArray, List.set_cons_zero, List.set_cons_succ]
        refine heldO_nil ?_
        have HTY : Hid (Tree w5 (fun g => (G g ∧ g < xb) ∨ xb + 2 < g) (d + dc + 1) ⟨zk, zf, zn, zw, zla, zln, zlc, zma, zmn, zmc⟩ (chM v ck sn u).1) := Lib.hid (Tree.imp (fun g hg _ => by
          have hz : (w3).drew.heap.size = (w3).heap.size := rfl
          exact Or.elim hg (fun h => Or.inl h) (fun h => Or.inr (by omega))) _ _ _ hty)
        have HX1 := Lib.hid (HX.out.mod n5 (fun e => e))
        have HC1 := Lib.hid (HC.out.mod n5 (fun e => e))
        have HR1 := Lib.hid (HR.out.mod n5 (fun e => e))
        have HM1 := Lib.hid (HM.out.trans n5)
        clear e0 e1 e2 e3 e4 e5 el ef c0 c1 c2 c3 c4 c5 c6 c7 cl r0 r1 r2 r3 r4 r5 rl rf
        clear HX HC HR HM
        have HX := HX1
        have HC := HC1
        have HR := HR1
        have HM := HM1
        clear HX1 HC1 HR1 HM1
        have e0 := HX.out.cell 0
        have e1 := HX.out.cell 1
        have e2 := HX.out.cell 2
        have e3 := HX.out.cell 3
        have e4 := HX.out.cell 4
        have e5 := HX.out.cell 5
        have el := HX.out.lt
        have ef := HX.out.frozen
        have c0 := HC.out.cell 0
        have c1 := HC.out.cell 1
        have c2 := HC.out.cell 2
        have c3 := HC.out.cell 3
        have c4 := HC.out.cell 4
        have c5 := HC.out.cell 5
        have c6 := HC.out.cell 6
        have c7 := HC.out.cell 7
        have cl := HC.out.lt
        have r0 := HR.out.cell 0
        have r1 := HR.out.cell 1
        have r2 := HR.out.cell 2
        have r3 := HR.out.cell 3
        have r4 := HR.out.cell 4
        have r5 := HR.out.cell 5
        have rl := HR.out.lt
        have rf := HR.out.frozen
        simp only [List.getElem?_toArray, List.getElem?_cons_zero, List.getElem?_cons_succ] at e0 e1 e2 e3 e4 e5 c0 c1 c2 c3 c4 c5 c6 c7 r0 r1 r2 r3 r4 r5
        clear hty m5 n5 hHeld
        go_wp2_with fail
        refine bodyPost_ret (v := .tuple #[VA.val ⟨zk, zf, zn, zw, zla, zln, zlc, zma, zmn, zmc⟩, .int .i64 (chM v ck sn u).2]) (by simp [results, Tryz.results29, go_sem, e0, e1, e2, e3, e4, e5, ef, r0, r1, r2, r3, r4, r5, rf]) rfl ⟨⟨zk, zf, zn, zw, zla, zln, zlc, zma, zmn, zmc⟩, by rw [HRE.out], ?_, ?_⟩
        · have ht5 : Tree w5 (fun g => (G g ∧ g < xb) ∨ xb + 2 < g) (d + 1 + dc) ⟨zk, zf, zn, zw, zla, zln, zlc, zma, zmn, zmc⟩ R.1 := by
            have h := Tree.upto (show d + dc + 1 ≤ d + 1 + dc by omega) HTY.out
            rwa [← HRE.out] at h
          refine Tree.imp (G := fun g => (G g ∧ g < xb) ∨ xb + 2 < g) (fun g hg _ => by rcases hg with h | h; exact .inl h.1; exact .inr (by omega)) _ _ _ (Tree.mod (S := fun k => k = xb + 1 + 1) ?_ (fun g hg _ q => by rcases hg with h | h <;> omega) _ _ _ ht5)
          repeat (with_reducible (first | exact Mod.refl _ _ | (refine Mod.setCell ?_ (.inl (by first | rfl | omega | (dsimp only; omega) | skip)) _)))
        · repeat (with_reducible (first | exact HM.out | (refine Mod.setCell ?_ (.inr (by first | omega | (dsimp only; omega) | skip)) _)))
      | false =>
        have HRE : Hid (R = chL v ck k u) := Lib.hid (by rw [HRR.out]; rfl)
        go_upto_region 6 with (fail)
        refine wp_region_held_ord (fun W =>
          W.cell? ⟨xb, 0, none⟩ = some (.int .i64 xk) ∧ W.cell? ⟨xb, 1, none⟩ = some (.bool xf) ∧ W.cell? ⟨xb, 2, none⟩ = some (.int .i64 xn) ∧ W.cell? ⟨xb, 3, none⟩ = some (.string xw) ∧ W.cell? ⟨xb, 4, none⟩ = some (.slice xla xln xlc) ∧ W.cell? ⟨xb, 5, none⟩ = some (.slice xma xmn xmc) ∧
          W.cell? ⟨xb + 1, 0, none⟩ = some (.int .i64 ck) ∧ W.cell? ⟨xb + 1, 1, none⟩ = some (.slice ca cn cc) ∧ W.cell? ⟨xb + 1, 2, none⟩ = some (.int .i64 yk) ∧ W.cell? ⟨xb + 1, 3, none⟩ = some (.bool yf) ∧ W.cell? ⟨xb + 1, 4, none⟩ = some (.int .i64 yn) ∧ W.cell? ⟨xb + 1, 5, none⟩ = some (.string yw) ∧ W.cell? ⟨xb + 1, 6, none⟩ = some (.slice yla yln ylc) ∧ W.cell? ⟨xb + 1, 7, none⟩ = some (.slice yma ymn ymc) ∧
          W.cell? ⟨g, o, none⟩ = some (.bool false) ∧ W.cell? ⟨g, o + 1, none⟩ = some (.string sn) ∧ W.cell? ⟨g, o + 2, none⟩ = some (.int .i64 k) ∧ g < W.heap.size ∧ xb + 1 < W.heap.size
          ) [6] [0, 1, 2, 3, 4, 5, 6, 7, 8] (by kernel_rfl) (by kernel_rfl) (fun _ _ d _ _ h => by cases d <;> exact h) ?_ (fun hHeld => ?_)
        · exact HSX.out _ (Mod.refl _ _).drew
        simp only [List.length_cons, List.length_nil, List.drop_succ_cons, List.drop_zero]
        refine heldO_take ?_ (by rfl) (by rfl) (by rfl) (fun w hSw => ?_) ?_
        rotate_left
        · (try dsimp only at hSw); go_simp; any_goals (with_reducible rfl)
        simp only [Act.put, List.setIfInBounds_toArray, List.set_cons_zero, List.set_cons_succ]
        refine heldO_take ?_ (by rfl) (by rfl) (by rfl) (fun w hSw => ?_) ?_
        rotate_left
        · (try dsimp only at hSw); go_simp; any_goals (with_reducible rfl)
        simp only [Act.put, List.setIfInBounds_toArray, List.set_cons_zero, List.set_cons_succ]
        refine heldO_take ?_ (by rfl) (by rfl) (by rfl) (fun w hSw => ?_) ?_
        rotate_left
        · (try dsimp only at hSw); go_simp; any_goals (with_reducible rfl)
        simp only [Act.put, List.setIfInBounds_toArray, List.set_cons_zero, List.set_cons_succ]
        refine heldO_take ?_ (by rfl) (by rfl) (by rfl) (fun w hSw => ?_) ?_
        rotate_left
        · (try dsimp only at hSw); go_simp; any_goals (with_reducible rfl)
        simp only [Act.put, List.setIfInBounds_toArray, List.set_cons_zero, List.set_cons_succ]
        refine heldO_take ?_ (by rfl) (by rfl) (by rfl) (fun w hSw => ?_) ?_
        rotate_left
        · (try dsimp only at hSw); go_simp; any_goals (with_reducible rfl)
        simp only [Act.put, List.setIfInBounds_toArray, List.set_cons_zero, List.set_cons_succ]
        refine heldO_take ?_ (by rfl) (by rfl) (by rfl) (fun w hSw => ?_) ?_
        rotate_left
        · (try dsimp only at hSw); go_simp; any_goals (with_reducible rfl)
        simp only [Act.put, List.setIfInBounds_toArray, List.set_cons_zero, List.set_cons_succ]
        refine heldO_step (by rfl) (by rfl) (by rfl) (fun K hK => ?_)
        go_simp
        refine (HCL.out _ (HM.out.drew)).mono ?_
        rintro e w5 ⟨⟨zk, zf, zn, zw, zla, zln, zlc, zma, zmn, zmc⟩, rfl, hty, m5⟩
        have n5 : New w3 w5 := (Mod.refl _ _).drew.trans m5
        go_wp2_with fail
        refine hK.out _ _ (HSX.out _ n5) (fun hHeld => ?_)
        clear hK K
        try simp only [Act.put, List.setIfInBounds_toArray, List.set_cons_zero, List.set_cons_succ]
        refine heldO_take ?_ (by rfl) (by rfl) (by rfl) (fun w hSw => ?_) ?_
        rotate_left
        · (try dsimp only at hSw); go_simp; any_goals (with_reducible rfl)
        simp only [Act.put, List.setIfInBounds_toArray, List.set_cons_zero, List.set_cons_succ]
        refine heldO_take ?_ (by rfl) (by rfl) (by rfl) (fun w hSw => ?_) ?_
        rotate_left
        · (try dsimp only at hSw); go_simp; any_goals (with_reducible rfl)
        simp only [Act.put, List.setIfInBounds_toArray, List.set_cons_zero, List.set_cons_succ]
        refine heldO_nil ?_
        have HTY : Hid (Tree w5 (fun g => (G g ∧ g < xb) ∨ xb + 2 < g) (d + dc + 1) ⟨zk, zf, zn, zw, zla, zln, zlc, zma, zmn, zmc⟩ (chL v ck k u).1) := Lib.hid (Tree.imp (fun g hg _ => by
          have hz : (w3).drew.heap.size = (w3).heap.size := rfl
          exact Or.elim hg (fun h => Or.inl h) (fun h => Or.inr (by omega))) _ _ _ hty)
        have HX1 := Lib.hid (HX.out.mod n5 (fun e => e))
        have HC1 := Lib.hid (HC.out.mod n5 (fun e => e))
        have HR1 := Lib.hid (HR.out.mod n5 (fun e => e))
        have HM1 := Lib.hid (HM.out.trans n5)
        clear e0 e1 e2 e3 e4 e5 el ef c0 c1 c2 c3 c4 c5 c6 c7 cl r0 r1 r2 r3 r4 r5 rl rf
        clear HX HC HR HM
        have HX := HX1
        have HC := HC1
        have HR := HR1
        have HM := HM1
        clear HX1 HC1 HR1 HM1
        have e0 := HX.out.cell 0
        have e1 := HX.out.cell 1
        have e2 := HX.out.cell 2
        have e3 := HX.out.cell 3
        have e4 := HX.out.cell 4
        have e5 := HX.out.cell 5
        have el := HX.out.lt
        have ef := HX.out.frozen
        have c0 := HC.out.cell 0
        have c1 := HC.out.cell 1
        have c2 := HC.out.cell 2
        have c3 := HC.out.cell 3
        have c4 := HC.out.cell 4
        have c5 := HC.out.cell 5
        have c6 := HC.out.cell 6
        have c7 := HC.out.cell 7
        have cl := HC.out.lt
        have r0 := HR.out.cell 0
        have r1 := HR.out.cell 1
        have r2 := HR.out.cell 2
        have r3 := HR.out.cell 3
        have r4 := HR.out.cell 4
        have r5 := HR.out.cell 5
        have rl := HR.out.lt
        have rf := HR.out.frozen
        simp only [List.getElem?_toArray, List.getElem?_cons_zero, List.getElem?_cons_succ] at e0 e1 e2 e3 e4 e5 c0 c1 c2 c3 c4 c5 c6 c7 r0 r1 r2 r3 r4 r5
        clear hty m5 n5 hHeld
        go_wp2_with fail
        refine bodyPost_ret (v := .tuple #[VA.val ⟨zk, zf, zn, zw, zla, zln, zlc, zma, zmn, zmc⟩, .int .i64 (chL v ck k u).2]) (by simp [results, Tryz.results29, go_sem, e0, e1, e2, e3, e4, e5, ef, r0, r1, r2, r3, r4, r5, rf]) rfl ⟨⟨zk, zf, zn, zw, zla, zln, zlc, zma, zmn, zmc⟩, by rw [HRE.out], ?_, ?_⟩
        · have ht5 : Tree w5 (fun g => (G g ∧ g < xb) ∨ xb + 2 < g) (d + 1 + dc) ⟨zk, zf, zn, zw, zla, zln, zlc, zma, zmn, zmc⟩ R.1 := by
            have h := Tree.upto (show d + dc + 1 ≤ d + 1 + dc by omega) HTY.out
            rwa [← HRE.out] at h
          refine Tree.imp (G := fun g => (G g ∧ g < xb) ∨ xb + 2 < g) (fun g hg _ => by rcases hg with h | h; exact .inl h.1; exact .inr (by omega)) _ _ _ (Tree.mod (S := fun k => k = xb + 1 + 1) ?_ (fun g hg _ q => by rcases hg with h | h <;> omega) _ _ _ ht5)
          repeat (with_reducible (first | exact Mod.refl _ _ | (refine Mod.setCell ?_ (.inl (by first | rfl | omega | (dsimp only; omega) | skip)) _)))
        · repeat (with_reducible (first | exact HM.out | (refine Mod.setCell ?_ (.inr (by first | omega | (dsimp only; omega) | skip)) _)))
    | cons t q =>
      have hp1 : ((n : Int) == 1) = false := by have := HPN.out; simp at this; simp; omega
      have hb2 : (0 : Int) < n := by have := HPN.out; simp at this; omega
      have hbn : 0 < n := by omega
      have HSX : Hid (∀ W, New w3 W → (
        W.cell? ⟨xb, 0, none⟩ = some (.int .i64 xk) ∧ W.cell? ⟨xb, 1, none⟩ = some (.bool xf) ∧ W.cell? ⟨xb, 2, none⟩ = some (.int .i64 xn) ∧ W.cell? ⟨xb, 3, none⟩ = some (.string xw) ∧ W.cell? ⟨xb, 4, none⟩ = some (.slice xla xln xlc) ∧ W.cell? ⟨xb, 5, none⟩ = some (.slice xma xmn xmc) ∧
        W.cell? ⟨xb + 1, 0, none⟩ = some (.int .i64 ck) ∧ W.cell? ⟨xb + 1, 1, none⟩ = some (.slice ca cn cc) ∧ W.cell? ⟨xb + 1, 2, none⟩ = some (.int .i64 yk) ∧ W.cell? ⟨xb + 1, 3, none⟩ = some (.bool yf) ∧ W.cell? ⟨xb + 1, 4, none⟩ = some (.int .i64 yn) ∧ W.cell? ⟨xb + 1, 5, none⟩ = some (.string yw) ∧ W.cell? ⟨xb + 1, 6, none⟩ = some (.slice yla yln ylc) ∧ W.cell? ⟨xb + 1, 7, none⟩ = some (.slice yma ymn ymc) ∧
        W.cell? ⟨g, o, none⟩ = some (.bool nm) ∧ W.cell? ⟨g, o + 1, none⟩ = some (.string sn) ∧ W.cell? ⟨g, o + 2, none⟩ = some (.int .i64 k) ∧ g < W.heap.size ∧ xb + 1 < W.heap.size
        )) := Lib.hid (fun W hW => by
        have h1 := HX.out.mod hW (fun e => e)
        have h2 := HC.out.mod hW (fun e => e)
        obtain ⟨h3, h4, h5, h6⟩ := HTB.out W hW
        exact ⟨(h1.cell 0).trans rfl, (h1.cell 1).trans rfl, (h1.cell 2).trans rfl, (h1.cell 3).trans rfl, (h1.cell 4).trans rfl, (h1.cell 5).trans rfl, (h2.cell 0).trans rfl, (h2.cell 1).trans rfl, (h2.cell 2).trans rfl, (h2.cell 3).trans rfl, (h2.cell 4).trans rfl, (h2.cell 5).trans rfl, (h2.cell 6).trans rfl, (h2.cell 7).trans rfl, h3, h4, h5, h6, h2.lt⟩)
      have HAT := Lib.hid (fun W (h : New w W) => at_v (fun g => G g ∧ g < xb) d ⟨xk, xf, xn, xw, xla, xln, xlc, xma, xmn, xmc⟩ v ⟨nm, sn, (k : Int)⟩ W (HT0.out.new h) (own_idle HG.out.1).2.2 (by have := HWD.out.1; omega) (by have := HWD.out.2.1; omega) ⟨by simp only; omega, by simp only; omega⟩)
      go_upto_region 7 with (fail)
      cases hat : atV v ⟨nm, sn, (k : Int)⟩ with
      | none =>
        have HATN : Hid (∀ W, New w W → Calls Tryz.prog 53 #[VA.val ⟨xk, xf, xn, xw, xla, xln, xlc, xma, xmn, xmc⟩, St.val ⟨nm, sn, (k : Int)⟩] W fun e w' => ∃ y : VA, e = .returned (.tuple #[y.val, .bool false]) ∧ True ∧ New W w') := Lib.hid (fun W h => (HAT.out W h).mono (fun e w' hq => by
          rcases hq with ⟨-, h2, h3⟩ | ⟨_, _, h2, -⟩
          · exact ⟨_, h2, trivial, h3⟩
          · rw [hat] at h2; cases h2))
        have HEQ : Hid (R = (v, 8)) := Lib.hid (by
          rw [HRR.out]
          show (match atV v ⟨nm, sn, (k : Int)⟩ with | none => (v, (8 : Int)) | some x => _) = _
          rw [hat])
        clear hat
        go_cut [8, 9] (fun s8 s9 wx => ∃ (b8 : Nat) (y : VA), s8 = .pointer (some ⟨b8, 0, none⟩) ∧ s9 = .bool false ∧ Hid (Blk wx b8 29 y.cells) ∧ xb + 2 < b8 ∧ Hid True ∧ Hid (New w3 wx))
        case first =>
          refine wp_region_held_drew (S := New w3) (by kernel_rfl) (Mod.refl _ _).drew (fun hHeld => ?_)
          refine wpAnyH_take (i := 0) (v := ?_) rfl (by kernel_rfl) (by kernel_rfl) (by kernel_rfl) (fun _ _ _ h => h) (Or.inl ⟨by rfl, fun W hSw => ?_⟩) (by assumption) ?_
          rotate_left
          · (have hq := HSX.out W hSw); (try simp only [List.getElem_toArray, List.getElem_cons_zero, List.getElem_cons_succ]); go_simp; any_goals (with_reducible rfl)
          simp only [Act.put, List.getElem_toArray, List.getElem_cons_zero, List.getElem_cons_succ, List.setIfInBounds_toArray, List.set_cons_zero, List.set_cons_succ]
          refine wpAnyH_take (i := 1) (v := ?_) rfl (by kernel_rfl) (by kernel_rfl) (by kernel_rfl) (fun _ _ _ h => h) (Or.inl ⟨by rfl, fun W hSw => ?_⟩) (by assumption) ?_
          rotate_left
          · (have hq := HSX.out W hSw); (try simp only [List.getElem_toArray, List.getElem_cons_zero, List.getElem_cons_succ]); go_simp; any_goals (with_reducible rfl)
          simp only [Act.put, List.getElem_toArray, List.getElem_cons_zero, List.getElem_cons_succ, List.setIfInBounds_toArray, List.set_cons_zero, List.set_cons_succ]
          refine wpAnyH_take (i := 2) (v := ?_) rfl (by kernel_rfl) (by kernel_rfl) (by kernel_rfl) (fun _ _ _ h => h) (Or.inl ⟨by rfl, fun W hSw => ?_⟩) (by assumption) ?_
          rotate_left
          · (have hq := HSX.out W hSw); (try simp only [List.getElem_toArray, List.getElem_cons_zero, List.getElem_cons_succ]); go_simp; any_goals (with_reducible rfl)
          simp only [Act.put, List.getElem_toArray, List.getElem_cons_zero, List.getElem_cons_succ, List.setIfInBounds_toArray, List.set_cons_zero, List.set_cons_succ]
          refine wpAnyH_take (i := 3) (v := ?_) rfl (by kernel_rfl) (by kernel_rfl) (by kernel_rfl) (fun _ _ _ h => h) (Or.inl ⟨by rfl, fun W hSw => ?_⟩) (by assumption) ?_
          rotate_left
          · (have hq := HSX.out W hSw); (try simp only [List.getElem_toArray, List.getElem_cons_zero, List.getElem_cons_succ]); go_simp; any_goals (with_reducible rfl)
          simp only [Act.put, List.getElem_toArray, List.getElem_cons_zero, List.getElem_cons_succ, List.setIfInBounds_toArray, List.set_cons_zero, List.set_cons_succ]
          refine wpAnyH_ready (rs := [4, 8]) (by kernel_rfl) (by simp) ?_
          refine AllReadyH.cons rfl (fun K hK => ?_) (AllReadyH.cons rfl (fun K hK => ?_) AllReadyH.nil)
          · (try simp only [List.getElem_toArray, List.getElem_cons_zero, List.getElem_cons_succ])
            go_simp
            refine (HATN.out _ HM.out.drew).mono ?_
            rintro e w5 ⟨⟨zk, zf, zn, zw, zla, zln, zlc, zma, zmn, zmc⟩, rfl, hpt, m5⟩
            have n5 : New w3 w5 := (Mod.refl _ _).drew.trans m5
            go_wp2_with fail
            refine hK.out _ _ n5 (fun hHeld => ?_)
            clear hK K
            (try simp only [Act.put, List.getElem_toArray, List.getElem_cons_zero, List.getElem_cons_succ, List.setIfInBounds_toArray, List.set_cons_zero, List.set_cons_succ])
            refine wpAnyH_take (i := 5) (v := ?_) rfl (by kernel_rfl) (by kernel_rfl) (by kernel_rfl) (fun _ _ _ h => h) (Or.inl ⟨by rfl, fun W hSw => ?_⟩) (by assumption) ?_
            rotate_left
            · (have hq := HSX.out W hSw); (try simp only [List.getElem_toArray, List.getElem_cons_zero, List.getElem_cons_succ]); go_simp; any_goals (with_reducible rfl)
            simp only [Act.put, List.getElem_toArray, List.getElem_cons_zero, List.getElem_cons_succ, List.setIfInBounds_toArray, List.set_cons_zero, List.set_cons_succ]
            refine wpAnyH_take (i := 6) (v := ?_) rfl (by kernel_rfl) (by kernel_rfl) (by kernel_rfl) (fun _ _ _ h => h) (Or.inl ⟨by rfl, fun W hSw => ?_⟩) (by assumption) ?_
            rotate_left
            · (have hq := HSX.out W hSw); (try simp only [List.getElem_toArray, List.getElem_cons_zero, List.getElem_cons_succ]); go_simp; any_goals (with_reducible rfl)
            simp only [Act.put, List.getElem_toArray, List.getElem_cons_zero, List.getElem_cons_succ, List.setIfInBounds_toArray, List.set_cons_zero, List.set_cons_succ]
            refine wpAnyH_take (i := 7) (v := ?_) rfl (by kernel_rfl) (by kernel_rfl) (by kernel_rfl) (fun _ _ _ h => h) (Or.inl ⟨by rfl, fun W hSw => ?_⟩) (by assumption) ?_
            rotate_left
            · (have hq := HSX.out W hSw); (try simp only [List.getElem_toArray, List.getElem_cons_zero, List.getElem_cons_succ]); go_simp; any_goals (with_reducible rfl)
            simp only [Act.put, List.getElem_toArray, List.getElem_cons_zero, List.getElem_cons_succ, List.setIfInBounds_toArray, List.set_cons_zero, List.set_cons_succ]
            refine wpAnyH_ready (rs := [8]) (by kernel_rfl) (by simp) ?_
            refine AllReadyH.cons rfl (fun K hK => ?_) AllReadyH.nil
            (try simp only [List.getElem_toArray, List.getElem_cons_zero, List.getElem_cons_succ])
            go_simp
            clear hHeld
            refine hK.out _ _ (n5.alloc _) (fun hHeld => ?_)
            clear hK K
            (try simp only [Act.put, List.getElem_toArray, List.getElem_cons_zero, List.getElem_cons_succ, List.setIfInBounds_toArray, List.set_cons_zero, List.set_cons_succ])
            refine wpAnyH_ready (rs := [9]) (by kernel_rfl) (by simp) ?_
            refine AllReadyH.cons rfl (fun K hK => ?_) AllReadyH.nil
            (try simp only [List.getElem_toArray, List.getElem_cons_zero, List.getElem_cons_succ])
            go_simp
            clear hHeld
            refine hK.out _ _ (n5.alloc _) (fun hHeld => ?_)
            clear hK K
            (try simp only [Act.put, List.getElem_toArray, List.getElem_cons_zero, List.getElem_cons_succ, List.setIfInBounds_toArray, List.set_cons_zero, List.set_cons_succ])
            refine wpAnyH_take (i := 10) (v := ?_) rfl (by kernel_rfl) (by kernel_rfl) (by kernel_rfl) (fun _ _ _ h => h) (Or.inl ⟨by rfl, fun W hSw => ?_⟩) (by assumption) ?_
            rotate_left
            · (have hq := HSX.out W hSw); (try simp only [List.getElem_toArray, List.getElem_cons_zero, List.getElem_cons_succ]); go_simp; any_goals (with_reducible rfl)
            simp only [Act.put, List.getElem_toArray, List.getElem_cons_zero, List.getElem_cons_succ, List.setIfInBounds_toArray, List.set_cons_zero, List.set_cons_succ]
            refine wpAnyH_done (by kernel_rfl) ?_ _
            clear hHeld
            go_wp2_with fail
            go_meet
            case rel => exact ⟨_, ⟨zk, zf, zn, zw, zla, zln, zlc, zma, zmn, zmc⟩, rfl, rfl, Lib.hid (Blk.new _ _ _), by have := n5.size; omega, Lib.hid trivial, Lib.hid (n5.alloc _)⟩
          · (try simp only [List.getElem_toArray, List.getElem_cons_zero, List.getElem_cons_succ])
            go_simp
            clear hHeld
            have bz0 := Blk.new w3 29 #[.int .i64 0, .bool false, .int .i64 0, .string ⟨#[]⟩, .slice none 0 0, .slice none 0 0]
            have n4 : New w3 (World.drew (w3.alloc (.cells #[.int .i64 0, .bool false, .int .i64 0, .string ⟨#[]⟩, .slice none 0 0, .slice none 0 0] 29))) := ((Mod.refl _ _).alloc _).drew
            have n4b : New (w3.alloc (.cells #[.int .i64 0, .bool false, .int .i64 0, .string ⟨#[]⟩, .slice none 0 0, .slice none 0 0] 29)) (World.drew (w3.alloc (.cells #[.int .i64 0, .bool false, .int .i64 0, .string ⟨#[]⟩, .slice none 0 0, .slice none 0 0] 29))) := (Mod.refl _ _).drew
            refine hK.out _ _ n4 (fun hHeld => ?_)
            clear hK K
            (try simp only [Act.put, List.getElem_toArray, List.getElem_cons_zero, List.getElem_cons_succ, List.setIfInBounds_toArray, List.set_cons_zero, List.set_cons_succ])
            refine wpAnyH_ready (rs := [4]) (by kernel_rfl) (by simp) ?_
            refine AllReadyH.cons rfl (fun K hK => ?_) AllReadyH.nil
            (try simp only [List.getElem_toArray, List.getElem_cons_zero, List.getElem_cons_succ])
            go_simp
            clear hHeld
            refine (HATN.out _ (HM.out.trans n4)).mono ?_
            rintro e w5 ⟨⟨zk, zf, zn, zw, zla, zln, zlc, zma, zmn, zmc⟩, rfl, hpt, m5⟩
            have n5 : New w3 w5 := n4.trans m5
            have bz := (bz0.mod n4b (fun e => e)).mod m5 (fun e => e)
            have hcs : w3.heap.size < (World.drew (w3.alloc (.cells #[.int .i64 0, .bool false, .int .i64 0, .string ⟨#[]⟩, .slice none 0 0, .slice none 0 0] 29))).heap.size := (bz0.mod n4b (fun e => e)).lt
            have z0 := bz.cell 0
            have z1 := bz.cell 1
            have z2 := bz.cell 2
            have z3 := bz.cell 3
            have z4 := bz.cell 4
            have z5 := bz.cell 5
            have zl := bz.lt
            have zfr := bz.frozen
            simp only [List.getElem?_toArray, List.getElem?_cons_zero, List.getElem?_cons_succ] at z0 z1 z2 z3 z4 z5
            have n6 : New w3 ((((((w5.setCell ⟨w3.heap.size, 0, none⟩ (.int .i64 zk)).setCell ⟨w3.heap.size, 1, none⟩ (.bool zf)).setCell ⟨w3.heap.size, 2, none⟩ (.int .i64 zn)).setCell ⟨w3.heap.size, 3, none⟩ (.string zw)).setCell ⟨w3.heap.size, 4, none⟩ (.slice zla zln zlc)).setCell ⟨w3.heap.size, 5, none⟩ (.slice zma zmn zmc)) := Mod.setCell (Mod.setCell (Mod.setCell (Mod.setCell (Mod.setCell (Mod.setCell n5 (.inr (Nat.le_refl _)) _) (.inr (Nat.le_refl _)) _) (.inr (Nat.le_refl _)) _) (.inr (Nat.le_refl _)) _) (.inr (Nat.le_refl _)) _) (.inr (Nat.le_refl _)) _
            clear bz0 n4b
            go_wp2_with fail
            refine hK.out _ _ n5 (fun hHeld => ?_)
            clear hK K
            (try simp only [Act.put, List.getElem_toArray, List.getElem_cons_zero, List.getElem_cons_succ, List.setIfInBounds_toArray, List.set_cons_zero, List.set_cons_succ])
            refine wpAnyH_take (i := 5) (v := ?_) rfl (by kernel_rfl) (by kernel_rfl) (by kernel_rfl) (fun _ _ _ h => h) (Or.inl ⟨by rfl, fun W hSw => ?_⟩) (by assumption) ?_
            rotate_left
            · (have hq := HSX.out W hSw); (try simp only [List.getElem_toArray, List.getElem_cons_zero, List.getElem_cons_succ]); go_simp; any_goals (with_reducible rfl)
            simp only [Act.put, List.getElem_toArray, List.getElem_cons_zero, List.getElem_cons_succ, List.setIfInBounds_toArray, List.set_cons_zero, List.set_cons_succ]
            refine wpAnyH_take (i := 6) (v := ?_) rfl (by kernel_rfl) (by kernel_rfl) (by kernel_rfl) (fun _ _ _ h => h) (Or.inl ⟨by rfl, fun W hSw => ?_⟩) (by assumption) ?_
            rotate_left
            · (have hq := HSX.out W hSw); (try simp only [List.getElem_toArray, List.getElem_cons_zero, List.getElem_cons_succ]); go_simp; any_goals (with_reducible rfl)
            simp only [Act.put, List.getElem_toArray, List.getElem_cons_zero, List.getElem_cons_succ, List.setIfInBounds_toArray, List.set_cons_zero, List.set_cons_succ]
            refine wpAnyH_take (i := 7) (v := ?_) rfl (by kernel_rfl) (by kernel_rfl) (by kernel_rfl) (fun _ _ _ h => h) (Or.inl ⟨by rfl, fun W hSw => ?_⟩) (by assumption) ?_
            rotate_left
            · (have hq := HSX.out W hSw); (try simp only [List.getElem_toArray, List.getElem_cons_zero, List.getElem_cons_succ]); go_simp; any_goals (with_reducible rfl)
            simp only [Act.put, List.getElem_toArray, List.getElem_cons_zero, List.getElem_cons_succ, List.setIfInBounds_toArray, List.set_cons_zero, List.set_cons_succ]
            refine wpAnyH_ready (rs := [9]) (by kernel_rfl) (by simp) ?_
            refine AllReadyH.cons rfl (fun K hK => ?_) AllReadyH.nil
            (try simp only [List.getElem_toArray, List.getElem_cons_zero, List.getElem_cons_succ])
            go_simp
            clear hHeld
            refine hK.out _ _ n6 (fun hHeld => ?_)
            clear hK K
            (try simp only [Act.put, List.getElem_toArray, List.getElem_cons_zero, List.getElem_cons_succ, List.setIfInBounds_toArray, List.set_cons_zero, List.set_cons_succ])
            refine wpAnyH_take (i := 10) (v := ?_) rfl (by kernel_rfl) (by kernel_rfl) (by kernel_rfl) (fun _ _ _ h => h) (Or.inl ⟨by rfl, fun W hSw => ?_⟩) (by assumption) ?_
            rotate_left
            · (have hq := HSX.out W hSw); (try simp only [List.getElem_toArray, List.getElem_cons_zero, List.getElem_cons_succ]); go_simp; any_goals (with_reducible rfl)
            simp only [Act.put, List.getElem_toArray, List.getElem_cons_zero, List.getElem_cons_succ, List.setIfInBounds_toArray, List.set_cons_zero, List.set_cons_succ]
            refine wpAnyH_done (by kernel_rfl) ?_ _
            clear hHeld
            go_wp2_with fail
            go_meet
            case rel => exact ⟨_, ⟨zk, zf, zn, zw, zla, zln, zlc, zma, zmn, zmc⟩, rfl, rfl, Lib.hid (Blk.copy6 bz _ _ _ _ _ _), by omega, Lib.hid trivial, Lib.hid n6⟩
        case rest =>
          rename World => wx
          obtain ⟨b8, y8, rfl, rfl, -, hb8, -, HNX⟩ := hcut
          have nx := HNX.out
          have HX1 := Lib.hid (HX.out.mod nx (fun e => e))
          have HC1 := Lib.hid (HC.out.mod nx (fun e => e))
          have HR1 := Lib.hid (HR.out.mod nx (fun e => e))
          have HM1 := Lib.hid (HM.out.trans nx)
          clear e0 e1 e2 e3 e4 e5 el ef c0 c1 c2 c3 c4 c5 c6 c7 cl r0 r1 r2 r3 r4 r5 rl rf
          clear HX HC HR HM
          have HX := HX1
          have HC := HC1
          have HR := HR1
          have HM := HM1
          clear HX1 HC1 HR1 HM1
          have e0 := HX.out.cell 0
          have e1 := HX.out.cell 1
          have e2 := HX.out.cell 2
          have e3 := HX.out.cell 3
          have e4 := HX.out.cell 4
          have e5 := HX.out.cell 5
          have el := HX.out.lt
          have ef := HX.out.frozen
          have c0 := HC.out.cell 0
          have c1 := HC.out.cell 1
          have c2 := HC.out.cell 2
          have c3 := HC.out.cell 3
          have c4 := HC.out.cell 4
          have c5 := HC.out.cell 5
          have c6 := HC.out.cell 6
          have c7 := HC.out.cell 7
          have cl := HC.out.lt
          have r0 := HR.out.cell 0
          have r1 := HR.out.cell 1
          have r2 := HR.out.cell 2
          have r3 := HR.out.cell 3
          have r4 := HR.out.cell 4
          have r5 := HR.out.cell 5
          have rl := HR.out.lt
          have rf := HR.out.frozen
          simp only [List.getElem?_toArray, List.getElem?_cons_zero, List.getElem?_cons_succ] at e0 e1 e2 e3 e4 e5 c0 c1 c2 c3 c4 c5 c6 c7 r0 r1 r2 r3 r4 r5
          clear nx
          go_wp2_with fail
          refine bodyPost_ret (v := .tuple #[VA.val ⟨xk, xf, xn, xw, xla, xln, xlc, xma, xmn, xmc⟩, .int .i64 8]) (by simp [results, Tryz.results29, go_sem, e0, e1, e2, e3, e4, e5, ef, r0, r1, r2, r3, r4, r5, rf]) rfl (RChg.of HEQ.out (y := ⟨xk, xf, xn, xw, xla, xln, xlc, xma, xmn, xmc⟩) (Tree.upto (by omega) HT.out) ?_)
          repeat (with_reducible (first | exact HM.out | (refine Mod.setCell ?_ (.inr (by first | omega | (dsimp only; omega) | skip)) _)))
      | some ua =>
        have HATS : Hid (∀ W, New w W → Calls Tryz.prog 53 #[VA.val ⟨xk, xf, xn, xw, xla, xln, xlc, xma, xmn, xmc⟩, St.val ⟨nm, sn, (k : Int)⟩] W fun e w' => ∃ y : VA, e = .returned (.tuple #[y.val, .bool true]) ∧ Tree w' (fun g => G g ∧ g < xb) d y ua ∧ New W w') := Lib.hid (fun W h => (HAT.out W h).mono (fun e w' hq => by
          rcases hq with ⟨h1, -, -⟩ | ⟨u2, y2, h1, h2, h3, h4⟩
          · rw [hat] at h1; cases h1
          · rw [hat] at h1; injection h1 with h1; subst h1; exact ⟨y2, h2, h3, h4⟩))
        have hdp := at_deep hat HT.out.deep HWD.out
        have HGA := Lib.hid (Good.at HG.out hat)
        have HWA := Lib.hid hdp.2.1
        have HRC : Hid (R = if (chg ck u (t :: q) ua).2 ≠ 0 then (v, (chg ck u (t :: q) ua).2) else chS v 1 ⟨nm, sn, (k : Int)⟩ (chg ck u (t :: q) ua).1) := Lib.hid (by
          rw [HRR.out]
          show (match atV v ⟨nm, sn, (k : Int)⟩ with | none => (v, (8 : Int)) | some x => _) = _
          rw [hat])
        clear hat hdp
        go_cut [8, 9] (fun s8 s9 wx => ∃ (b8 : Nat) (y : VA), s8 = .pointer (some ⟨b8, 0, none⟩) ∧ s9 = .bool true ∧ Hid (Blk wx b8 29 y.cells) ∧ xb + 2 < b8 ∧ Hid (Tree wx (fun g => G g ∧ g < xb) d y ua) ∧ Hid (New w3 wx))
        case first =>
          refine wp_region_held_drew (S := New w3) (by kernel_rfl) (Mod.refl _ _).drew (fun hHeld => ?_)
          refine wpAnyH_take (i := 0) (v := ?_) rfl (by kernel_rfl) (by kernel_rfl) (by kernel_rfl) (fun _ _ _ h => h) (Or.inl ⟨by rfl, fun W hSw => ?_⟩) (by assumption) ?_
          rotate_left
          · (have hq := HSX.out W hSw); (try simp only [List.getElem_toArray, List.getElem_cons_zero, List.getElem_cons_succ]); go_simp; any_goals (with_reducible rfl)
          simp only [Act.put, List.getElem_toArray, List.getElem_cons_zero, List.getElem_cons_succ, List.setIfInBounds_toArray, List.set_cons_zero, List.set_cons_succ]
          refine wpAnyH_take (i := 1) (v := ?_) rfl (by kernel_rfl) (by kernel_rfl) (by kernel_rfl) (fun _ _ _ h => h) (Or.inl ⟨by rfl, fun W hSw => ?_⟩) (by assumption) ?_
          rotate_left
          · (have hq := HSX.out W hSw); (try simp only [List.getElem_toArray, List.getElem_cons_zero, List.getElem_cons_succ]); go_simp; any_goals (with_reducible rfl)
          simp only [Act.put, List.getElem_toArray, List.getElem_cons_zero, List.getElem_cons_succ, List.setIfInBounds_toArray, List.set_cons_zero, List.set_cons_succ]
          refine wpAnyH_take (i := 2) (v := ?_) rfl (by kernel_rfl) (by kernel_rfl) (by kernel_rfl) (fun _ _ _ h => h) (Or.inl ⟨by rfl, fun W hSw => ?_⟩) (by assumption) ?_
          rotate_left
          · (have hq := HSX.out W hSw); (try simp only [List.getElem_toArray, List.getElem_cons_zero, List.getElem_cons_succ]); go_simp; any_goals (with_reducible rfl)
          simp only [Act.put, List.getElem_toArray, List.getElem_cons_zero, List.getElem_cons_succ, List.setIfInBounds_toArray, List.set_cons_zero, List.set_cons_succ]
          refine wpAnyH_take (i := 3) (v := ?_) rfl (by kernel_rfl) (by kernel_rfl) (by kernel_rfl) (fun _ _ _ h => h) (Or.inl ⟨by rfl, fun W hSw => ?_⟩) (by assumption) ?_
          rotate_left
          · (have hq := HSX.out W hSw); (try simp only [List.getElem_toArray, List.getElem_cons_zero, List.getElem_cons_succ]); go_simp; any_goals (with_reducible rfl)
          simp only [Act.put, List.getElem_toArray, List.getElem_cons_zero, List.getElem_cons_succ, List.setIfInBounds_toArray, List.set_cons_zero, List.set_cons_succ]
          refine wpAnyH_ready (rs := [4, 8]) (by kernel_rfl) (by simp) ?_
          refine AllReadyH.cons rfl (fun K hK => ?_) (AllReadyH.cons rfl (fun K hK => ?_) AllReadyH.nil)
          · (try simp only [List.getElem_toArray, List.getElem_cons_zero, List.getElem_cons_succ])
            go_simp
            refine (HATS.out _ HM.out.drew).mono ?_
            rintro e w5 ⟨⟨zk, zf, zn, zw, zla, zln, zlc, zma, zmn, zmc⟩, rfl, hpt, m5⟩
            have n5 : New w3 w5 := (Mod.refl _ _).drew.trans m5
            go_wp2_with fail
            refine hK.out _ _ n5 (fun hHeld => ?_)
            clear hK K
            (try simp only [Act.put, List.getElem_toArray, List.getElem_cons_zero, List.getElem_cons_succ, List.setIfInBounds_toArray, List.set_cons_zero, List.set_cons_succ])
            refine wpAnyH_take (i := 5) (v := ?_) rfl (by kernel_rfl) (by kernel_rfl) (by kernel_rfl) (fun _ _ _ h => h) (Or.inl ⟨by rfl, fun W hSw => ?_⟩) (by assumption) ?_
            rotate_left
            · (have hq := HSX.out W hSw); (try simp only [List.getElem_toArray, List.getElem_cons_zero, List.getElem_cons_succ]); go_simp; any_goals (with_reducible rfl)
            simp only [Act.put, List.getElem_toArray, List.getElem_cons_zero, List.getElem_cons_succ, List.setIfInBounds_toArray, List.set_cons_zero, List.set_cons_succ]
            refine wpAnyH_take (i := 6) (v := ?_) rfl (by kernel_rfl) (by kernel_rfl) (by kernel_rfl) (fun _ _ _ h => h) (Or.inl ⟨by rfl, fun W hSw => ?_⟩) (by assumption) ?_
            rotate_left
            · (have hq := HSX.out W hSw); (try simp only [List.getElem_toArray, List.getElem_cons_zero, List.getElem_cons_succ]); go_simp; any_goals (with_reducible rfl)
            simp only [Act.put, List.getElem_toArray, List.getElem_cons_zero, List.getElem_cons_succ, List.setIfInBounds_toArray, List.set_cons_zero, List.set_cons_succ]
            refine wpAnyH_take (i := 7) (v := ?_) rfl (by kernel_rfl) (by kernel_rfl) (by kernel_rfl) (fun _ _ _ h => h) (Or.inl ⟨by rfl, fun W hSw => ?_⟩) (by assumption) ?_
            rotate_left
            · (have hq := HSX.out W hSw); (try simp only [List.getElem_toArray, List.getElem_cons_zero, List.getElem_cons_succ]); go_simp; any_goals (with_reducible rfl)
            simp only [Act.put, List.getElem_toArray, List.getElem_cons_zero, List.getElem_cons_succ, List.setIfInBounds_toArray, List.set_cons_zero, List.set_cons_succ]
            refine wpAnyH_ready (rs := [8]) (by kernel_rfl) (by simp) ?_
            refine AllReadyH.cons rfl (fun K hK => ?_) AllReadyH.nil
            (try simp only [List.getElem_toArray, List.getElem_cons_zero, List.getElem_cons_succ])
            go_simp
            clear hHeld
            refine hK.out _ _ (n5.alloc _) (fun hHeld => ?_)
            clear hK K
            (try simp only [Act.put, List.getElem_toArray, List.getElem_cons_zero, List.getElem_cons_succ, List.setIfInBounds_toArray, List.set_cons_zero, List.set_cons_succ])
            refine wpAnyH_ready (rs := [9]) (by kernel_rfl) (by simp) ?_
            refine AllReadyH.cons rfl (fun K hK => ?_) AllReadyH.nil
            (try simp only [List.getElem_toArray, List.getElem_cons_zero, List.getElem_cons_succ])
            go_simp
            clear hHeld
            refine hK.out _ _ (n5.alloc _) (fun hHeld => ?_)
            clear hK K
            (try simp only [Act.put, List.getElem_toArray, List.getElem_cons_zero, List.getElem_cons_succ, List.setIfInBounds_toArray, List.set_cons_zero, List.set_cons_succ])
            refine wpAnyH_take (i := 10) (v := ?_) rfl (by kernel_rfl) (by kernel_rfl) (by kernel_rfl) (fun _ _ _ h => h) (Or.inl ⟨by rfl, fun W hSw => ?_⟩) (by assumption) ?_
            rotate_left
            · (have hq := HSX.out W hSw); (try simp only [List.getElem_toArray, List.getElem_cons_zero, List.getElem_cons_succ]); go_simp; any_goals (with_reducible rfl)
            simp only [Act.put, List.getElem_toArray, List.getElem_cons_zero, List.getElem_cons_succ, List.setIfInBounds_toArray, List.set_cons_zero, List.set_cons_succ]
            refine wpAnyH_done (by kernel_rfl) ?_ _
            clear hHeld
            go_wp2_with fail
            go_meet
            case rel => exact ⟨_, ⟨zk, zf, zn, zw, zla, zln, zlc, zma, zmn, zmc⟩, rfl, rfl, Lib.hid (Blk.new _ _ _), by have := n5.size; omega, Lib.hid (hpt.new ((Mod.refl _ _).alloc _)), Lib.hid (n5.alloc _)⟩
          · (try simp only [List.getElem_toArray, List.getElem_cons_zero, List.getElem_cons_succ])
            go_simp
            clear hHeld
            have bz0 := Blk.new w3 29 #[.int .i64 0, .bool false, .int .i64 0, .string ⟨#[]⟩, .slice none 0 0, .slice none 0 0]
            have n4 : New w3 (World.drew (w3.alloc (.cells #[.int .i64 0, .bool false, .int .i64 0, .string ⟨#[]⟩, .slice none 0 0, .slice none 0 0] 29))) := ((Mod.refl _ _).alloc _).drew
            have n4b : New (w3.alloc (.cells #[.int .i64 0, .bool false, .int .i64 0, .string ⟨#[]⟩, .slice none 0 0, .slice none 0 0] 29)) (World.drew (w3.alloc (.cells #[.int .i64 0, .bool false, .int .i64 0, .string ⟨#[]⟩, .slice none 0 0, .slice none 0 0] 29))) := (Mod.refl _ _).drew
            refine hK.out _ _ n4 (fun hHeld => ?_)
            clear hK K
            (try simp only [Act.put, List.getElem_toArray, List.getElem_cons_zero, List.getElem_cons_succ, List.setIfInBounds_toArray, List.set_cons_zero, List.set_cons_succ])
            refine wpAnyH_ready (rs := [4]) (by kernel_rfl) (by simp) ?_
            refine AllReadyH.cons rfl (fun K hK => ?_) AllReadyH.nil
            (try simp only [List.getElem_toArray, List.getElem_cons_zero, List.getElem_cons_succ])
            go_simp
            clear hHeld
            refine (HATS.out _ (HM.out.trans n4)).mono ?_
            rintro e w5 ⟨⟨zk, zf, zn, zw, zla, zln, zlc, zma, zmn, zmc⟩, rfl, hpt, m5⟩
            have n5 : New w3 w5 := n4.trans m5
            have bz := (bz0.mod n4b (fun e => e)).mod m5 (fun e => e)
            have hcs : w3.heap.size < (World.drew (w3.alloc (.cells #[.int .i64 0, .bool false, .int .i64 0, .string ⟨#[]⟩, .slice none 0 0, .slice none 0 0] 29))).heap.size := (bz0.mod n4b (fun e => e)).lt
            have z0 := bz.cell 0
            have z1 := bz.cell 1
            have z2 := bz.cell 2
            have z3 := bz.cell 3
            have z4 := bz.cell 4
            have z5 := bz.cell 5
            have zl := bz.lt
            have zfr := bz.frozen
            simp only [List.getElem?_toArray, List.getElem?_cons_zero, List.getElem?_cons_succ] at z0 z1 z2 z3 z4 z5
            have n6 : New w3 ((((((w5.setCell ⟨w3.heap.size, 0, none⟩ (.int .i64 zk)).setCell ⟨w3.heap.size, 1, none⟩ (.bool zf)).setCell ⟨w3.heap.size, 2, none⟩ (.int .i64 zn)).setCell ⟨w3.heap.size, 3, none⟩ (.string zw)).setCell ⟨w3.heap.size, 4, none⟩ (.slice zla zln zlc)).setCell ⟨w3.heap.size, 5, none⟩ (.slice zma zmn zmc)) := Mod.setCell (Mod.setCell (Mod.setCell (Mod.setCell (Mod.setCell (Mod.setCell n5 (.inr (Nat.le_refl _)) _) (.inr (Nat.le_refl _)) _) (.inr (Nat.le_refl _)) _) (.inr (Nat.le_refl _)) _) (.inr (Nat.le_refl _)) _) (.inr (Nat.le_refl _)) _
            clear bz0 n4b
            go_wp2_with fail
            refine hK.out _ _ n5 (fun hHeld => ?_)
            clear hK K
            (try simp only [Act.put, List.getElem_toArray, List.getElem_cons_zero, List.getElem_cons_succ, List.setIfInBounds_toArray, List.set_cons_zero, List.set_cons_succ])
            refine wpAnyH_take (i := 5) (v := ?_) rfl (by kernel_rfl) (by kernel_rfl) (by kernel_rfl) (fun _ _ _ h => h) (Or.inl ⟨by rfl, fun W hSw => ?_⟩) (by assumption) ?_
            rotate_left
            · (have hq := HSX.out W hSw); (try simp only [List.getElem_toArray, List.getElem_cons_zero, List.getElem_cons_succ]); go_simp; any_goals (with_reducible rfl)
            simp only [Act.put, List.getElem_toArray, List.getElem_cons_zero, List.getElem_cons_succ, List.setIfInBounds_toArray, List.set_cons_zero, List.set_cons_succ]
            refine wpAnyH_take (i := 6) (v := ?_) rfl (by kernel_rfl) (by kernel_rfl) (by kernel_rfl) (fun _ _ _ h => h) (Or.inl ⟨by rfl, fun W hSw => ?_⟩) (by assumption) ?_
            rotate_left
            · (have hq := HSX.out W hSw); (try simp only [List.getElem_toArray, List.getElem_cons_zero, List.getElem_cons_succ]); go_simp; any_goals (with_reducible rfl)
            simp only [Act.put, List.getElem_toArray, List.getElem_cons_zero, List.getElem_cons_succ, List.setIfInBounds_toArray, List.set_cons_zero, List.set_cons_succ]
            refine wpAnyH_take (i := 7) (v := ?_) rfl (by kernel_rfl) (by kernel_rfl) (by kernel_rfl) (fun _ _ _ h => h) (Or.inl ⟨by rfl, fun W hSw => ?_⟩) (by assumption) ?_
            rotate_left
            · (have hq := HSX.out W hSw); (try simp only [List.getElem_toArray, List.getElem_cons_zero, List.getElem_cons_succ]); go_simp; any_goals (with_reducible rfl)
            simp only [Act.put, List.getElem_toArray, List.getElem_cons_zero, List.getElem_cons_succ, List.setIfInBounds_toArray, List.set_cons_zero, List.set_cons_succ]
            refine wpAnyH_ready (rs := [9]) (by kernel_rfl) (by simp) ?_
            refine AllReadyH.cons rfl (fun K hK => ?_) AllReadyH.nil
            (try simp only [List.getElem_toArray, List.getElem_cons_zero, List.getElem_cons_succ])
            go_simp
            clear hHeld
            refine hK.out _ _ n6 (fun hHeld => ?_)
            clear hK K
            (try simp only [Act.put, List.getElem_toArray, List.getElem_cons_zero, List.getElem_cons_succ, List.setIfInBounds_toArray, List.set_cons_zero, List.set_cons_succ])
            refine wpAnyH_take (i := 10) (v := ?_) rfl (by kernel_rfl) (by kernel_rfl) (by kernel_rfl) (fun _ _ _ h => h) (Or.inl ⟨by rfl, fun W hSw => ?_⟩) (by assumption) ?_
            rotate_left
            · (have hq := HSX.out W hSw); (try simp only [List.getElem_toArray, List.getElem_cons_zero, List.getElem_cons_succ]); go_simp; any_goals (with_reducible rfl)
            simp only [Act.put, List.getElem_toArray, List.getElem_cons_zero, List.getElem_cons_succ, List.setIfInBounds_toArray, List.set_cons_zero, List.set_cons_succ]
            refine wpAnyH_done (by kernel_rfl) ?_ _
            clear hHeld
            go_wp2_with fail
            go_meet
            case rel => exact ⟨_, ⟨zk, zf, zn, zw, zla, zln, zlc, zma, zmn, zmc⟩, rfl, rfl, Lib.hid (Blk.copy6 bz _ _ _ _ _ _), by omega, Lib.hid (Tree.mod (Only.cell6 w5 w3.heap.size _ _ _ _ _ _) (fun i hi _ e => by have := hi.2; omega) _ _ _ hpt), Lib.hid n6⟩
        case rest =>
          rename World => wx
          obtain ⟨b8, y8, rfl, rfl, HB8, hb8, HT8, HNX⟩ := hcut
          have nx := HNX.out
          have HX1 := Lib.hid (HX.out.mod nx (fun e => e))
          have HC1 := Lib.hid (HC.out.mod nx (fun e => e))
          have HR1 := Lib.hid (HR.out.mod nx (fun e => e))
          have HM1 := Lib.hid (HM.out.trans nx)
          clear e0 e1 e2 e3 e4 e5 el ef c0 c1 c2 c3 c4 c5 c6 c7 cl r0 r1 r2 r3 r4 r5 rl rf
          clear HX HC HR HM
          have HX := HX1
          have HC := HC1
          have HR := HR1
          have HM := HM1
          clear HX1 HC1 HR1 HM1
          have e0 := HX.out.cell 0
          have e1 := HX.out.cell 1
          have e2 := HX.out.cell 2
          have e3 := HX.out.cell 3
          have e4 := HX.out.cell 4
          have e5 := HX.out.cell 5
          have el := HX.out.lt
          have ef := HX.out.frozen
          have c0 := HC.out.cell 0
          have c1 := HC.out.cell 1
          have c2 := HC.out.cell 2
          have c3 := HC.out.cell 3
          have c4 := HC.out.cell 4
          have c5 := HC.out.cell 5
          have c6 := HC.out.cell 6
          have c7 := HC.out.cell 7
          have cl := HC.out.lt
          have r0 := HR.out.cell 0
          have r1 := HR.out.cell 1
          have r2 := HR.out.cell 2
          have r3 := HR.out.cell 3
          have r4 := HR.out.cell 4
          have r5 := HR.out.cell 5
          have rl := HR.out.lt
          have rf := HR.out.frozen
          simp only [List.getElem?_toArray, List.getElem?_cons_zero, List.getElem?_cons_succ] at e0 e1 e2 e3 e4 e5 c0 c1 c2 c3 c4 c5 c6 c7 r0 r1 r2 r3 r4 r5
          clear nx
          obtain ⟨y8k, y8f, y8n, y8w, y8la, y8ln, y8lc, y8ma, y8mn, y8mc⟩ := y8
          have HSY : Hid (∀ W, New wx W → (
            W.cell? ⟨b8, 0, none⟩ = some (.int .i64 y8k) ∧ W.cell? ⟨b8, 1, none⟩ = some (.bool y8f) ∧ W.cell? ⟨b8, 2, none⟩ = some (.int .i64 y8n) ∧ W.cell? ⟨b8, 3, none⟩ = some (.string y8w) ∧ W.cell? ⟨b8, 4, none⟩ = some (.slice y8la y8ln y8lc) ∧ W.cell? ⟨b8, 5, none⟩ = some (.slice y8ma y8mn y8mc) ∧
            W.cell? ⟨xb + 1, 0, none⟩ = some (.int .i64 ck) ∧ W.cell? ⟨xb + 1, 1, none⟩ = some (.slice ca cn cc) ∧ W.cell? ⟨xb + 1, 2, none⟩ = some (.int .i64 yk) ∧ W.cell? ⟨xb + 1, 3, none⟩ = some (.bool yf) ∧ W.cell? ⟨xb + 1, 4, none⟩ = some (.int .i64 yn) ∧ W.cell? ⟨xb + 1, 5, none⟩ = some (.string yw) ∧ W.cell? ⟨xb + 1, 6, none⟩ = some (.slice yla yln ylc) ∧ W.cell? ⟨xb + 1, 7, none⟩ = some (.slice yma ymn ymc) ∧ b8 < W.heap.size ∧ xb + 1 < W.heap.size
            )) := Lib.hid (fun W hW => by
            have h1 := HB8.out.mod hW (fun e => e)
            have h2 := HC.out.mod hW (fun e => e)
            exact ⟨(h1.cell 0).trans rfl, (h1.cell 1).trans rfl, (h1.cell 2).trans rfl, (h1.cell 3).trans rfl, (h1.cell 4).trans rfl, (h1.cell 5).trans rfl, (h2.cell 0).trans rfl, (h2.cell 1).trans rfl, (h2.cell 2).trans rfl, (h2.cell 3).trans rfl, (h2.cell 4).trans rfl, (h2.cell 5).trans rfl, (h2.cell 6).trans rfl, (h2.cell 7).trans rfl, h1.lt, h2.lt⟩)
          have hpl : n = q.length + 2 := by have := HPN.out; simp at this; omega
          have HREC : Hid (∀ W, New wx W → Calls Tryz.prog 29 #[VA.val ⟨y8k, y8f, y8n, y8w, y8la, y8ln, y8lc, y8ma, y8mn, y8mc⟩, CA.val ⟨ck, ca, cn, cc, ⟨yk, yf, yn, yw, yla, yln, ylc, yma, ymn, ymc⟩⟩, .slice (some ⟨g, o + 3, none⟩) (n - 1) (pc - 1)] W (RChg (fun g => G g ∧ g < xb) (d + dc) W (chg ck u (t :: q) ua))) := Lib.hid (fun W h =>
            HIH.out ⟨nm, sn, (k : Int)⟩ (t :: q) rfl (fun g => G g ∧ g < xb) d ⟨y8k, y8f, y8n, y8w, y8la, y8ln, y8lc, y8ma, y8mn, y8mc⟩ ua (some ⟨g, o + 3, none⟩) (n - 1) (pc - 1) W (HT8.out.new h) HGA.out HWA.out (HU0.out.new (HM.out.trans h)) (by
              have h9 := (HSO.out.new HNX.out).new h
              rw [show n = (n - 1) + 1 by omega] at h9
              exact h9.tail) (by omega) (by omega))
          have hb3 : (1 : Int) ≤ n := by omega
          have hb4 : (n : Int) ≤ pc := by omega
          have hb5 : 1 ≤ n := by omega
          have hb6 : ¬ pc = 1 := by omega
          have HPL := Lib.hid hpl
          clear hpl
          generalize hre : chg ck u (t :: q) ua = r at *
          obtain ⟨r1v, r2e⟩ := r
          have hqq : Hid (New wx wx) := Lib.hid (Mod.refl _ _)
          go_upto_region 10 with (fail)
          go_cut [10, 11] (fun s10 s11 wz => ∃ (b10 : Nat) (y : VA), s10 = .pointer (some ⟨b10, 0, none⟩) ∧ s11 = .int .i64 r2e ∧ Hid (Blk wz b10 29 y.cells) ∧ xb + 2 < b10 ∧ Hid (Tree wz (fun g => (G g ∧ g < xb) ∨ xb + 2 < g) (d + dc) y r1v) ∧ Hid (New wx wz))
          case first =>
            refine wp_region_held_drew (S := New wx) (by kernel_rfl) (Mod.refl _ _).drew (fun hHeld => ?_)
            refine wpAnyH_take (i := 0) (v := ?_) rfl (by kernel_rfl) (by kernel_rfl) (by kernel_rfl) (fun _ _ _ h => h) (Or.inl ⟨by rfl, fun W hSw => ?_⟩) (by assumption) ?_
            rotate_left
            · (have hq := HSY.out W hSw); (try simp only [List.getElem_toArray, List.getElem_cons_zero, List.getElem_cons_succ]); go_simp; any_goals (with_reducible rfl)
            simp only [Act.put, List.getElem_toArray, List.getElem_cons_zero, List.getElem_cons_succ, List.setIfInBounds_toArray, List.set_cons_zero, List.set_cons_succ]
            refine wpAnyH_take (i := 1) (v := ?_) rfl (by kernel_rfl) (by kernel_rfl) (by kernel_rfl) (fun _ _ _ h => h) (Or.inl ⟨by rfl, fun W hSw => ?_⟩) (by assumption) ?_
            rotate_left
            · (have hq := HSY.out W hSw); (try simp only [List.getElem_toArray, List.getElem_cons_zero, List.getElem_cons_succ]); go_simp; any_goals (with_reducible rfl)
            simp only [Act.put, List.getElem_toArray, List.getElem_cons_zero, List.getElem_cons_succ, List.setIfInBounds_toArray, List.set_cons_zero, List.set_cons_succ]
            refine wpAnyH_take (i := 2) (v := ?_) rfl (by kernel_rfl) (by kernel_rfl) (by kernel_rfl) (fun _ _ _ h => h) (Or.inl ⟨by rfl, fun W hSw => ?_⟩) (by assumption) ?_
            rotate_left
            · (have hq := HSY.out W hSw); (try simp only [List.getElem_toArray, List.getElem_cons_zero, List.getElem_cons_succ]); go_simp; any_goals (with_reducible rfl)
            simp only [Act.put, List.getElem_toArray, List.getElem_cons_zero, List.getElem_cons_succ, List.setIfInBounds_toArray, List.set_cons_zero, List.set_cons_succ]
            refine wpAnyH_take (i := 3) (v := ?_) rfl (by kernel_rfl) (by kernel_rfl) (by kernel_rfl) (fun _ _ _ h => h) (Or.inl ⟨by rfl, fun W hSw => ?_⟩) (by assumption) ?_
            rotate_left
            · (have hq := HSY.out W hSw); (try simp only [List.getElem_toArray, List.getElem_cons_zero, List.getElem_cons_succ]); go_simp; any_goals (with_reducible rfl)
            simp only [Act.put, List.getElem_toArray, List.getElem_cons_zero, List.getElem_cons_succ, List.setIfInBounds_toArray, List.set_cons_zero, List.set_cons_succ]
            refine wpAnyH_ready (rs := [4, 8]) (by kernel_rfl) (by simp) ?_
            refine AllReadyH.cons rfl (fun K hK => ?_) (AllReadyH.cons rfl (fun K hK => ?_) AllReadyH.nil)
            · (try simp only [List.getElem_toArray, List.getElem_cons_zero, List.getElem_cons_succ])
              go_simp
              refine (HREC.out _ hqq.out.drew).mono ?_
              rintro e w5 ⟨⟨zk, zf, zn, zw, zla, zln, zlc, zma, zmn, zmc⟩, rfl, hpt, m5⟩
              have n5 : New wx w5 := (Mod.refl _ _).drew.trans m5
              go_wp2_with fail
              refine hK.out _ _ n5 (fun hHeld => ?_)
              clear hK K
              (try simp only [Act.put, List.getElem_toArray, List.getElem_cons_zero, List.getElem_cons_succ, List.setIfInBounds_toArray, List.set_cons_zero, List.set_cons_succ])
              refine wpAnyH_take (i := 5) (v := ?_) rfl (by kernel_rfl) (by kernel_rfl) (by kernel_rfl) (fun _ _ _ h => h) (Or.inl ⟨by rfl, fun W hSw => ?_⟩) (by assumption) ?_
              rotate_left
              · (have hq := HSY.out W hSw); (try simp only [List.getElem_toArray, List.getElem_cons_zero, List.getElem_cons_succ]); go_simp; any_goals (with_reducible rfl)
              simp only [Act.put, List.getElem_toArray, List.getElem_cons_zero, List.getElem_cons_succ, List.setIfInBounds_toArray, List.set_cons_zero, List.set_cons_succ]
              refine wpAnyH_take (i := 6) (v := ?_) rfl (by kernel_rfl) (by kernel_rfl) (by kernel_rfl) (fun _ _ _ h => h) (Or.inl ⟨by rfl, fun W hSw => ?_⟩) (by assumption) ?_
              rotate_left
              · (have hq := HSY.out W hSw); (try simp only [List.getElem_toArray, List.getElem_cons_zero, List.getElem_cons_succ]); go_simp; any_goals (with_reducible rfl)
              simp only [Act.put, List.getElem_toArray, List.getElem_cons_zero, List.getElem_cons_succ, List.setIfInBounds_toArray, List.set_cons_zero, List.set_cons_succ]
              refine wpAnyH_take (i := 7) (v := ?_) rfl (by kernel_rfl) (by kernel_rfl) (by kernel_rfl) (fun _ _ _ h => h) (Or.inl ⟨by rfl, fun W hSw => ?_⟩) (by assumption) ?_
              rotate_left
              · (have hq := HSY.out W hSw); (try simp only [List.getElem_toArray, List.getElem_cons_zero, List.getElem_cons_succ]); go_simp; any_goals (with_reducible rfl)
              simp only [Act.put, List.getElem_toArray, List.getElem_cons_zero, List.getElem_cons_succ, List.setIfInBounds_toArray, List.set_cons_zero, List.set_cons_succ]
              refine wpAnyH_ready (rs := [8]) (by kernel_rfl) (by simp) ?_
              refine AllReadyH.cons rfl (fun K hK => ?_) AllReadyH.nil
              (try simp only [List.getElem_toArray, List.getElem_cons_zero, List.getElem_cons_succ])
              go_simp
              clear hHeld
              refine hK.out _ _ (n5.alloc _) (fun hHeld => ?_)
              clear hK K
              (try simp only [Act.put, List.getElem_toArray, List.getElem_cons_zero, List.getElem_cons_succ, List.setIfInBounds_toArray, List.set_cons_zero, List.set_cons_succ])
              refine wpAnyH_ready (rs := [9]) (by kernel_rfl) (by simp) ?_
              refine AllReadyH.cons rfl (fun K hK => ?_) AllReadyH.nil
              (try simp only [List.getElem_toArray, List.getElem_cons_zero, List.getElem_cons_succ])
              go_simp
              clear hHeld
              refine hK.out _ _ (n5.alloc _) (fun hHeld => ?_)
              clear hK K
              (try simp only [Act.put, List.getElem_toArray, List.getElem_cons_zero, List.getElem_cons_succ, List.setIfInBounds_toArray, List.set_cons_zero, List.set_cons_succ])
              refine wpAnyH_take (i := 10) (v := ?_) rfl (by kernel_rfl) (by kernel_rfl) (by kernel_rfl) (fun _ _ _ h => h) (Or.inl ⟨by rfl, fun W hSw => ?_⟩) (by assumption) ?_
              rotate_left
              · (have hq := HSY.out W hSw); (try simp only [List.getElem_toArray, List.getElem_cons_zero, List.getElem_cons_succ]); go_simp; any_goals (with_reducible rfl)
              simp only [Act.put, List.getElem_toArray, List.getElem_cons_zero, List.getElem_cons_succ, List.setIfInBounds_toArray, List.set_cons_zero, List.set_cons_succ]
              refine wpAnyH_done (by kernel_rfl) ?_ _
              clear hHeld
              go_wp2_with fail
              go_meet
              case rel => exact ⟨_, ⟨zk, zf, zn, zw, zla, zln, zlc, zma, zmn, zmc⟩, rfl, rfl, Lib.hid (Blk.new _ _ _), by have := n5.size; omega, Lib.hid ((Tree.imp (G := fun g9 => (G g9 ∧ g9 < xb) ∨ wx.drew.heap.size ≤ g9) (fun g9 h9 _ => Or.elim h9 (fun h => Or.inl h) (fun h => Or.inr (by have hz : wx.drew.heap.size = wx.heap.size := rfl; omega))) _ _ _ hpt).new ((Mod.refl _ _).alloc _)), Lib.hid (n5.alloc _)⟩
            · (try simp only [List.getElem_toArray, List.getElem_cons_zero, List.getElem_cons_succ])
              go_simp
              clear hHeld
              have bz0 := Blk.new wx 29 #[.int .i64 0, .bool false, .int .i64 0, .string ⟨#[]⟩, .slice none 0 0, .slice none 0 0]
              have n4 : New wx (World.drew (wx.alloc (.cells #[.int .i64 0, .bool false, .int .i64 0, .string ⟨#[]⟩, .slice none 0 0, .slice none 0 0] 29))) := ((Mod.refl _ _).alloc _).drew
              have n4b : New (wx.alloc (.cells #[.int .i64 0, .bool false, .int .i64 0, .string ⟨#[]⟩, .slice none 0 0, .slice none 0 0] 29)) (World.drew (wx.alloc (.cells #[.int .i64 0, .bool false, .int .i64 0, .string ⟨#[]⟩, .slice none 0 0, .slice none 0 0] 29))) := (Mod.refl _ _).drew
              refine hK.out _ _ n4 (fun hHeld => ?_)
              clear hK K
              (try simp only [Act.put, List.getElem_toArray, List.getElem_cons_zero, List.getElem_cons_succ, List.setIfInBounds_toArray, List.set_cons_zero, List.set_cons_succ])
              refine wpAnyH_ready (rs := [4]) (by kernel_rfl) (by simp) ?_
              refine AllReadyH.cons rfl (fun K hK => ?_) AllReadyH.nil
              (try simp only [List.getElem_toArray, List.getElem_cons_zero, List.getElem_cons_succ])
              go_simp
              clear hHeld
              refine (HREC.out _ (hqq.out.trans n4)).mono ?_
              rintro e w5 ⟨⟨zk, zf, zn, zw, zla, zln, zlc, zma, zmn, zmc⟩, rfl, hpt, m5⟩
              have n5 : New wx w5 := n4.trans m5
              have bz := (bz0.mod n4b (fun e => e)).mod m5 (fun e => e)
              have hcs : wx.heap.size < (World.drew (wx.alloc (.cells #[.int .i64 0, .bool false, .int .i64 0, .string ⟨#[]⟩, .slice none 0 0, .slice none 0 0] 29))).heap.size := (bz0.mod n4b (fun e => e)).lt
              have z0 := bz.cell 0
              have z1 := bz.cell 1
              have z2 := bz.cell 2
              have z3 := bz.cell 3
              have z4 := bz.cell 4
              have z5 := bz.cell 5
              have zl := bz.lt
              have zfr := bz.frozen
              simp only [List.getElem?_toArray, List.getElem?_cons_zero, List.getElem?_cons_succ] at z0 z1 z2 z3 z4 z5
              have n6 : New wx ((((((w5.setCell ⟨wx.heap.size, 0, none⟩ (.int .i64 zk)).setCell ⟨wx.heap.size, 1, none⟩ (.bool zf)).setCell ⟨wx.heap.size, 2, none⟩ (.int .i64 zn)).setCell ⟨wx.heap.size, 3, none⟩ (.string zw)).setCell ⟨wx.heap.size, 4, none⟩ (.slice zla zln zlc)).setCell ⟨wx.heap.size, 5, none⟩ (.slice zma zmn zmc)) := Mod.setCell (Mod.setCell (Mod.setCell (Mod.setCell (Mod.setCell (Mod.setCell n5 (.inr (Nat.le_refl _)) _) (.inr (Nat.le_refl _)) _) (.inr (Nat.le_refl _)) _) (.inr (Nat.le_refl _)) _) (.inr (Nat.le_refl _)) _) (.inr (Nat.le_refl _)) _
              clear bz0 n4b
              go_wp2_with fail
              refine hK.out _ _ n5 (fun hHeld => ?_)
              clear hK K
              (try simp only [Act.put, List.getElem_toArray, List.getElem_cons_zero, List.getElem_cons_succ, List.setIfInBounds_toArray, List.set_cons_zero, List.set_cons_succ])
              refine wpAnyH_take (i := 5) (v := ?_) rfl (by kernel_rfl) (by kernel_rfl) (by kernel_rfl) (fun _ _ _ h => h) (Or.inl ⟨by rfl, fun W hSw => ?_⟩) (by assumption) ?_
              rotate_left
              · (have hq := HSY.out W hSw); (try simp only [List.getElem_toArray, List.getElem_cons_zero, List.getElem_cons_succ]); go_simp; any_goals (with_reducible rfl)
              simp only [Act.put, List.getElem_toArray, List.getElem_cons_zero, List.getElem_cons_succ, List.setIfInBounds_toArray, List.set_cons_zero, List.set_cons_succ]
              refine wpAnyH_take (i := 6) (v := ?_) rfl (by kernel_rfl) (by kernel_rfl) (by kernel_rfl) (fun _ _ _ h => h) (Or.inl ⟨by rfl, fun W hSw => ?_⟩) (by assumption) ?_
              rotate_left
              · (have hq := HSY.out W hSw); (try simp only [List.getElem_toArray, List.getElem_cons_zero, List.getElem_cons_succ]); go_simp; any_goals (with_reducible rfl)
              simp only [Act.put, List.getElem_toArray, List.getElem_cons_zero, List.getElem_cons_succ, List.setIfInBounds_toArray, List.set_cons_zero, List.set_cons_succ]
              refine wpAnyH_take (i := 7) (v := ?_) rfl (by kernel_rfl) (by kernel_rfl) (by kernel_rfl) (fun _ _ _ h => h) (Or.inl ⟨by rfl, fun W hSw => ?_⟩) (by assumption) ?_
              rotate_left
              · (have hq := HSY.out W hSw); (try simp only [List.getElem_toArray, List.getElem_cons_zero, List.getElem_cons_succ]); go_simp; any_goals (with_reducible rfl)
              simp only [Act.put, List.getElem_toArray, List.getElem_cons_zero, List.getElem_cons_succ, List.setIfInBounds_toArray, List.set_cons_zero, List.set_cons_succ]
              refine wpAnyH_ready (rs := [9]) (by kernel_rfl) (by simp) ?_
              refine AllReadyH.cons rfl (fun K hK => ?_) AllReadyH.nil
              (try simp only [List.getElem_toArray, List.getElem_cons_zero, List.getElem_cons_succ])
              go_simp
              clear hHeld
              refine hK.out _ _ n6 (fun hHeld => ?_)
              clear hK K
              (try simp only [Act.put, List.getElem_toArray, List.getElem_cons_zero, List.getElem_cons_succ, List.setIfInBounds_toArray, List.set_cons_zero, List.set_cons_succ])
              refine wpAnyH_take (i := 10) (v := ?_) rfl (by kernel_rfl) (by kernel_rfl) (by kernel_rfl) (fun _ _ _ h => h) (Or.inl ⟨by rfl, fun W hSw => ?_⟩) (by assumption) ?_
              rotate_left
              · (have hq := HSY.out W hSw); (try simp only [List.getElem_toArray, List.getElem_cons_zero, List.getElem_cons_succ]); go_simp; any_goals (with_reducible rfl)
              simp only [Act.put, List.getElem_toArray, List.getElem_cons_zero, List.getElem_cons_succ, List.setIfInBounds_toArray, List.set_cons_zero, List.set_cons_succ]
              refine wpAnyH_done (by kernel_rfl) ?_ _
              clear hHeld
              go_wp2_with fail
              go_meet
              case rel => exact ⟨_, ⟨zk, zf, zn, zw, zla, zln, zlc, zma, zmn, zmc⟩, rfl, rfl, Lib.hid (Blk.copy6 bz _ _ _ _ _ _), by omega, Lib.hid (Tree.imp (G := fun g9 => (G g9 ∧ g9 < xb) ∨ wx.heap.size < g9) (fun g9 h9 _ => Or.elim h9 (fun h => Or.inl h) (fun h => Or.inr (by omega))) _ _ _ (Tree.mod (Only.cell6 w5 wx.heap.size _ _ _ _ _ _) (fun g9 h9 _ e => Or.elim h9 (fun h => by have := h.2; omega) (fun h => by omega)) _ _ _ (Tree.imp (fun g9 h9 _ => Or.elim h9 (fun h => Or.inl h) (fun h => Or.inr (by omega))) _ _ _ hpt))), Lib.hid n6⟩
          case rest =>
            rename World => wz
            obtain ⟨b10, y10, rfl, rfl, HB10, hb10, HT10, HNZ⟩ := hcut
            have nz := HNZ.out
            have HX1 := Lib.hid (HX.out.mod nz (fun e => e))
            have HC1 := Lib.hid (HC.out.mod nz (fun e => e))
            have HR1 := Lib.hid (HR.out.mod nz (fun e => e))
            have HM1 := Lib.hid (HM.out.trans nz)
            clear e0 e1 e2 e3 e4 e5 el ef c0 c1 c2 c3 c4 c5 c6 c7 cl r0 r1 r2 r3 r4 r5 rl rf
            clear HX HC HR HM
            have HX := HX1
            have HC := HC1
            have HR := HR1
            have HM := HM1
            clear HX1 HC1 HR1 HM1
            have e0 := HX.out.cell 0
            have e1 := HX.out.cell 1
            have e2 := HX.out.cell 2
            have e3 := HX.out.cell 3
            have e4 := HX.out.cell 4
            have e5 := HX.out.cell 5
            have el := HX.out.lt
            have ef := HX.out.frozen
            have c0 := HC.out.cell 0
            have c1 := HC.out.cell 1
            have c2 := HC.out.cell 2
            have c3 := HC.out.cell 3
            have c4 := HC.out.cell 4
            have c5 := HC.out.cell 5
            have c6 := HC.out.cell 6
            have c7 := HC.out.cell 7
            have cl := HC.out.lt
            have r0 := HR.out.cell 0
            have r1 := HR.out.cell 1
            have r2 := HR.out.cell 2
            have r3 := HR.out.cell 3
            have r4 := HR.out.cell 4
            have r5 := HR.out.cell 5
            have rl := HR.out.lt
            have rf := HR.out.frozen
            simp only [List.getElem?_toArray, List.getElem?_cons_zero, List.getElem?_cons_succ] at e0 e1 e2 e3 e4 e5 c0 c1 c2 c3 c4 c5 c6 c7 r0 r1 r2 r3 r4 r5
            have HTZ := Lib.hid (fun W (hW : New wx W) => HTB.out W (HNX.out.trans hW))
            clear s0 s1 s2 hgl
            obtain ⟨s0, s1, s2, hgl⟩ := HTZ.out wz nz
            clear nz
            by_cases hr2 : r2e = 0
            rotate_left
            · have hr1 : (r2e != 0) = true := by simpa using hr2
              have HEQ : Hid (R = (v, r2e)) := Lib.hid (by rw [HRC.out, if_pos hr2])
              clear hr2
              go_wp2_with fail
              refine bodyPost_ret (v := .tuple #[VA.val ⟨xk, xf, xn, xw, xla, xln, xlc, xma, xmn, xmc⟩, .int .i64 r2e]) (by simp [results, Tryz.results29, go_sem, e0, e1, e2, e3, e4, e5, ef, r0, r1, r2, r3, r4, r5, rf]) rfl (RChg.of HEQ.out (y := ⟨xk, xf, xn, xw, xla, xln, xlc, xma, xmn, xmc⟩) (Tree.upto (by omega) HT.out) ?_)
              repeat (with_reducible (first | exact HM.out | (refine Mod.setCell ?_ (.inr (by first | omega | (dsimp only; omega) | skip)) _)))
            have hr1 : (r2e != 0) = false := by simpa using hr2
            have HRE0 : Hid (R = chS v 1 ⟨nm, sn, (k : Int)⟩ r1v) := Lib.hid (by rw [HRC.out, if_neg (by simpa using hr2)])
            clear hr2
            obtain ⟨tk, tf, tn, tw, tla, tln, tlc, tma, tmn, tmc⟩ := y10
            have h10 := HB10.out
            simp only [VA.cells] at h10
            have d0 := h10.cell 0
            have d1 := h10.cell 1
            have d2 := h10.cell 2
            have d3 := h10.cell 3
            have d4 := h10.cell 4
            have d5 := h10.cell 5
            simp only [List.getElem?_toArray, List.getElem?_cons_zero, List.getElem?_cons_succ] at d0 d1 d2 d3 d4 d5
            clear h10
            have dl := HB10.out.lt
            have h12 := Blk.new wz 57 #[.int .i64 1, .slice none 0 0, .int .i64 tk, .bool tf, .int .i64 tn, .string tw, .slice tla tln tlc, .slice tma tmn tmc]
            have m12 : New wz (wz.alloc (.cells #[.int .i64 1, .slice none 0 0, .int .i64 tk, .bool tf, .int .i64 tn, .string tw, .slice tla tln tlc, .slice tma tmn tmc] 57)) := (Mod.refl _ _).alloc _
            go_upto_region 14 with (fail)
            clear d0 d1 d2 d3 d4 d5 dl
            generalize wz.alloc (.cells #[.int .i64 1, .slice none 0 0, .int .i64 tk, .bool tf, .int .i64 tn, .string tw, .slice tla tln tlc, .slice tma tmn tmc] 57) = wc at *
            have HX1 := Lib.hid (HX.out.mod m12 (fun e => e))
            have HC1 := Lib.hid (HC.out.mod m12 (fun e => e))
            have HR1 := Lib.hid (HR.out.mod m12 (fun e => e))
            have HM1 := Lib.hid (HM.out.trans m12)
            clear e0 e1 e2 e3 e4 e5 el ef c0 c1 c2 c3 c4 c5 c6 c7 cl r0 r1 r2 r3 r4 r5 rl rf
            clear HX HC HR HM
            have HX := HX1
            have HC := HC1
            have HR := HR1
            have HM := HM1
            clear HX1 HC1 HR1 HM1
            have e0 := HX.out.cell 0
            have e1 := HX.out.cell 1
            have e2 := HX.out.cell 2
            have e3 := HX.out.cell 3
            have e4 := HX.out.cell 4
            have e5 := HX.out.cell 5
            have el := HX.out.lt
            have ef := HX.out.frozen
            have c0 := HC.out.cell 0
            have c1 := HC.out.cell 1
            have c2 := HC.out.cell 2
            have c3 := HC.out.cell 3
            have c4 := HC.out.cell 4
            have c5 := HC.out.cell 5
            have c6 := HC.out.cell 6
            have c7 := HC.out.cell 7
            have cl := HC.out.lt
            have r0 := HR.out.cell 0
            have r1 := HR.out.cell 1
            have r2 := HR.out.cell 2
            have r3 := HR.out.cell 3
            have r4 := HR.out.cell 4
            have r5 := HR.out.cell 5
            have rl := HR.out.lt
            have rf := HR.out.frozen
            simp only [List.getElem?_toArray, List.getElem?_cons_zero, List.getElem?_cons_succ] at e0 e1 e2 e3 e4 e5 c0 c1 c2 c3 c4 c5 c6 c7 r0 r1 r2 r3 r4 r5
            have H12 := Lib.hid h12
            have HNC := Lib.hid m12
            clear s0 s1 s2 hgl
            obtain ⟨s0, s1, s2, hgl⟩ := HTZ.out wc (HNZ.out.trans m12)
            clear h12 m12
            generalize wz.heap.size = cb at *
            have HSZ : Hid (∀ W, New wc W → (
              W.cell? ⟨xb, 0, none⟩ = some (.int .i64 xk) ∧ W.cell? ⟨xb, 1, none⟩ = some (.bool xf) ∧ W.cell? ⟨xb, 2, none⟩ = some (.int .i64 xn) ∧ W.cell? ⟨xb, 3, none⟩ = some (.string xw) ∧ W.cell? ⟨xb, 4, none⟩ = some (.slice xla xln xlc) ∧ W.cell? ⟨xb, 5, none⟩ = some (.slice xma xmn xmc) ∧
              W.cell? ⟨cb, 0, none⟩ = some (.int .i64 1) ∧ W.cell? ⟨cb, 1, none⟩ = some (.slice none 0 0) ∧ W.cell? ⟨cb, 2, none⟩ = some (.int .i64 tk) ∧ W.cell? ⟨cb, 3, none⟩ = some (.bool tf) ∧ W.cell? ⟨cb, 4, none⟩ = some (.int .i64 tn) ∧ W.cell? ⟨cb, 5, none⟩ = some (.string tw) ∧ W.cell? ⟨cb, 6, none⟩ = some (.slice tla tln tlc) ∧ W.cell? ⟨cb, 7, none⟩ = some (.slice tma tmn tmc) ∧
              W.cell? ⟨g, o, none⟩ = some (.bool nm) ∧ W.cell? ⟨g, o + 1, none⟩ = some (.string sn) ∧ W.cell? ⟨g, o + 2, none⟩ = some (.int .i64 k) ∧ g < W.heap.size ∧ xb + 1 < W.heap.size ∧ cb < W.heap.size
              )) := Lib.hid (fun W hW => by
              have h1 := HX.out.mod hW (fun e => e)
              have h2 := H12.out.mod hW (fun e => e)
              obtain ⟨h3, h4, h5, h6⟩ := HTZ.out W ((HNZ.out.trans HNC.out).trans hW)
              exact ⟨(h1.cell 0).trans rfl, (h1.cell 1).trans rfl, (h1.cell 2).trans rfl, (h1.cell 3).trans rfl, (h1.cell 4).trans rfl, (h1.cell 5).trans rfl, (h2.cell 0).trans rfl, (h2.cell 1).trans rfl, (h2.cell 2).trans rfl, (h2.cell 3).trans rfl, (h2.cell 4).trans rfl, (h2.cell 5).trans rfl, (h2.cell 6).trans rfl, (h2.cell 7).trans rfl, h3, h4, h5, h6, (HC.out.mod hW (fun e => e)).lt, h2.lt⟩)
            have HCM := Lib.hid (fun W (h : New wc W) => changedMembers_v (fun g9 => (G g9 ∧ g9 < xb) ∨ xb + 2 < g9) (d + dc) ⟨xk, xf, xn, xw, xla, xln, xlc, xma, xmn, xmc⟩ v ⟨1, none, 0, 0, ⟨tk, tf, tn, tw, tla, tln, tlc, tma, tmn, tmc⟩⟩ r1v sn W (Tree.imp (fun _ hg _ => .inl hg) _ _ _ ((Tree.upto (by omega) HT0.out).new (HM.out.trans h))) (HT10.out.new (HNC.out.trans h)) (own_idle HG.out.1).2.2 (by have := HWD.out.2.1; omega))
            have HCL := Lib.hid (fun W (h : New wc W) => changedList_v (fun g9 => (G g9 ∧ g9 < xb) ∨ xb + 2 < g9) (d + dc) ⟨xk, xf, xn, xw, xla, xln, xlc, xma, xmn, xmc⟩ v ⟨1, none, 0, 0, ⟨tk, tf, tn, tw, tla, tln, tlc, tma, tmn, tmc⟩⟩ r1v (k : Int) W (Tree.imp (fun _ hg _ => .inl hg) _ _ _ ((Tree.upto (by omega) HT0.out).new (HM.out.trans h))) (HT10.out.new (HNC.out.trans h)) ⟨by omega, by omega⟩ (by have := HWD.out.1; omega))
            have hqq2 : Hid (New wc wc) := Lib.hid (Mod.refl _ _)
            cases nm with
            | true =>
              have HRE : Hid (R = chM v 1 sn r1v) := Lib.hid (by rw [HRE0.out]; rfl)
              go_upto_region 15 with (fail)
              refine wp_region_held_ord (fun W =>
                W.cell? ⟨xb, 0, none⟩ = some (.int .i64 xk) ∧ W.cell? ⟨xb, 1, none⟩ = some (.bool xf) ∧ W.cell? ⟨xb, 2, none⟩ = some (.int .i64 xn) ∧ W.cell? ⟨xb, 3, none⟩ = some (.string xw) ∧ W.cell? ⟨xb, 4, none⟩ = some (.slice xla xln xlc) ∧ W.cell? ⟨xb, 5, none⟩ = some (.slice xma xmn xmc) ∧
                W.cell? ⟨cb, 0, none⟩ = some (.int .i64 1) ∧ W.cell? ⟨cb, 1, none⟩ = some (.slice none 0 0) ∧ W.cell? ⟨cb, 2, none⟩ = some (.int .i64 tk) ∧ W.cell? ⟨cb, 3, none⟩ = some (.bool tf) ∧ W.cell? ⟨cb, 4, none⟩ = some (.int .i64 tn) ∧ W.cell? ⟨cb, 5, none⟩ = some (.string tw) ∧ W.cell? ⟨cb, 6, none⟩ = some (.slice tla tln tlc) ∧ W.cell? ⟨cb, 7, none⟩ = some (.slice tma tmn tmc) ∧
                W.cell? ⟨g, o, none⟩ = some (.bool true) ∧ W.cell? ⟨g, o + 1, none⟩ = some (.string sn) ∧ W.cell? ⟨g, o + 2, none⟩ = some (.int .i64 k) ∧ g < W.heap.size ∧ xb + 1 < W.heap.size ∧ cb < W.heap.size
                ) [6] [0, 1, 2, 3, 4, 5, 6, 7, 8] (by kernel_rfl) (by kernel_rfl) (fun _ _ d _ _ h => by cases d <;> exact h) ?_ (fun hHeld => ?_)
              · exact HSZ.out _ (Mod.refl _ _).drew
              simp only [List.length_cons, List.length_nil, List.drop_succ_cons, List.drop_zero]
              refine heldO_take ?_ (by rfl) (by rfl) (by rfl) (fun w hSw => ?_) ?_
              rotate_left
              · (try dsimp only at hSw); go_simp; any_goals (with_reducible rfl)
              simp only [Act.put, List.setIfInBounds_toArray, List.set_cons_zero, List.set_cons_succ]
              refine heldO_take ?_ (by rfl) (by rfl) (by rfl) (fun w hSw => ?_) ?_
              rotate_left
              · (try dsimp only at hSw); go_simp; any_goals (with_reducible rfl)
              simp only [Act.put, List.setIfInBounds_toArray, List.set_cons_zero, List.set_cons_succ]
              refine heldO_take ?_ (by rfl) (by rfl) (by rfl) (fun w hSw => ?_) ?_
              rotate_left
              · (try dsimp only at hSw); go_simp; any_goals (with_reducible rfl)
              simp only [Act.put, List.setIfInBounds_toArray, List.set_cons_zero, List.set_cons_succ]
              refine heldO_take ?_ (by rfl) (by rfl) (by rfl) (fun w hSw => ?_) ?_
              rotate_left
              · (try dsimp only at hSw); go_simp; any_goals (with_reducible rfl)
              simp only [Act.put, List.setIfInBounds_toArray, List.set_cons_zero, List.set_cons_succ]
              refine heldO_take ?_ (by rfl) (by rfl) (by rfl) (fun w hSw => ?_) ?_
              rotate_left
              · (try dsimp only at hSw); go_simp; any_goals (with_reducible rfl)
              simp only [Act.put, List.setIfInBounds_toArray, List.set_cons_zero, List.set_cons_succ]
              refine heldO_take ?_ (by rfl) (by rfl) (by rfl) (fun w hSw => ?_) ?_
              rotate_left
              · (try dsimp only at hSw); go_simp; any_goals (with_reducible rfl)
              simp only [Act.put, List.setIfInBounds_toArray, List.set_cons_zero, List.set_cons_succ]
              refine heldO_step (by rfl) (by rfl) (by rfl) (fun K hK => ?_)
              go_simp
              refine (HCM.out _ (hqq2.out.drew)).mono ?_
              rintro e w5 ⟨⟨zk, zf, zn, zw, zla, zln, zlc, zma, zmn, zmc⟩, rfl, hty, m5⟩
              have n5 : New wc w5 := (Mod.refl _ _).drew.trans m5
              go_wp2_with fail
              refine hK.out _ _ (HSZ.out _ n5) (fun hHeld => ?_)
              clear hK K
              try simp only [Act.put, List.setIfInBounds_toArray, List.set_cons_zero, List.set_cons_succ]
              refine heldO_take ?_ (by rfl) (by rfl) (by rfl) (fun w hSw => ?_) ?_
              rotate_left
              · (try dsimp only at hSw); go_simp; any_goals (with_reducible rfl)
              simp only [Act.put, List.setIfInBounds_toArray, List.set_cons_zero, List.set_cons_succ]
              refine heldO_take ?_ (by rfl) (by rfl) (by rfl) (fun w hSw => ?_) ?_
              rotate_left
              · (try dsimp only at hSw); go_simp; any_goals (with_reducible rfl)
              simp only [Act.put, List.setIfInBounds_toArray, List.set_cons_zero, List.set_cons_succ]
              refine heldO_nil ?_
              have HTY : Hid (Tree w5 (fun g => (G g ∧ g < xb) ∨ xb + 2 < g) (d + dc + 1) ⟨zk, zf, zn, zw, zla, zln, zlc, zma, zmn, zmc⟩ (chM v 1 sn r1v).1) := Lib.hid (Tree.imp (fun g hg _ => by
                have hz : (wc).drew.heap.size = (wc).heap.size := rfl
                exact Or.elim hg (fun h => h) (fun h => Or.inr (by omega))) _ _ _ hty)
              have HX1 := Lib.hid (HX.out.mod n5 (fun e => e))
              have HC1 := Lib.hid (HC.out.mod n5 (fun e => e))
              have HR1 := Lib.hid (HR.out.mod n5 (fun e => e))
              have HM1 := Lib.hid (HM.out.trans n5)
              clear e0 e1 e2 e3 e4 e5 el ef c0 c1 c2 c3 c4 c5 c6 c7 cl r0 r1 r2 r3 r4 r5 rl rf
              clear HX HC HR HM
              have HX := HX1
              have HC := HC1
              have HR := HR1
              have HM := HM1
              clear HX1 HC1 HR1 HM1
              have e0 := HX.out.cell 0
              have e1 := HX.out.cell 1
              have e2 := HX.out.cell 2
              have e3 := HX.out.cell 3
              have e4 := HX.out.cell 4
              have e5 := HX.out.cell 5
              have el := HX.out.lt
              have ef := HX.out.frozen
              have c0 := HC.out.cell 0
              have c1 := HC.out.cell 1
              have c2 := HC.out.cell 2
              have c3 := HC.out.cell 3
              have c4 := HC.out.cell 4
              have c5 := HC.out.cell 5
              have c6 := HC.out.cell 6
              have c7 := HC.out.cell 7
              have cl := HC.out.lt
              have r0 := HR.out.cell 0
              have r1 := HR.out.cell 1
              have r2 := HR.out.cell 2
              have r3 := HR.out.cell 3
              have r4 := HR.out.cell 4
              have r5 := HR.out.cell 5
              have rl := HR.out.lt
              have rf := HR.out.frozen
              simp only [List.getElem?_toArray, List.getElem?_cons_zero, List.getElem?_cons_succ] at e0 e1 e2 e3 e4 e5 c0 c1 c2 c3 c4 c5 c6 c7 r0 r1 r2 r3 r4 r5
              clear hty m5 n5 hHeld
              go_wp2_with fail
              refine bodyPost_ret (v := .tuple #[VA.val ⟨zk, zf, zn, zw, zla, zln, zlc, zma, zmn, zmc⟩, .int .i64 (chM v 1 sn r1v).2]) (by simp [results, Tryz.results29, go_sem, e0, e1, e2, e3, e4, e5, ef, r0, r1, r2, r3, r4, r5, rf]) rfl ⟨⟨zk, zf, zn, zw, zla, zln, zlc, zma, zmn, zmc⟩, by rw [HRE.out], ?_, ?_⟩
              · have ht5 : Tree w5 (fun g => (G g ∧ g < xb) ∨ xb + 2 < g) (d + 1 + dc) ⟨zk, zf, zn, zw, zla, zln, zlc, zma, zmn, zmc⟩ R.1 := by
                  have h := Tree.upto (show d + dc + 1 ≤ d + 1 + dc by omega) HTY.out
                  rwa [← HRE.out] at h
                refine Tree.imp (G := fun g => (G g ∧ g < xb) ∨ xb + 2 < g) (fun g hg _ => by rcases hg with h | h; exact .inl h.1; exact .inr (by omega)) _ _ _ (Tree.mod (S := fun k => k = xb + 1 + 1) ?_ (fun g hg _ q => by rcases hg with h | h <;> omega) _ _ _ ht5)
                repeat (with_reducible (first | exact Mod.refl _ _ | (refine Mod.setCell ?_ (.inl (by first | rfl | omega | (dsimp only; omega) | skip)) _)))
              · repeat (with_reducible (first | exact HM.out | (refine Mod.setCell ?_ (.inr (by first | omega | (dsimp only; omega) | skip)) _)))
            | false =>
              have HRE : Hid (R = chL v 1 k r1v) := Lib.hid (by rw [HRE0.out]; rfl)
              go_upto_region 16 with (fail)
              refine wp_region_held_ord (fun W =>
                W.cell? ⟨xb, 0, none⟩ = some (.int .i64 xk) ∧ W.cell? ⟨xb, 1, none⟩ = some (.bool xf) ∧ W.cell? ⟨xb, 2, none⟩ = some (.int .i64 xn) ∧ W.cell? ⟨xb, 3, none⟩ = some (.string xw) ∧ W.cell? ⟨xb, 4, none⟩ = some (.slice xla xln xlc) ∧ W.cell? ⟨xb, 5, none⟩ = some (.slice xma xmn xmc) ∧
                W.cell? ⟨cb, 0, none⟩ = some (.int .i64 1) ∧ W.cell? ⟨cb, 1, none⟩ = some (.slice none 0 0) ∧ W.cell? ⟨cb, 2, none⟩ = some (.int .i64 tk) ∧ W.cell? ⟨cb, 3, none⟩ = some (.bool tf) ∧ W.cell? ⟨cb, 4, none⟩ = some (.int .i64 tn) ∧ W.cell? ⟨cb, 5, none⟩ = some (.string tw) ∧ W.cell? ⟨cb, 6, none⟩ = some (.slice tla tln tlc) ∧ W.cell? ⟨cb, 7, none⟩ = some (.slice tma tmn tmc) ∧
                W.cell? ⟨g, o, none⟩ = some (.bool false) ∧ W.cell? ⟨g, o + 1, none⟩ = some (.string sn) ∧ W.cell? ⟨g, o + 2, none⟩ = some (.int .i64 k) ∧ g < W.heap.size ∧ xb + 1 < W.heap.size ∧ cb < W.heap.size
                ) [6] [0, 1, 2, 3, 4, 5, 6, 7, 8] (by kernel_rfl) (by kernel_rfl) (fun _ _ d _ _ h => by cases d <;> exact h) ?_ (fun hHeld => ?_)
              · exact HSZ.out _ (Mod.refl _ _).drew
              simp only [List.length_cons, List.length_nil, List.drop_succ_cons, List.drop_zero]
              refine heldO_take ?_ (by rfl) (by rfl) (by rfl) (fun w hSw => ?_) ?_
              rotate_left
              · (try dsimp only at hSw); go_simp; any_goals (with_reducible rfl)
              simp only [Act.put, List.setIfInBounds_toArray, List.set_cons_zero, List.set_cons_succ]
              refine heldO_take ?_ (by rfl) (by rfl) (by rfl) (fun w hSw => ?_) ?_
              rotate_left
              · (try dsimp only at hSw); go_simp; any_goals (with_reducible rfl)
              simp only [Act.put, List.setIfInBounds_toArray, List.set_cons_zero, List.set_cons_succ]
              refine heldO_take ?_ (by rfl) (by rfl) (by rfl) (fun w hSw => ?_) ?_
              rotate_left
              · (try dsimp only at hSw); go_simp; any_goals (with_reducible rfl)
              simp only [Act.put, List.setIfInBounds_toArray, List.set_cons_zero, List.set_cons_succ]
              refine heldO_take ?_ (by rfl) (by rfl) (by rfl) (fun w hSw => ?_) ?_
              rotate_left
              · (try dsimp only at hSw); go_simp; any_goals (with_reducible rfl)
              simp only [Act.put, List.setIfInBounds_toArray, List.set_cons_zero, List.set_cons_succ]
              refine heldO_take ?_ (by rfl) (by rfl) (by rfl) (fun w hSw => ?_) ?_
              rotate_left
              · (try dsimp only at hSw); go_simp; any_goals (with_reducible rfl)
              simp only [Act.put, List.setIfInBounds_toArray, List.set_cons_zero, List.set_cons_succ]
              refine heldO_take ?_ (by rfl) (by rfl) (by rfl) (fun w hSw => ?_) ?_
              rotate_left
              · (try dsimp only at hSw); go_simp; any_goals (with_reducible rfl)
              simp only [Act.put, List.setIfInBounds_toArray, List.set_cons_zero, List.set_cons_succ]
              refine heldO_step (by rfl) (by rfl) (by rfl) (fun K hK => ?_)
              go_simp
              refine (HCL.out _ (hqq2.out.drew)).mono ?_
              rintro e w5 ⟨⟨zk, zf, zn, zw, zla, zln, zlc, zma, zmn, zmc⟩, rfl, hty, m5⟩
              have n5 : New wc w5 := (Mod.refl _ _).drew.trans m5
              go_wp2_with fail
              refine hK.out _ _ (HSZ.out _ n5) (fun hHeld => ?_)
              clear hK K
              try simp only [Act.put, List.setIfInBounds_toArray, List.set_cons_zero, List.set_cons_succ]
              refine heldO_take ?_ (by rfl) (by rfl) (by rfl) (fun w hSw => ?_) ?_
              rotate_left
              · (try dsimp only at hSw); go_simp; any_goals (with_reducible rfl)
              simp only [Act.put, List.setIfInBounds_toArray, List.set_cons_zero, List.set_cons_succ]
              refine heldO_take ?_ (by rfl) (by rfl) (by rfl) (fun w hSw => ?_) ?_
              rotate_left
              · (try dsimp only at hSw); go_simp; any_goals (with_reducible rfl)
              simp only [Act.put, List.setIfInBounds_toArray, List.set_cons_zero, List.set_cons_succ]
              refine heldO_nil ?_
              have HTY : Hid (Tree w5 (fun g => (G g ∧ g < xb) ∨ xb + 2 < g) (d + dc + 1) ⟨zk, zf, zn, zw, zla, zln, zlc, zma, zmn, zmc⟩ (chL v 1 k r1v).1) := Lib.hid (Tree.imp (fun g hg _ => by
                have hz : (wc).drew.heap.size = (wc).heap.size := rfl
                exact Or.elim hg (fun h => h) (fun h => Or.inr (by omega))) _ _ _ hty)
              have HX1 := Lib.hid (HX.out.mod n5 (fun e => e))
              have HC1 := Lib.hid (HC.out.mod n5 (fun e => e))
              have HR1 := Lib.hid (HR.out.mod n5 (fun e => e))
              have HM1 := Lib.hid (HM.out.trans n5)
              clear e0 e1 e2 e3 e4 e5 el ef c0 c1 c2 c3 c4 c5 c6 c7 cl r0 r1 r2 r3 r4 r5 rl rf
              clear HX HC HR HM
              have HX := HX1
              have HC := HC1
              have HR := HR1
              have HM := HM1
              clear HX1 HC1 HR1 HM1
              have e0 := HX.out.cell 0
              have e1 := HX.out.cell 1
              have e2 := HX.out.cell 2
              have e3 := HX.out.cell 3
              have e4 := HX.out.cell 4
              have e5 := HX.out.cell 5
              have el := HX.out.lt
              have ef := HX.out.frozen
              have c0 := HC.out.cell 0
              have c1 := HC.out.cell 1
              have c2 := HC.out.cell 2
              have c3 := HC.out.cell 3
              have c4 := HC.out.cell 4
              have c5 := HC.out.cell 5
              have c6 := HC.out.cell 6
              have c7 := HC.out.cell 7
              have cl := HC.out.lt
              have r0 := HR.out.cell 0
              have r1 := HR.out.cell 1
              have r2 := HR.out.cell 2
              have r3 := HR.out.cell 3
              have r4 := HR.out.cell 4
              have r5 := HR.out.cell 5
              have rl := HR.out.lt
              have rf := HR.out.frozen
              simp only [List.getElem?_toArray, List.getElem?_cons_zero, List.getElem?_cons_succ] at e0 e1 e2 e3 e4 e5 c0 c1 c2 c3 c4 c5 c6 c7 r0 r1 r2 r3 r4 r5
              clear hty m5 n5 hHeld
              go_wp2_with fail
              refine bodyPost_ret (v := .tuple #[VA.val ⟨zk, zf, zn, zw, zla, zln, zlc, zma, zmn, zmc⟩, .int .i64 (chL v 1 k r1v).2]) (by simp [results, Tryz.results29, go_sem, e0, e1, e2, e3, e4, e5, ef, r0, r1, r2, r3, r4, r5, rf]) rfl ⟨⟨zk, zf, zn, zw, zla, zln, zlc, zma, zmn, zmc⟩, by rw [HRE.out], ?_, ?_⟩
              · have ht5 : Tree w5 (fun g => (G g ∧ g < xb) ∨ xb + 2 < g) (d + 1 + dc) ⟨zk, zf, zn, zw, zla, zln, zlc, zma, zmn, zmc⟩ R.1 := by
                  have h := Tree.upto (show d + dc + 1 ≤ d + 1 + dc by omega) HTY.out
                  rwa [← HRE.out] at h
                refine Tree.imp (G := fun g => (G g ∧ g < xb) ∨ xb + 2 < g) (fun g hg _ => by rcases hg with h | h; exact .inl h.1; exact .inr (by omega)) _ _ _ (Tree.mod (S := fun k => k = xb + 1 + 1) ?_ (fun g hg _ q => by rcases hg with h | h <;> omega) _ _ _ ht5)
                repeat (with_reducible (first | exact Mod.refl _ _ | (refine Mod.setCell ?_ (.inl (by first | rfl | omega | (dsimp only; omega) | skip)) _)))
              · repeat (with_reducible (first | exact HM.out | (refine Mod.setCell ?_ (.inr (by first | omega | (dsimp only; omega) | skip)) _)))

theorem changed_v (dc : Nat) (c : CA) (u : VT) : ∀ p : List St, (∀ s ∈ p, 0 ≤ s.at_ ∧ s.at_ ≤ 5000) → CgSpec dc c u p
  | [], h => changed_walk dc c u [] h (fun s q e => by cases e)
  | s :: q, h => changed_walk dc c u (s :: q) h (fun s2 q2 e => by
    injection e with e1 e2
    subst e1 e2
    exact changed_v dc c u q (fun x hx => h x (List.mem_cons_of_mem _ hx)))

end Go.Proofs.YtahofcopedlenaaGreatDoor
