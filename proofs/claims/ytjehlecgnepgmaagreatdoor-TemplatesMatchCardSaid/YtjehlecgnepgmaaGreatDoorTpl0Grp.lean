/- Several texts in one. (1) The law's own helper: package route reads templates (routed). Conditions: the library's variable on searching is an int. (2) The law TemplatesMatch, walked. Conditions: the argument is a slice of ints that can be read; the library's variables lie as they should. -/
import Derived.Test.YtjehlecgnepgmaaGreatDoorTpl3
import Derived.Test.YtjehlecgnepgmaaGreatDoorMatchGrp
import Derived.Test.YtjehlecgnepgmaaGreatDoorReq1Grp
import Derived.Test.YtjehlecgnepgmaaGreatDoorPairs
import Derived.Test.YtjehlecgnepgmaaGreatDoorTplM
import Derived.Test.YtjehlecgnepgmaaGreatDoorLaw

namespace Go.Proofs.YtjehlecgnepgmaaGreatDoor
open Go.RowKit
set_option linter.unusedVariables false
set_option linter.unusedSimpArgs false

theorem tplOf_a : tplOf ⟨#[47, 97]⟩ = (0, [⟨1, ⟨#[97]⟩⟩]) := by kernel_rfl
set_option maxHeartbeats 1000000 in
theorem routed_true (w : World) (hx : MaxLn w) :
    Calls Tryz.prog 12 #[] w fun e w' => e = .returned (.bool true) ∧ New w w' := by
  have hp := route_parseTemplate ⟨#[47, 97]⟩ w (by decide) hx
  rw [tplOf_a] at hp
  go_enter Tryz.func12, Tryz.ntmps12
  go_wp2_with fail
  refine hp.mono ?_
  clear hp
  rintro e w2 ⟨A, n, c, rfl, hsl, hm, hn⟩
  have h1 : 1 = n := hsl.1
  subst h1
  obtain ⟨g, o, rfl, htb, hc⟩ := hsl.2 (by decide)
  have c0 := hc 0 (by decide) 0 (by decide)
  have c1 := hc 0 (by decide) 1 (by decide)
  have hgl := htb.lt
  simp only [List.getElem_cons_zero, PartD.enc, Nat.zero_mul, Nat.add_zero, Nat.zero_add] at c0 c1
  have HM := Lib.hid hm
  clear hc htb hsl hm
  go_wp2_with fail
  go_ret
  exact ⟨rfl, HM.out⟩

end Go.Proofs.YtjehlecgnepgmaaGreatDoor

namespace Go.Proofs.YtjehlecgnepgmaaGreatDoor
open Go.RowKit
set_option linter.unusedVariables false
set_option linter.unusedSimpArgs false

theorem SInv.tbS {b k : Nat} {w : World} (h : SInv b w k) : TB w b 25 := by
  obtain ⟨A, n, c, q, z, hb, _⟩ := h
  exact hb.tb
theorem QSl.stream {w w' : World} {b k : Nat} {A : Option Addr} {n : Nat} {ls : List PairD} (h : QSl w A n ls) (hs : SStep b w w' k) (hb : TB w b 25) : QSl w' A n ls := h.mod hs.only (fun g h e => h.ne hb (by decide) e)
theorem ErrSyn.lt {w : World} (h : ErrSyn w) : 3 < w.heap.size := by
  obtain ⟨m, hc, hr⟩ := h
  rcases Nat.lt_or_ge 3 w.heap.size with hlt | hge
  · exact hlt
  · simp [World.cell?, Array.getElem?_eq_none hge] at hc
theorem ErrSyn.mod {S : Nat → Prop} {w w' : World} (h : ErrSyn w) (hm : Mod S w w') (hS : ¬ S 3) : ErrSyn w' := by
  have hl := h.lt
  obtain ⟨m, hc, hr⟩ := h
  exact ⟨m, (hm.cell (p := ⟨3, 0, none⟩) hl hS).trans hc, hr⟩
theorem matchL_few : ∀ (ps : List PartD) (segs : List ByteArray) (out l : List PairD), matchL ps segs out = some l → l.length ≤ out.length + ps.length
  | [], segs, out, l, h => by
    unfold matchL at h
    split at h
    · injection h with h; rw [← h]; simp
    · cases h
  | p :: ps, segs, out, l, h => by
    unfold matchL at h
    split at h
    · injection h with h; rw [← h]; simp
    · split at h
      · cases h
      · split at h
        · cases h
        · have := matchL_few ps _ _ l h
          split at this
          · simp only [List.length_append, List.length_cons, List.length_nil] at this ⊢
            omega
          · simp only [List.length_cons]
            omega
theorem matchOf_few (t pa : ByteArray) : (matchOf t pa).1.length ≤ 1000 := by
  have h0 := (tplOf_small t).1
  unfold matchOf
  split
  · simp
  · split
    · simp
    · cases hm : matchL (tplOf t).2 (segsOf pa).2 [] with
      | none => simp
      | some l =>
        have := matchL_few _ _ _ _ hm
        simp only [List.length_nil] at this ⊢
        omega

set_option maxRecDepth 100000 in
set_option maxHeartbeats 1000000 in
theorem mats_walk (A : Option Addr) (n c : Nat) (w : World) (h : InInts w A n) (hX0 : MaxLn w) (hE0 : ErrSyn w) :
    Calls Tryz.prog 4 #[.slice A n c] w fun e w' => e = .returned (.bool true) ∧ New w w' := by
  have hs := SInv.start (c := c) h
  go_enter Tryz.func4, Tryz.ntmps4
  go_wp2_with fail
  have T0 := SStep.refl hs
  have hA : New w (w.alloc (.cells #[.slice A n c, .int .i64 0] 25)) := (Mod.refl _ _).alloc _
  have hEl : 3 < w.heap.size := hE0.lt
  have HXA := Lib.hid (hX0.new hA)
  have HEA := Lib.hid (hE0.new hA)
  have HX0 := Lib.hid hX0
  clear hX0 hE0
  generalize hW0 : w.alloc (.cells #[.slice A n c, .int .i64 0] 25) = W0 at *
  have hW0s : W0.heap.size = w.heap.size + 1 := by rw [← hW0]; simp
  have hnews : ∀ w' k, SStep w.heap.size W0 w' k → New w w' := fun w' k hh => by rw [← hW0] at hh; exact hh.news
  have HN := Lib.hid hnews
  have HW0 := Lib.hid hW0s
  clear hnews hW0 hA hW0s
  refine (template_any _ _ _ hs (by omega)).mono ?_
  rintro e w1 ⟨t, rfl, htz, h1⟩
  have T1 := T0.trans h1
  have HX1 := Lib.hid (HX0.out.mod HXA.out h1.only (fun g hg e => by omega))
  have HE1 := Lib.hid (HEA.out.mod h1.only (by omega))
  clear T0 h1 HXA HEA hs
  go_wp2_with fail
  refine (pathName_any w.heap.size _ w1 T1.inv (by omega)).mono ?_
  rintro e w2 ⟨pa, rfl, hpz, h2⟩
  have T2 := T1.trans h2
  have HX2 := Lib.hid (HX0.out.mod HX1.out h2.only (fun g hg e => by omega))
  have HE2 := Lib.hid (HE1.out.mod h2.only (by omega))
  clear T1 h2 HX1 HE1
  go_wp2_with fail
  refine (pairs_any w.heap.size _ w2 T2.inv (by omega)).mono ?_
  rintro e w3 ⟨Ap, np, cp, ls, rfl, hls, hnc, hn3, hz, h3⟩
  have T3 := T2.trans h3
  have HX3 := Lib.hid (HX0.out.mod HX2.out h3.only (fun g hg e => by omega))
  have HE3 := Lib.hid (HE2.out.mod h3.only (by omega))
  have HZL : Hid (∀ x ∈ ls, x.2.size ≤ 300) := Lib.hid (fun x hx => by have := (hz x hx).2; omega)
  have HQ3 := Lib.hid hls
  have HQN : Hid ((matchOf t pa).1.length ≤ 1000) := Lib.hid (matchOf_few t pa)
  clear T2 h3 HX2 HE2 hls hz
  go_wp2_with fail
  refine (flip_any _ _ 2 w3 T3.inv (by omega) (by omega) (by omega)).mono ?_
  rintro e w4 ⟨fl, rfl, h4⟩
  have T4 := T3.trans h4
  have HX4 := Lib.hid (HX0.out.mod HX3.out h4.only (fun g hg e => by omega))
  have HE4 := Lib.hid (HE3.out.mod h4.only (by omega))
  have HQ4 := Lib.hid (HQ3.out.stream h4 T3.inv.tbS)
  clear T3 h4 HX3 HE3 HQ3
  cases fl
  · have hmt := route_Match t pa w4 (by omega) (by omega) HX4.out
    have hmr := fun W (m : New w4 W) => ref1_matchOf t pa W (by omega) (by omega) (HX4.out.new m) (HE4.out.new m)
    have HMR := Lib.hid hmr
    clear hmr
    generalize matchOf t pa = q at *
    obtain ⟨q1, q2, q3⟩ := q
    go_wp2_with fail
    refine hmt.mono ?_
    clear hmt
    rintro e w5 ⟨A5, n5, c5, rfl, hp5, m5, hc5⟩
    have T5 := T4.new m5
    have HX5 := Lib.hid (HX4.out.new m5)
    have HE5 := Lib.hid (HE4.out.new m5)
    have HQ5 := Lib.hid (HQ4.out.new m5)
    have HP5 := Lib.hid hp5
    have hmr := HMR.out w5 m5
    clear T4 m5 hp5 HMR HX4 HE4 HQ4
    simp only
    go_wp2_with fail
    refine hmr.mono ?_
    clear hmr
    rintro e w6 ⟨A6, n6, c6, rfl, hp6, m6, hc6⟩
    have T6 := T5.new m6
    have HX6 := Lib.hid (HX5.out.new m6)
    have HE6 := Lib.hid (HE5.out.new m6)
    have HQ6 := Lib.hid (HQ5.out.new m6)
    have hp5 := HP5.out.new m6
    have hn : n5 = n6 := hp5.1.symm.trans hp6.1
    subst hn
    have hn5 : n5 ≤ 1000000 := by
      have h1 := HQN.out
      have h2 := hp5.1
      (try simp only at h1)
      (try simp only at h2)
      omega
    have heq := equal_pairs q1 A5 A6 n5 c5 c6 w6 hp5 hp6 hn5
    have hqq : ((q3 : Int) != q3) = false := by simp
    have hbb : ((q2 : Bool) != q2) = false := by simp
    clear T5 m6 hp5 hp6 HP5 HX5 HE5 HQ5 hc5 hc6 hn5
    simp only
    go_wp2_with fail
    refine heq.mono ?_
    clear heq
    rintro e w7 ⟨rfl, m7⟩
    have T7 := T6.new m7
    have HX7 := Lib.hid (HX6.out.new m7)
    have HE7 := Lib.hid (HE6.out.new m7)
    have HQ7 := Lib.hid (HQ6.out.new m7)
    clear T6 m7 HX6 HE6 HQ6 hqq hbb
    have hbt := route_BuildT t Ap np cp ls w7 (by omega) HQ7.out (by omega) hnc HZL.out HX7.out
    have hbr := fun W (m : New w7 W) => ref1_BuildOfT t Ap np cp ls W (by omega) (HQ7.out.new m) (by omega) hnc HZL.out (HX7.out.new m) (HE7.out.new m)
    have HBR := Lib.hid hbr
    clear hbr
    generalize buildOf t ls = z at *
    obtain ⟨z1, z2⟩ := z
    go_wp2_with fail
    refine hbt.mono ?_
    clear hbt
    rintro e w8 ⟨rfl, m8⟩
    have T8 := T7.new m8
    have HX8 := Lib.hid (HX7.out.new m8)
    have hbr := HBR.out w8 m8
    clear T7 m8 HX7 HBR HE7 HQ7
    simp only
    go_wp2_with fail
    refine hbr.mono ?_
    clear hbr
    rintro e w9 ⟨rfl, m9⟩
    have T9 := T8.new m9
    have HX9 := Lib.hid (HX8.out.new m9)
    have hzz : ((z1 : Int) == z1) = true := by simp
    simp only
    generalize (⟨z2.toArray⟩ : ByteArray) = X at *
    have hxx : (X.toList == X.toList) = true := by simp
    clear T8 m9 HX8
    go_wp2_with fail
    refine (routed_true _ HX9.out).mono ?_
    rintro e wA ⟨rfl, mA⟩
    go_wp2_with fail
    go_ret
    exact ⟨rfl, HN.out _ _ (T9.new mA)⟩
  · go_wp2_with fail
    clear HQN hpz
    refine (routeRequest_any _ _ w4 T4.inv (by omega)).mono ?_
    rintro e wB ⟨r, rfl, hpz, hB⟩
    have TB := T4.trans hB
    have HXB := Lib.hid (HX0.out.mod HX4.out hB.only (fun g hg e => by omega))
    have HEB := Lib.hid (HE4.out.mod hB.only (by omega))
    have HQB := Lib.hid (HQ4.out.stream hB T4.inv.tbS)
    clear T4 hB HX4 HE4 HQ4
    obtain ⟨r1, r2, r3, pa, r5, r6, r7, r8, r9, r10⟩ := r
    unfold ReqD.val
    simp only at hpz ⊢
    have hfd : ∀ W : World, (Instr.field 44 (.agg #[.int .i64 r1, .string r2, .string r3, .string pa, .string r5, .string r6, .slice r7 r8 r9, .string r10]) 3).run Tryz.prog W = .ok (.string pa) W := fun _ => by kernel_rfl
    have HQN : Hid ((matchOf t pa).1.length ≤ 1000) := Lib.hid (matchOf_few t pa)
    have hmt := route_Match t pa wB (by omega) (by omega) HXB.out
    have hmr := fun W (m : New wB W) => ref1_matchOf t pa W (by omega) (by omega) (HXB.out.new m) (HEB.out.new m)
    have HMR := Lib.hid hmr
    clear hmr
    generalize matchOf t pa = q at *
    obtain ⟨q1, q2, q3⟩ := q
    go_wp2_with fail
    refine hmt.mono ?_
    clear hmt
    rintro e w5 ⟨A5, n5, c5, rfl, hp5, m5, hc5⟩
    have T5 := TB.new m5
    have HX5 := Lib.hid (HXB.out.new m5)
    have HE5 := Lib.hid (HEB.out.new m5)
    have HQ5 := Lib.hid (HQB.out.new m5)
    have HP5 := Lib.hid hp5
    have hmr := HMR.out w5 m5
    clear TB m5 hp5 HMR HXB HEB HQB
    simp only
    go_wp2_with fail
    refine hmr.mono ?_
    clear hmr
    rintro e w6 ⟨A6, n6, c6, rfl, hp6, m6, hc6⟩
    have T6 := T5.new m6
    have HX6 := Lib.hid (HX5.out.new m6)
    have HE6 := Lib.hid (HE5.out.new m6)
    have HQ6 := Lib.hid (HQ5.out.new m6)
    have hp5 := HP5.out.new m6
    have hn : n5 = n6 := hp5.1.symm.trans hp6.1
    subst hn
    have hn5 : n5 ≤ 1000000 := by
      have h1 := HQN.out
      have h2 := hp5.1
      (try simp only at h1)
      (try simp only at h2)
      omega
    have heq := equal_pairs q1 A5 A6 n5 c5 c6 w6 hp5 hp6 hn5
    have hqq : ((q3 : Int) != q3) = false := by simp
    have hbb : ((q2 : Bool) != q2) = false := by simp
    clear T5 m6 hp5 hp6 HP5 HX5 HE5 HQ5 hc5 hc6 hn5
    simp only
    go_wp2_with fail
    refine heq.mono ?_
    clear heq
    rintro e w7 ⟨rfl, m7⟩
    have T7 := T6.new m7
    have HX7 := Lib.hid (HX6.out.new m7)
    have HE7 := Lib.hid (HE6.out.new m7)
    have HQ7 := Lib.hid (HQ6.out.new m7)
    clear T6 m7 HX6 HE6 HQ6 hqq hbb
    have hbt := route_BuildT t Ap np cp ls w7 (by omega) HQ7.out (by omega) hnc HZL.out HX7.out
    have hbr := fun W (m : New w7 W) => ref1_BuildOfT t Ap np cp ls W (by omega) (HQ7.out.new m) (by omega) hnc HZL.out (HX7.out.new m) (HE7.out.new m)
    have HBR := Lib.hid hbr
    clear hbr
    generalize buildOf t ls = z at *
    obtain ⟨z1, z2⟩ := z
    go_wp2_with fail
    refine hbt.mono ?_
    clear hbt
    rintro e w8 ⟨rfl, m8⟩
    have T8 := T7.new m8
    have HX8 := Lib.hid (HX7.out.new m8)
    have hbr := HBR.out w8 m8
    clear T7 m8 HX7 HBR HE7 HQ7
    simp only
    go_wp2_with fail
    refine hbr.mono ?_
    clear hbr
    rintro e w9 ⟨rfl, m9⟩
    have T9 := T8.new m9
    have HX9 := Lib.hid (HX8.out.new m9)
    have hzz : ((z1 : Int) == z1) = true := by simp
    simp only
    generalize (⟨z2.toArray⟩ : ByteArray) = X at *
    have hxx : (X.toList == X.toList) = true := by simp
    clear T8 m9 HX8
    go_wp2_with fail
    refine (routed_true _ HX9.out).mono ?_
    rintro e wA ⟨rfl, mA⟩
    go_wp2_with fail
    go_ret
    exact ⟨rfl, HN.out _ _ (T9.new mA)⟩

end Go.Proofs.YtjehlecgnepgmaaGreatDoor
