/- Paths as the stream makes them: Path, PathTo. Conditions: the stream has been asked fewer than 2^61 times; a value of rows of at most 100. -/
import Derived.Test.YtpgcbehpknghdaaGreatDoorLeaves
import Derived.Test.YtpgcbehpknghdaaGreatDoorValMGrp
namespace Go.Proofs.YtpgcbehpknghdaaGreatDoor
open Go.RowKit
set_option linter.unusedVariables false
set_option linter.unusedSimpArgs false

theorem SInv.tb {b k : Nat} {w : World} (h : SInv b w k) : TB w b 25 := by
  obtain ⟨A, n, c, q, z, hb, _⟩ := h
  exact hb.tb
theorem Tree.stream {w w' : World} {G : Nat → Prop} {d b k : Nat} {x : VA} {v : VT} (h : Tree w G d x v) (hs : SStep b w w' k) (hb : TB w b 25) : Tree w' G d x v := h.only hs.only hb (by decide) (by decide)
theorem PthOk.stream {w w' : World} {L b k : Nat} {x : PA} (h : PthOk w L x) (hs : SStep b w w' k) (hb : TB w b 25) : PthOk w' L x := h.mod hs.only (fun g h e => h.ne hb (by decide) e)
theorem Sl.pre {α : Type} {w : World} {t : TypeId} {sz : Nat} {enc : α → Nat → Value} {A : Option Addr} {n r : Nat} {xs : List α} (h : Sl w t sz enc A n xs) (hr : r ≤ n) : Sl w t sz enc A r (xs.take r) := by
  refine ⟨by have := h.1; simp; omega, fun h0 => ?_⟩
  obtain ⟨g, o, hA, ht, hc⟩ := h.2 (by omega)
  refine ⟨g, o, hA, ht, fun i hi j hj => ?_⟩
  simp only [List.length_take] at hi
  rw [List.getElem_take]
  exact hc i (by omega) j hj
theorem append_nil' {P : Program} {t e : TypeId} (ht : P.underlying t = some (.slice e)) {i : TypeInfo} (hi : P.info? e = some i) (A : Option Addr) (n c : Nat) (h : n ≤ c) (ty : TypeId) (w : World) :
    (Builtin.append_ #[t, t] ty #[.slice A n c, .slice none 0 0]).run P w = .ok (.slice A n c) w := by
  cases A <;> simp [Builtin.append_, run_underlying ht, sizeOf, typeInfo, hi, Builtin.lenOf, Builtin.firstCells, h, storeCells]
/-- a path that the stream hands out -/
def RPathM (b : Nat) (w : World) (L k : Nat) (e : Ending) (w' : World) : Prop := ∃ x : PA, e = .returned (.slice x.a x.n x.c) ∧ PthOk w' L x ∧ SStep b w w' k
/-- a path that the stream makes anew -/
def RPathN (b : Nat) (w : World) (L k : Nat) (e : Ending) (w' : World) : Prop := ∃ x : PA, e = .returned (.slice x.a x.n x.c) ∧ PthOk w' L x ∧ (x.n = 0 → x.a = none ∧ x.c = 0) ∧ SStep b w w' k
set_option maxRecDepth 100000 in
set_option maxHeartbeats 1000000 in
theorem stream_path (b k : Nat) (w : World) (hs : SInv b w k) (hk : k + 40 < 4611686018426000000) :
    Calls Tryz.prog 6 #[.pointer (some ⟨b, 0, none⟩)] w (RPathN b w 4 (k + 30)) := by
  have hb := hs.lt
  have T0 := SStep.refl hs
  have hr1 := fun W : World => (Tryz.strings_Repeat ⟨#[110]⟩ 101 W (by omega) (by decide) : Calls Tryz.prog 30 #[.string ⟨#[110]⟩, .int .i64 101] W fun e w' => e = .returned (.string ⟨(Lib.repeatL [110] 101).toArray⟩) ∧ Below W.heap.size W w')
  have z1 : (⟨(Lib.repeatL [110] 101).toArray⟩ : ByteArray).size ≤ 101 := by
    have := Lib.repeatL_length [110] 101
    simp only [ByteArray.size, List.size_toArray]; simp at this; omega
  generalize (⟨(Lib.repeatL [110] 101).toArray⟩ : ByteArray) = S1 at *
  have HR1 := Lib.hid hr1
  have HZ1 := Lib.hid z1
  clear hr1 z1
  go_enter Tryz.func6, Tryz.ntmps6
  go_wp2_with fail
  refine (pick_any [0, 1, 1, 2, 2, 3] b _ w.heap.size 6 _ (T0.alloc _).inv (by omega) (Blk.new _ _ _) rfl (by omega) (by omega)).mono ?_
  rintro e w1 ⟨m, rfl, mm, h1⟩
  have hm : 0 ≤ m ∧ m ≤ 3 := by simp at mm; omega
  obtain ⟨m, rfl⟩ := Int.eq_ofNat_of_zero_le hm.1
  have hm3 : m ≤ 3 := by omega
  have T1 := (T0.alloc _).trans h1
  clear mm h1 hm
  go_wp2_with fail
  go_loopw [7, 3] (fun i s wr => ∃ (j c : Nat) (A : Option Addr) (qs : List St), j ≤ m ∧ i = .int .i64 j ∧ s = .slice A j c ∧ (j = 0 → A = none ∧ c = 0) ∧ Own wr w.heap.size 46 3 St.enc A j c qs ∧ Hid (∀ s ∈ qs, s.name.size ≤ 100000) ∧ SStep b w wr (k + 1 + 2 * j)) (fun i _ _ => m - (intOf i).toNat)
  case atStart => exact ⟨0, 0, none, [], Nat.zero_le _, rfl, rfl, fun _ => ⟨rfl, rfl⟩, Own.nil, Lib.hid (by simp), T1⟩
  case round =>
    rename_i wr
    clear T1 T0
    obtain ⟨j, c, A, qs, hj, rfl, rfl, hz0, own, HV, T⟩ := hrel
    by_cases hlt : j < m
    · go_wp2_with fail
      refine (flip_any b _ _ _ T.inv (by omega) (by omega) (by omega)).mono ?_
      rintro e w6 ⟨f, rfl, h6⟩
      have own6 := own.mod h6.only (fun g e => by have := (own.far' g e).1; omega)
      have T6 := T.trans h6
      clear h6 T own
      have own := own6
      have T := T6
      clear own6 T6
      cases f with
      | true =>
        go_wp2_with fail
        refine (pick_any [0, 0, 1, 2, 5] b _ w6.heap.size 5 _ (T.alloc _).inv (by omega) (Blk.new _ _ _) rfl (by omega) (by omega)).mono ?_
        rintro e w9 ⟨x, rfl, mx, hx⟩
        have ownX := own.mod hx.only.pre.1 (fun g e => by have := (own.far' g e).1; omega)
        have T' := (T.alloc _).trans hx
        clear own T hx mx
        have own := ownX
        have T := T'
        clear ownX T'
        have hzz := T.only.size
        go_wp2_with (at_builtin; refine wpList_push rfl _ _ _ rfl 32 Tryz.underlying32 einfo_step rfl (own.alloc _) ⟨false, ⟨#[]⟩, x⟩ w9.heap.size rfl (Blk.new _ _ _) (fun j hj => St.one _ j hj) (by omega) (by omega) (by simp; omega) ?_; intro g1 cap w8 own8 hm8 hat8 hlt8)
        have T8 := (T.alloc (.cells #[.bool false, .string ⟨#[]⟩, .int .i64 x] 46)).mod hm8 (fun i e => by have := ((own.alloc (.cells #[.bool false, .string ⟨#[]⟩, .int .i64 x] 46)).far' i e).1; omega)
        clear hm8 hat8 own T
        go_roundw
        case rel =>
          refine ⟨j + 1, cap, some ⟨g1, 0, none⟩, qs ++ [⟨false, ⟨#[]⟩, x⟩], by omega, by go_num, rfl, fun e => absurd e (by omega), own8, Lib.hid ?_, T8.more (by omega)⟩
          intro s hs
          rcases List.mem_append.1 hs with h | h
          · exact HV.out s h
          · rw [List.mem_singleton.1 h]; exact (show (⟨#[]⟩ : ByteArray).size ≤ 100000 by decide)
        case measure => simp [intOf]; omega
      | false =>
        go_wp2_with fail
        refine (some_any [⟨#[97]⟩, ⟨#[98]⟩, ⟨#[99, 32, 100]⟩, ⟨#[]⟩, ⟨#[110]⟩, ⟨#[122]⟩] b _ w6.heap.size 6 _ (T.alloc _).inv (by omega) (Blk.new _ _ _) rfl (by omega) (by omega)).mono ?_
        rintro e w9 ⟨x, rfl, mx, hx⟩
        have hz : x.size ≤ 100000 := by
          simp only [List.mem_cons, List.not_mem_nil, or_false] at mx
          rcases mx with rfl | rfl | rfl | rfl | rfl | rfl <;> decide
        have ownX := own.mod hx.only.pre.1 (fun g e => by have := (own.far' g e).1; omega)
        have T' := (T.alloc _).trans hx
        clear own T hx mx
        have own := ownX
        have T := T'
        clear ownX T'
        have hzz := T.only.size
        go_wp2_with (at_builtin; refine wpList_push rfl _ _ _ rfl 32 Tryz.underlying32 einfo_step rfl (own.alloc _) ⟨true, x, 0⟩ w9.heap.size rfl (Blk.new _ _ _) (fun j hj => St.one _ j hj) (by omega) (by omega) (by simp; omega) ?_; intro g1 cap w8 own8 hm8 hat8 hlt8)
        have T8 := (T.alloc (.cells #[.bool true, .string x, .int .i64 0] 46)).mod hm8 (fun i e => by have := ((own.alloc (.cells #[.bool true, .string x, .int .i64 0] 46)).far' i e).1; omega)
        clear hm8 hat8 own T
        go_roundw
        case rel =>
          refine ⟨j + 1, cap, some ⟨g1, 0, none⟩, qs ++ [⟨true, x, 0⟩], by omega, by go_num, rfl, fun e => absurd e (by omega), own8, Lib.hid ?_, T8.more (by omega)⟩
          intro s hs
          rcases List.mem_append.1 hs with h | h
          · exact HV.out s h
          · rw [List.mem_singleton.1 h]; exact (show x.size ≤ 100000 from hz)
        case measure => simp [intOf]; omega
    · obtain rfl : m = j := by omega
      go_wp2_with fail
      refine (flip_any b _ _ _ T.inv (by omega) (by omega) (by omega)).mono ?_
      rintro e w6 ⟨f, rfl, h6⟩
      have own6 := own.mod h6.only (fun g e => by have := (own.far' g e).1; omega)
      have T6 := T.trans h6
      clear h6 T own
      have own := own6
      have T := T6
      clear own6 T6
      cases f with
      | false =>
        go_wp2_with fail
        go_ret
        exact ⟨⟨A, m, c⟩, rfl, ⟨qs, own.sl, by simp only; omega, own.cap, own.noneC, HV.out⟩, hz0, T.more (by omega)⟩
      | true =>
        go_wp2_with fail
        refine (flip_any b _ _ _ T.inv (by omega) (by omega) (by omega)).mono ?_
        rintro e w7 ⟨f2, rfl, h7⟩
        have own7 := own.mod h7.only (fun g e => by have := (own.far' g e).1; omega)
        have T7 := T.trans h7
        clear h7 T own
        have hr2 := HR1.out w7
        go_wp2_with fail
        refine hr2.mono ?_
        clear hr2
        rintro e w8 ⟨rfl, hb8⟩
        have m8 : New w7 w8 := Mod.of_below hb8
        have own8 := own7.new m8
        have T8 := T7.new m8
        clear hb8 m8 own7 T7
        have own := own8
        have T := T8
        clear own8 T8
        have hsm := some_any [⟨#[]⟩, ⟨#[97]⟩, ⟨#[255]⟩, S1] b _ w8.heap.size 4 _ (T.alloc _).inv (by omega) (Blk.new _ _ _) rfl (by omega) (by omega)
        go_wp2_with fail
        refine hsm.mono ?_
        clear hsm
        rintro e w5 ⟨q, rfl, mx, hx⟩
        have hq : q.size ≤ 100000 := by
          have := HZ1.out
          simp only [List.mem_cons, List.not_mem_nil, or_false] at mx
          rcases mx with rfl | rfl | rfl | rfl
          · decide
          · decide
          · decide
          · omega
        have ownX := own.mod hx.only.pre.1 (fun g e => by have := (own.far' g e).1; omega)
        have T' := (T.alloc _).trans hx
        clear own T hx mx
        have own := ownX
        have T := T'
        clear ownX T'
        have hod := odd_any2 b _ 0 5000 w5 T.inv (by omega) (by omega) (by omega) (by omega)
        go_wp2_with fail
        refine hod.mono ?_
        clear hod
        rintro e w9 ⟨a, rfl, a1, a2, h9⟩
        have own9 := own.mod h9.only (fun g e => by have := (own.far' g e).1; omega)
        have T9 := T.trans h9
        clear h9 T own
        have own := own9
        have T := T9
        clear own9 T9
        have hzz := T.only.size
        go_wp2_with (at_builtin; refine wpList_push rfl _ _ _ rfl 32 Tryz.underlying32 einfo_step rfl (own.alloc _) ⟨f2, q, a⟩ w9.heap.size rfl (Blk.new _ _ _) (fun j hj => St.one _ j hj) (by omega) (by omega) (by simp; omega) ?_; intro g1 cap w8 own8 hm8 hat8 hlt8)
        have T8 := (T.alloc (.cells #[.bool f2, .string q, .int .i64 a] 46)).mod hm8 (fun i e => by have := ((own.alloc (.cells #[.bool f2, .string q, .int .i64 a] 46)).far' i e).1; omega)
        clear hm8 hat8 own T
        go_ret
        refine ⟨⟨some ⟨g1, 0, none⟩, m + 1, cap⟩, rfl, ⟨qs ++ [⟨f2, q, a⟩], own8.sl, by simp only; omega, own8.cap, own8.noneC, fun s hs => ?_⟩, fun e => absurd e (by simp only; omega), T8.more (by omega)⟩
        rcases List.mem_append.1 hs with h | h
        · exact HV.out s h
        · rw [List.mem_singleton.1 h]; exact hq

set_option maxRecDepth 100000 in
set_option maxHeartbeats 1000000 in
theorem stream_pathTo (d b k : Nat) (x : VA) (v : VT) (w : World) (hs : SInv b w k) (hk : k + 60 < 4611686018426000000) (ht : Tree w (fun _ => True) d x v) (hw : Wide 100 d v) (hW : vW d v ≤ 70000) (hd : d ≤ 800) :
    Calls Tryz.prog 9 #[.pointer (some ⟨b, 0, none⟩), x.val] w (RPathM b w (d + 4) (k + 40)) := by
  have hb := hs.lt
  have T0 := SStep.refl hs
  obtain ⟨xk, xf, xn, xw, xla, xln, xlc, xma, xmn, xmc⟩ := x
  have hx := Blk.new w 29 #[.int .i64 xk, .bool xf, .int .i64 xn, .string xw, .slice xla xln xlc, .slice xma xmn xmc]
  have m1 : New w (w.alloc (.cells #[.int .i64 xk, .bool xf, .int .i64 xn, .string xw, .slice xla xln xlc, .slice xma xmn xmc] 29)) := (Mod.refl _ _).alloc _
  have hlv := leaves_v d ⟨xk, xf, xn, xw, xla, xln, xlc, xma, xmn, xmc⟩ v none 0 0 [] _ (ht.new m1) hw Sl.nil (by omega) (by simp) hW
  have T1 := T0.new m1
  go_enter Tryz.func9, Tryz.ntmps9
  go_upto_region 1 with (fail)
  generalize w.alloc (.cells #[.int .i64 xk, .bool xf, .int .i64 xn, .string xw, .slice xla xln xlc, .slice xma xmn xmc] 29) = w1 at *
  have e0 := hx.cell 0
  have e1 := hx.cell 1
  have e2 := hx.cell 2
  have e3 := hx.cell 3
  have e4 := hx.cell 4
  have e5 := hx.cell 5
  have el := hx.lt
  simp only [List.getElem?_toArray, List.getElem?_cons_zero, List.getElem?_cons_succ] at e0 e1 e2 e3 e4 e5
  clear hx ht hw m1 T0
  go_wp2_with fail
  refine hlv.mono ?_
  clear hlv e0 e1 e2 e3 e4 e5 el
  rintro e w2 ⟨A, nq, cq, qs, rfl, hsl, hpk, hn0, hnW, hcap, m2⟩
  have T2 := T1.new m2
  clear m2 T1
  have hnx := next_any b _ (nq : Int) w2 T2.inv (by omega) (by omega) (by omega)
  go_wp2_with fail
  refine hnx.mono ?_
  clear hnx
  rintro e w3 ⟨i, rfl, hi1, hi2, h3⟩
  obtain ⟨i, rfl⟩ := Int.eq_ofNat_of_zero_le hi1
  have htb := T2.inv.tb
  have hty : ∀ g, TB w2 g 32 → ¬ g = b := fun g h e => h.ne htb (by decide) e
  have hty2 : ∀ g, TB w2 g 46 → ¬ g = b := fun g h e => h.ne htb (by decide) e
  have hsl3 := hsl.mod h3.only hty
  have hix : i < qs.length := by have := hsl.1; omega
  have hpi := (hpk _ (List.getElem_mem hix)).mod h3.only hty2
  obtain ⟨g, o, hA, htb3, hc0⟩ := hsl3.2 (by omega)
  subst hA
  have hgl := htb3.lt
  have hc := hc0 i hix 0 (by omega)
  have T3 := T2.trans h3
  clear hsl3 hc0 htb3 hsl hpk hty hty2 htb h3 T2
  generalize qs[i] = q at *
  obtain ⟨pa, pn, pc⟩ := q
  simp only [PA.enc, Nat.mul_one, Nat.add_zero] at hc
  have hb1 : (0 : Int) ≤ i := by omega
  have hb2 : (i : Int) < nq := by omega
  have hb3 : i < nq := by omega
  obtain ⟨ps, hps, hpn, hpc, hpz, hpm⟩ := hpi
  simp only at hps hpn hpc hpz
  have hrg := range_any b _ 0 (pn : Int) w3 T3.inv (by omega) (by omega) (by omega) (by omega)
  go_wp2_with fail
  refine hrg.mono ?_
  clear hrg hc
  rintro e w4 ⟨r, rfl, hr1, hr2, h4⟩
  obtain ⟨r, rfl⟩ := Int.eq_ofNat_of_zero_le hr1
  have htb := T3.inv.tb
  have hps4 := hps.mod h4.only (fun g h e => h.ne htb (by decide) e)
  have T4 := T3.trans h4
  have hrp : r ≤ pn := by omega
  clear hps h4 T3 hb1 hb2 hb3 hgl
  have hb4 : (0 : Int) ≤ r := by omega
  have hb5 : (r : Int) ≤ pc := by omega
  have hb6 : r ≤ pc := by omega
  have hfl := flip_any b _ 3 w4 T4.inv (by omega) (by omega) (by omega)
  have hpq : PthOk w4 d ⟨pa, r, pc⟩ := ⟨ps.take r, hps4.pre hrp, by simp only; omega, by simp only; omega, hpz, fun s h => hpm s (List.mem_of_mem_take h)⟩
  have HPQ := Lib.hid hpq
  have hz0 : r = 0 → pn = pn := fun _ => rfl
  clear hps4 hpq hpm
  cases pa with
  | none =>
    obtain rfl : pc = 0 := hpz rfl
    obtain rfl : r = 0 := by omega
    clear hpz
    go_wp2_with fail
    refine hfl.mono ?_
    clear hfl
    rintro e w5 ⟨f, rfl, h5⟩
    have HP5 := Lib.hid (HPQ.out.stream h5 T4.inv.tb)
    have T5 := T4.trans h5
    clear h5 T4 HPQ
    cases f with
    | false =>
      go_wp2_with fail
      go_ret
      exact ⟨⟨none, 0, 0⟩, rfl, HP5.out.le (by omega), T5.more (by omega)⟩
    | true =>
      obtain ⟨ps5, q1, q2, q3, q4, q5⟩ := HP5.out
      have hcl := cloneS ps5 none 0 0 w5 q1 (by simp only at q2; omega)
      have HQ5 := Lib.hid q5
      simp only at q2
      clear q1 q3 q4 q5
      go_wp2_with fail
      refine hcl.mono ?_
      clear hcl
      rintro e w6 ⟨A6, c6, rfl, own6, m6⟩
      have T6 := T5.new m6
      have hsz5 := T5.only.size
      have hs56 := m6.size
      clear m6 T5
      have hpp := stream_path b _ w6 T6.inv (by omega)
      go_wp2_with fail
      refine hpp.mono ?_
      clear hpp
      rintro e w7 ⟨⟨A7, n7, c7⟩, rfl, hp7, hz7, h7⟩
      have own7 := own6.mod h7.only (fun g e => by have := (own6.far' g e).1; omega)
      have T7 := T6.trans h7
      have hs57 := Nat.le_trans hs56 h7.only.size
      clear h7 T6 own6
      obtain ⟨ps7, q1, q6, q7, -, q5⟩ := hp7
      simp only at q1 q6 hz7
      have HQ7 := Lib.hid q5
      clear q5 q7
      rcases Nat.eq_zero_or_pos n7 with h0 | h0
      · obtain ⟨rfl, rfl⟩ := hz7 h0
        subst h0
        obtain ⟨i9, z9, hi9, _⟩ := einfo_step
        have hap := fun ty => append_nil' (P := Tryz.prog) Tryz.underlying32 hi9 A6 0 c6 own7.cap ty w7
        have HOW := Lib.hid own7
        clear own7 q1 hz7
        go_wp2_with (at_builtin; refine wpList_append_by2 rfl _ _ 32 32 rfl rfl rfl hap ?_)
        go_ret
        exact ⟨⟨A6, 0, c6⟩, rfl, ⟨ps5, HOW.out.sl, by simp only; omega, HOW.out.cap, HOW.out.noneC, HQ5.out⟩, T7.more (by omega)⟩
      · obtain ⟨g7, o7, hA7, -, -⟩ := q1.2 h0
        subst hA7
        clear hz7
        have hsz7 := T7.only.size
        have hsz75 : w5.heap.size ≤ w7.heap.size := hs57
        go_wp2_with (at_builtin; refine wpList_pushAll rfl _ _ _ rfl 32 Tryz.underlying32 einfo_step rfl own7 ps7 g7 o7 n7 c7 rfl q1 h0 (fun y _ j hj => St.one y j hj) (by omega) (by omega) (by omega) ?_; intro g1 cap w8 own8 hm8 hat8 hlt8)
        have T8 := T7.mod hm8 (fun i e => by have := (own7.far' i e).1; omega)
        go_ret
        refine ⟨⟨some ⟨g1, 0, none⟩, 0 + n7, cap⟩, (by first | rfl | (simp only [Nat.zero_add]; rfl)), ⟨ps5 ++ ps7, own8.sl, by simp only; omega, own8.cap, own8.noneC, fun s hs => ?_⟩, T8.more (by omega)⟩
        rcases List.mem_append.1 hs with h | h
        · exact HQ5.out s h
        · exact HQ7.out s h
  | some a =>
    clear hpz
    go_wp2_with fail
    refine hfl.mono ?_
    clear hfl
    rintro e w5 ⟨f, rfl, h5⟩
    have HP5 := Lib.hid (HPQ.out.stream h5 T4.inv.tb)
    have T5 := T4.trans h5
    clear h5 T4 HPQ
    cases f with
    | false =>
      go_wp2_with fail
      go_ret
      exact ⟨⟨(some a), r, pc⟩, rfl, HP5.out.le (by omega), T5.more (by omega)⟩
    | true =>
      obtain ⟨ps5, q1, q2, q3, q4, q5⟩ := HP5.out
      have hcl := cloneS ps5 (some a) r pc w5 q1 (by simp only at q2; omega)
      have HQ5 := Lib.hid q5
      simp only at q2
      clear q1 q3 q4 q5
      go_wp2_with fail
      refine hcl.mono ?_
      clear hcl
      rintro e w6 ⟨A6, c6, rfl, own6, m6⟩
      have T6 := T5.new m6
      have hsz5 := T5.only.size
      have hs56 := m6.size
      clear m6 T5
      have hpp := stream_path b _ w6 T6.inv (by omega)
      go_wp2_with fail
      refine hpp.mono ?_
      clear hpp
      rintro e w7 ⟨⟨A7, n7, c7⟩, rfl, hp7, hz7, h7⟩
      have own7 := own6.mod h7.only (fun g e => by have := (own6.far' g e).1; omega)
      have T7 := T6.trans h7
      have hs57 := Nat.le_trans hs56 h7.only.size
      clear h7 T6 own6
      obtain ⟨ps7, q1, q6, q7, -, q5⟩ := hp7
      simp only at q1 q6 hz7
      have HQ7 := Lib.hid q5
      clear q5 q7
      rcases Nat.eq_zero_or_pos n7 with h0 | h0
      · obtain ⟨rfl, rfl⟩ := hz7 h0
        subst h0
        obtain ⟨i9, z9, hi9, _⟩ := einfo_step
        have hap := fun ty => append_nil' (P := Tryz.prog) Tryz.underlying32 hi9 A6 r c6 own7.cap ty w7
        have HOW := Lib.hid own7
        clear own7 q1 hz7
        go_wp2_with (at_builtin; refine wpList_append_by2 rfl _ _ 32 32 rfl rfl rfl hap ?_)
        go_ret
        exact ⟨⟨A6, r, c6⟩, rfl, ⟨ps5, HOW.out.sl, by simp only; omega, HOW.out.cap, HOW.out.noneC, HQ5.out⟩, T7.more (by omega)⟩
      · obtain ⟨g7, o7, hA7, -, -⟩ := q1.2 h0
        subst hA7
        clear hz7
        have hsz7 := T7.only.size
        have hsz75 : w5.heap.size ≤ w7.heap.size := hs57
        go_wp2_with (at_builtin; refine wpList_pushAll rfl _ _ _ rfl 32 Tryz.underlying32 einfo_step rfl own7 ps7 g7 o7 n7 c7 rfl q1 h0 (fun y _ j hj => St.one y j hj) (by omega) (by omega) (by omega) ?_; intro g1 cap w8 own8 hm8 hat8 hlt8)
        have T8 := T7.mod hm8 (fun i e => by have := (own7.far' i e).1; omega)
        go_ret
        refine ⟨⟨some ⟨g1, 0, none⟩, r + n7, cap⟩, (by first | rfl | (simp only [Nat.zero_add]; rfl)), ⟨ps5 ++ ps7, own8.sl, by simp only; omega, own8.cap, own8.noneC, fun s hs => ?_⟩, T8.more (by omega)⟩
        rcases List.mem_append.1 hs with h | h
        · exact HQ5.out s h
        · exact HQ7.out s h

end Go.Proofs.YtpgcbehpknghdaaGreatDoor
