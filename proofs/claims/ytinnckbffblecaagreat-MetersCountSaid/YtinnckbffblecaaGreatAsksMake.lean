/- What the maker of asks hands out: asks whose subjects are short. Conditions: as for the stream. -/
import Derived.Test.YtinnckbffblecaaGreatAsks
import Derived.Test.YtinnckbffblecaaGreatMake
import Derived.Test.YtinnckbffblecaaGreatOwn
import Derived.Test.YtinnckbffblecaaGreatLaw
namespace Go.Proofs.YtinnckbffblecaaGreat
open Go.RowKit
set_option linter.unusedVariables false
set_option linter.unusedSimpArgs false

theorem einfo_ask : EInfo Tryz.prog 70 4 40 := EInfo.of (z := .agg #[.int .i64 0, .string ⟨#[]⟩, .int .i64 0, .int .i64 0]) (by kernel_rfl) rfl (by decide)
theorem AskD.one (v : AskD) (j : Nat) (hj : j < 4) : (v.enc j).oneCell' = true := by
  obtain rfl | rfl | rfl | rfl : j = 0 ∨ j = 1 ∨ j = 2 ∨ j = 3 := by omega
  all_goals rfl
theorem flat_set4 {α : Type} (enc : α → Nat → Value) (y : α) : ∀ (xs : List α) (i : Nat), i < xs.length →
    ((((xs.flatMap (encL 4 enc)).set (i * 4) (enc y 0)).set (i * 4 + 1) (enc y 1)).set (i * 4 + 2) (enc y 2)).set (i * 4 + 3) (enc y 3) = (xs.set i y).flatMap (encL 4 enc)
  | [], i, h => by simp at h
  | x :: xs, 0, _ => by simp [encL, List.range_succ, List.range_zero]
  | x :: xs, i + 1, h => by
    have ih := flat_set4 enc y xs i (by simpa using h)
    have e : (i + 1) * 4 = i * 4 + 4 := by omega
    rw [e, show i * 4 + 4 + 1 = i * 4 + 1 + 4 by omega, show i * 4 + 4 + 2 = i * 4 + 2 + 4 by omega, show i * 4 + 4 + 3 = i * 4 + 3 + 4 by omega]
    simp only [List.flatMap_cons, List.set_cons_succ]
    rw [← ih]
    simp [encL, List.range_succ, List.range_zero]

def RAsk (Q : AskD → World → Prop) (e : Ending) (w' : World) : Prop := ∃ a : AskD, e = .returned a.val ∧ Q a w'
def AskD.Mild (a : AskD) (t : Int) : Prop := a.at_ = t ∧ a.who.size ≤ 3 ∧ 1 ≤ a.cost ∧ a.cost ≤ 6 ∧ 0 ≤ a.long ∧ a.long ≤ 100

set_option maxHeartbeats 1000000 in
theorem rightAsk_any (b k : Nat) (t : Int) (w : World) (hs : SInv b w k) (hk : k < 4611686018427000000) :
    Calls Tryz.prog 37 #[.pointer (some ⟨b, 0, none⟩), .int .i64 t] w (RAsk fun a w' => a.Mild t ∧ SStep b w w' (k + 3)) := by
  have hb := hs.lt
  go_enter Tryz.func37, Tryz.ntmps37
  go_wp2_with fail
  refine (some_any [⟨#[97, 110, 110]⟩, ⟨#[97, 110, 110]⟩, ⟨#[98, 111, 98]⟩] b k _ 3 _ (((SStep.refl hs).alloc _).alloc _).inv (by omega) (Blk.new' _ _ (by simp)) rfl (by omega) (by omega)).mono ?_
  rintro e w1 ⟨who, rfl, mw, h1⟩
  have hwho : who.size ≤ 3 := by simp at mw; rcases mw with rfl | rfl <;> decide
  have T1 := (((SStep.refl hs).alloc _).alloc _).trans h1
  obtain ⟨o1, z1, -⟩ := h1.only.pre
  obtain ⟨o0, z0, n0⟩ := o1.pre
  have B1 : Blk w1 w.heap.size 70 _ := n0 (by omega)
  clear h1 mw o0 o1 n0
  go_wp2_with fail
  refine (pick_any [1, 1, 1, 2, 3, 6] b _ w1.heap.size 6 _ (T1.alloc _).inv (by omega) (Blk.new _ _ _) rfl (by omega) (by omega)).mono ?_
  rintro e w2 ⟨cost, rfl, mc, h2⟩
  have hcost : 1 ≤ cost ∧ cost ≤ 6 := by simp at mc; omega
  have B2 := B1.mod h2.only.pre.1 (by omega)
  have T2 := (T1.alloc _).trans h2
  clear h2 mc B1 T1
  go_wp2_with fail
  refine (pick_any [0, 5, 20, 100] b _ w2.heap.size 4 _ (T2.alloc _).inv (by omega) (Blk.new _ _ _) rfl (by omega) (by omega)).mono ?_
  rintro e w3 ⟨long, rfl, ml, h3⟩
  have hlong : 0 ≤ long ∧ long ≤ 100 := by simp at ml; omega
  have B3 := B2.mod h3.only.pre.1 (by omega)
  have T3 := (T2.alloc _).trans h3
  clear h3 ml B2 T2
  have c0 := B3.cell
  have f0 := B3.frozen
  have hlt := B3.lt
  go_wp2_with fail
  refine bodyPost_ret (v := AskD.val ⟨t, who, cost, long⟩) (by simp [results, Tryz.results37, go_sem, c0, f0, AskD.val]) rfl ⟨_, rfl, ⟨rfl, hwho, hcost.1, hcost.2, hlong.1, hlong.2⟩, ?_⟩
  repeat (with_reducible (first | exact T3.more (by omega) | (refine SStep.set ?_ ?_ _; rotate_left; (simp <;> omega))))

def RAsks (b : Nat) (w : World) (n k : Nat) (e : Ending) (w' : World) : Prop := ∃ A c vs, e = .returned (.slice A n c) ∧ AskRows w' A n vs ∧ (∀ v ∈ vs, v.who.size ≤ 3) ∧ SStep b w w' k

set_option maxRecDepth 100000 in
set_option maxHeartbeats 2000000 in
theorem stream_asks (b k n : Nat) (w : World) (hs : SInv b w k) (hk : k < 4611686018426000000) (hn : n ≤ 100) :
    Calls Tryz.prog 20 #[.pointer (some ⟨b, 0, none⟩), .int .i64 n] w (RAsks b w n (k + 9 + 4 * n)) := by
  have hb := hs.lt
  go_enter Tryz.func20, Tryz.ntmps20
  go_wp2_with fail
  refine (next_any b k _ _ hs (by omega) (by omega) (by omega)).mono ?_
  rintro e w1 ⟨at0, rfl, a1, a2, h1⟩
  go_wp2_with fail
  go_loopw [5, 6, 11] (fun t a i wr => ∃ (j c : Nat) (A : Option Addr) (vs : List AskD) (at_ : Int), j ≤ n ∧ i = .int .i64 j ∧ a = .int .i64 at_ ∧ 0 ≤ at_ ∧ at_ ≤ 30 + 40 * j ∧ t = .slice A j c ∧
    Own wr w.heap.size 70 4 AskD.enc A j c vs ∧ (∀ v ∈ vs, v.who.size ≤ 3) ∧ SStep b w wr (k + 1 + 4 * j)) (fun _ _ i _ => n - (intOf i).toNat)
  case atStart => exact ⟨0, 0, none, [], at0, Nat.zero_le _, rfl, rfl, by omega, by omega, rfl, Own.nil, by simp, h1⟩
  case round =>
    rename_i wr
    clear h1
    obtain ⟨j, c, A, vs, at_, hj, rfl, rfl, hat0, hat1, rfl, hown, hvs, TK⟩ := hrel
    have HV := Lib.hid hvs
    clear hvs
    by_cases hlt : j < n
    · go_wp2_with fail
      refine (rightAsk_any b _ at_ _ TK.inv (by omega)).mono ?_
      rintro e w3 ⟨a, rfl, ha, h3⟩
      obtain ⟨at', who, cost, long⟩ := a
      obtain ⟨ha0, ha1, ha2⟩ := ha
      simp only at ha0 ha1
      obtain rfl : at_ = at' := ha0.symm
      clear ha2
      simp only [AskD.val]
      have own3 := hown.mod h3.only (fun g e => by have := hown.far g e; omega)
      have T3 := TK.trans h3
      have hz3 := T3.only.size
      clear h3 hown TK
      go_wp2_with (at_builtin; refine wpList_push rfl _ _ _ rfl 40 Tryz.underlying47 einfo_ask rfl (own3.alloc _) ⟨at_, who, cost, long⟩ w3.heap.size rfl (Blk.new _ _ _) (fun j hj => AskD.one _ j hj) (by omega) (by omega) (by simp; omega) ?_; intro g1 cap w4 own4 hm4 hat4 hlt4)
      have T4 := (T3.alloc _).mod hm4 (fun i e => ((own3.alloc (.cells #[.int .i64 at_, .string who, .int .i64 cost, .int .i64 long] 70)).far i e).1)
      clear hm4 hat4 own3 T3
      refine (pick_any [0, 0, 1, 3, 10, 40] b _ w4.heap.size 6 _ (T4.alloc _).inv (by omega) (Blk.new _ _ _) rfl (by omega) (by omega)).mono ?_
      rintro e w5 ⟨d, rfl, md, h5⟩
      have hd : 0 ≤ d ∧ d ≤ 40 := by simp at md; omega
      have own5 := own4.mod h5.only.pre.1 (fun g e => by have := own4.far g e; omega)
      have T5 := (T4.alloc _).trans h5
      clear h5 md own4 T4
      go_wp2_with fail
      refine ⟨⟨j + 1, cap, some ⟨g1, 0, none⟩, vs ++ [⟨at_, who, cost, long⟩], at_ + d, by omega, by go_num, rfl, by omega, by omega, rfl, own5, ?_, T5.more (by omega)⟩, by simp [intOf]; omega⟩
      intro v hv
      rcases List.mem_append.1 hv with h | h
      · exact HV.out v h
      · simp at h; subst h; exact ha1
    · obtain rfl : j = n := by omega
      by_cases h0 : 0 < j
      · have hi0 : (0 : Int) < j := by omega
        obtain ⟨g, rfl, hg, htb, hcn, hcm⟩ := hown.form h0
        go_wp2_with fail
        refine (flip_any b _ _ _ TK.inv (by omega) (by omega) (by omega)).mono ?_
        rintro e w6 ⟨m, rfl, h6⟩
        have own6 := hown.mod h6.only (fun g e => by have := hown.far g e; omega)
        have T6 := TK.trans h6
        clear h6 TK hown
        cases m
        · go_wp2_with fail
          go_ret
          exact ⟨_, _, vs, rfl, own6.sl, HV.out, T6.more (by omega)⟩
        · go_wp2_with fail
          refine (next_any b _ _ _ T6.inv (by omega) (by omega) (by omega)).mono ?_
          rintro e w7 ⟨i, rfl, i1, i2, h7⟩
          obtain ⟨i, rfl⟩ := Int.eq_ofNat_of_zero_le i1
          have own7 := own6.mod h7.only (fun g e => by have := own6.far g e; omega)
          have T7 := T6.trans h7
          clear h7 T6 own6
          have hil : i < vs.length := by have := own7.1; omega
          have hcell := own7.2.cellAt (i * 4) (by omega)
          rw [show i * 4 = i * 4 + 0 by omega, flat_get 4 AskD.enc vs i hil 0 (by omega)] at hcell
          simp only [AskD.enc, Nat.add_zero] at hcell
          generalize hat7 : vs[i].at_ = at7 at hcell
          clear hat7
          have hgb := own7.far g rfl
          go_wp2_with fail
          refine (pick_any [at7, -1, 345686400000, 0] b _ w7.heap.size 4 _ (T7.alloc _).inv (by omega) (Blk.new _ _ _) rfl (by omega) (by omega)).mono ?_
          rintro e w8 ⟨na, rfl, -, h8⟩
          have own8 := own7.mod h8.only.pre.1 (fun g e => by have := own7.far g e; omega)
          have T8 := (T7.alloc _).trans h8
          clear h8 T7 own7 hcell
          go_wp2_with fail
          refine (some_any [⟨#[97, 110, 110]⟩, ⟨#[]⟩, ⟨#[65]⟩] b _ w8.heap.size 3 _ (T8.alloc _).inv (by omega) (Blk.new _ _ _) rfl (by omega) (by omega)).mono ?_
          rintro e w9 ⟨who, rfl, mg, h9⟩
          have hwho : who.size ≤ 3 := by simp at mg; rcases mg with rfl | rfl | rfl <;> decide
          have own9 := own8.mod h9.only.pre.1 (fun g e => by have := own8.far g e; omega)
          have T9 := (T8.alloc _).trans h9
          clear h9 T8 own8 mg
          go_wp2_with fail
          refine (odd_any b _ _ _ _ T9.inv (by omega) (by omega) (by omega) (by omega)).mono ?_
          rintro e w10 ⟨cost, rfl, -, -, h10⟩
          have own10 := own9.mod h10.only (fun g e => by have := own9.far g e; omega)
          have T10 := T9.trans h10
          clear h10 T9 own9
          go_wp2_with fail
          refine (odd_any b _ _ _ _ T10.inv (by omega) (by omega) (by omega) (by omega)).mono ?_
          rintro e w11 ⟨long, rfl, -, -, h11⟩
          have own11 := own10.mod h11.only (fun g e => by have := own10.far g e; omega)
          have T11 := T10.trans h11
          clear h11 T10 own10
          have hl10 := own11.1
          have k0 := own11.2.cellAt (i * 4) (by omega)
          have k1 := own11.2.cellAt (i * 4 + 1) (by omega)
          have k2 := own11.2.cellAt (i * 4 + 2) (by omega)
          have k3 := own11.2.cellAt (i * 4 + 3) (by omega)
          rw [show i * 4 = i * 4 + 0 by omega, flat_get 4 AskD.enc vs i hil 0 (by omega)] at k0
          rw [flat_get 4 AskD.enc vs i hil 1 (by omega)] at k1
          rw [flat_get 4 AskD.enc vs i hil 2 (by omega)] at k2
          rw [flat_get 4 AskD.enc vs i hil 3 (by omega)] at k3
          simp only [AskD.enc, Nat.add_zero] at k0 k1 k2 k3
          have f0 := own11.2.frozenAt (i * 4)
          have f1 := own11.2.frozenAt (i * 4 + 1)
          have f2 := own11.2.frozenAt (i * 4 + 2)
          have f3 := own11.2.frozenAt (i * 4 + 3)
          have hown' := ((((own11.2.stored (i * 4) (.int .i64 na)).1.stored (i * 4 + 1) (.string who)).1.stored (i * 4 + 2) (.int .i64 cost)).1.stored (i * 4 + 3) (.int .i64 long)).1
          have hfl := flat_set4 AskD.enc ⟨na, who, cost, long⟩ vs i hil
          simp only [AskD.enc] at hfl
          rw [hfl] at hown'
          have HO := Lib.hid hown'
          clear hown' hfl own11
          go_wp2_with fail
          go_ret
          refine ⟨_, _, vs.set i ⟨na, who, cost, long⟩, rfl, Own.sl (B := w.heap.size) (c := c) ⟨by simpa using hl10, HO.out⟩, ?_, ?_⟩
          · intro v hv
            rcases List.mem_or_eq_of_mem_set hv with h | rfl
            · exact HV.out v h
            · exact hwho
          · exact SStep.set (SStep.set (SStep.set (SStep.set (T11.more (by omega)) hgb.1 _) hgb.1 _) hgb.1 _) hgb.1 _
      · obtain rfl : j = 0 := by omega
        have hd : decide ((0 : Int) < ((0 : Nat) : Int)) = false := by simp
        go_wp2_with fail
        go_ret
        exact ⟨_, _, vs, rfl, hown.sl, HV.out, TK.more (by omega)⟩

end Go.Proofs.YtinnckbffblecaaGreat
