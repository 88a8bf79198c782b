/- What the maker of visits hands out: visits whose gates are short. Conditions: as for the stream. -/
import Derived.Test.YtinnckbffblecaaGreatVisits
namespace Go.Proofs.YtinnckbffblecaaGreat
open Go.RowKit
set_option linter.unusedVariables false
set_option linter.unusedSimpArgs false

theorem flat_set3 {α : Type} (enc : α → Nat → Value) (y : α) : ∀ (xs : List α) (i : Nat), i < xs.length →
    (((xs.flatMap (encL 3 enc)).set (i * 3) (enc y 0)).set (i * 3 + 1) (enc y 1)).set (i * 3 + 2) (enc y 2) = (xs.set i y).flatMap (encL 3 enc)
  | [], i, h => by simp at h
  | x :: xs, 0, _ => by simp [encL, List.range_succ, List.range_zero]
  | x :: xs, i + 1, h => by
    have ih := flat_set3 enc y xs i (by simpa using h)
    have e : (i + 1) * 3 = i * 3 + 3 := by omega
    rw [e, show i * 3 + 3 + 1 = i * 3 + 1 + 3 by omega, show i * 3 + 3 + 2 = i * 3 + 2 + 3 by omega]
    simp only [List.flatMap_cons, List.set_cons_succ]
    rw [← ih]
    simp [encL, List.range_succ, List.range_zero]

def RVis (b : Nat) (w : World) (n k : Nat) (e : Ending) (w' : World) : Prop := ∃ A c vs, e = .returned (.slice A n c) ∧ VisRows w' A n vs ∧ (∀ v ∈ vs, v.gate.size ≤ 2) ∧ SStep b w w' k

set_option maxRecDepth 100000 in
set_option maxHeartbeats 2000000 in
theorem stream_visits (b k n : Nat) (w : World) (hs : SInv b w k) (hk : k < 4611686018427000000) (hn : n ≤ 100) :
    Calls Tryz.prog 10 #[.pointer (some ⟨b, 0, none⟩), .int .i64 n] w (RVis b w n (k + 7 + 3 * n)) := by
  have hb := hs.lt
  go_enter Tryz.func10, Tryz.ntmps10
  go_wp2_with fail
  refine (next_any b k _ _ hs (by omega) (by omega) (by omega)).mono ?_
  rintro e w1 ⟨at0, rfl, a1, a2, h1⟩
  go_wp2_with fail
  go_loopw [5, 6, 11] (fun t a i wr => ∃ (j c : Nat) (A : Option Addr) (vs : List VisD) (at_ : Int), j ≤ n ∧ i = .int .i64 j ∧ a = .int .i64 at_ ∧ 0 ≤ at_ ∧ at_ ≤ 30 + 40 * j ∧ t = .slice A j c ∧
    Own wr w.heap.size 76 3 VisD.enc A j c vs ∧ (∀ v ∈ vs, v.gate.size ≤ 2) ∧ SStep b w wr (k + 1 + 3 * j)) (fun _ _ i _ => n - (intOf i).toNat)
  case atStart => exact ⟨0, 0, none, [], at0, Nat.zero_le _, rfl, rfl, by omega, by omega, rfl, Own.nil, by simp, h1⟩
  case round =>
    rename_i wr
    clear h1
    obtain ⟨j, c, A, vs, at_, hj, rfl, rfl, hat0, hat1, rfl, hown, hvs, TK⟩ := hrel
    have HV := Lib.hid hvs
    clear hvs
    by_cases hlt : j < n
    · go_wp2_with fail
      refine (some_any [⟨#[103, 97]⟩, ⟨#[103, 97]⟩, ⟨#[103, 98]⟩, ⟨#[103, 99]⟩] b _ wr.heap.size 4 _ (TK.alloc _).inv (by omega) (Blk.new _ _ _) rfl (by omega) (by omega)).mono ?_
      rintro e w2 ⟨gate, rfl, mg, h2⟩
      have hgate : gate.size ≤ 2 := by simp at mg; rcases mg with rfl | rfl | rfl <;> decide
      have own2 := hown.mod h2.only.pre.1 (fun g e => by have := hown.far g e; omega)
      have T2 := (TK.alloc _).trans h2
      clear h2 mg hown TK
      go_wp2_with fail
      refine (pick_any [1, 1, 1, 2] b _ w2.heap.size 4 _ (T2.alloc _).inv (by omega) (Blk.new _ _ _) rfl (by omega) (by omega)).mono ?_
      rintro e w3 ⟨cost, rfl, mc, h3⟩
      have own3 := own2.mod h3.only.pre.1 (fun g e => by have := own2.far g e; omega)
      have T3 := (T2.alloc _).trans h3
      have hz3 := T3.only.size
      clear h3 mc own2 T2
      go_wp2_with (at_builtin; refine wpList_push rfl _ _ _ rfl 32 Tryz.underlying32 einfo_visit rfl (own3.alloc _) ⟨at_, gate, cost⟩ w3.heap.size rfl (Blk.new _ _ _) (fun j hj => VisD.one _ j hj) (by omega) (by omega) (by simp; omega) ?_; intro g1 cap w4 own4 hm4 hat4 hlt4)
      have T4 := (T3.alloc _).mod hm4 (fun i e => ((own3.alloc (.cells #[.int .i64 at_, .string gate, .int .i64 cost] 76)).far i e).1)
      clear hm4 hat4 own3 T3
      refine (pick_any [0, 0, 1, 3, 10, 40] b _ w4.heap.size 6 _ (T4.alloc _).inv (by omega) (Blk.new _ _ _) rfl (by omega) (by omega)).mono ?_
      rintro e w5 ⟨d, rfl, md, h5⟩
      have hd : 0 ≤ d ∧ d ≤ 40 := by simp at md; omega
      have own5 := own4.mod h5.only.pre.1 (fun g e => by have := own4.far g e; omega)
      have T5 := (T4.alloc _).trans h5
      clear h5 md own4 T4
      go_wp2_with fail
      refine ⟨⟨j + 1, cap, some ⟨g1, 0, none⟩, vs ++ [⟨at_, gate, cost⟩], at_ + d, by omega, by go_num, rfl, by omega, by omega, rfl, own5, ?_, T5.more (by omega)⟩, by simp [intOf]; omega⟩
      intro v hv
      rcases List.mem_append.1 hv with h | h
      · exact HV.out v h
      · simp at h; subst h; exact hgate
    · obtain rfl : j = n := by omega
      by_cases h0 : 0 < j
      · have hi0 : (0 : Int) < j := by omega
        obtain ⟨g, rfl, hg, htb, hcn, hcm⟩ := hown.form h0
        go_wp2_with fail
        refine (flip_any b _ _ _ TK.inv (by omega) (by omega) (by omega)).mono ?_
        rintro e w6 ⟨m, rfl, h6⟩
        have own6 := hown.mod h6.only (fun g e => by have := hown.far g e; omega)
        have T6 := TK.trans h6
        clear h6 TK hown
        cases m
        · go_wp2_with fail
          go_ret
          exact ⟨_, _, vs, rfl, own6.sl, HV.out, T6.more (by omega)⟩
        · go_wp2_with fail
          refine (next_any b _ _ _ T6.inv (by omega) (by omega) (by omega)).mono ?_
          rintro e w7 ⟨i, rfl, i1, i2, h7⟩
          obtain ⟨i, rfl⟩ := Int.eq_ofNat_of_zero_le i1
          have own7 := own6.mod h7.only (fun g e => by have := own6.far g e; omega)
          have T7 := T6.trans h7
          clear h7 T6 own6
          have hil : i < vs.length := by have := own7.1; omega
          have hcell := own7.2.cellAt (i * 3) (by omega)
          rw [show i * 3 = i * 3 + 0 by omega, flat_get 3 VisD.enc vs i hil 0 (by omega)] at hcell
          simp only [VisD.enc, Nat.add_zero] at hcell
          generalize hat7 : vs[i].at_ = at7 at hcell
          clear hat7
          have hgb := own7.far g rfl
          go_wp2_with fail
          refine (pick_any [at7, -1, 345686400000, 0] b _ w7.heap.size 4 _ (T7.alloc _).inv (by omega) (Blk.new _ _ _) rfl (by omega) (by omega)).mono ?_
          rintro e w8 ⟨na, rfl, -, h8⟩
          have own8 := own7.mod h8.only.pre.1 (fun g e => by have := own7.far g e; omega)
          have T8 := (T7.alloc _).trans h8
          clear h8 T7 own7 hcell
          go_wp2_with fail
          refine (some_any [⟨#[103, 97]⟩, ⟨#[]⟩, ⟨#[65]⟩] b _ w8.heap.size 3 _ (T8.alloc _).inv (by omega) (Blk.new _ _ _) rfl (by omega) (by omega)).mono ?_
          rintro e w9 ⟨gate, rfl, mg, h9⟩
          have hgate : gate.size ≤ 2 := by simp at mg; rcases mg with rfl | rfl | rfl <;> decide
          have own9 := own8.mod h9.only.pre.1 (fun g e => by have := own8.far g e; omega)
          have T9 := (T8.alloc _).trans h9
          clear h9 T8 own8 mg
          go_wp2_with fail
          refine (odd_any b _ _ _ _ T9.inv (by omega) (by omega) (by omega) (by omega)).mono ?_
          rintro e w10 ⟨cost, rfl, -, -, h10⟩
          have own10 := own9.mod h10.only (fun g e => by have := own9.far g e; omega)
          have T10 := T9.trans h10
          clear h10 T9 own9
          have hl10 := own10.1
          have k0 := own10.2.cellAt (i * 3) (by omega)
          have k1 := own10.2.cellAt (i * 3 + 1) (by omega)
          have k2 := own10.2.cellAt (i * 3 + 2) (by omega)
          rw [show i * 3 = i * 3 + 0 by omega, flat_get 3 VisD.enc vs i hil 0 (by omega)] at k0
          rw [flat_get 3 VisD.enc vs i hil 1 (by omega)] at k1
          rw [flat_get 3 VisD.enc vs i hil 2 (by omega)] at k2
          simp only [VisD.enc, Nat.add_zero] at k0 k1 k2
          have f0 := own10.2.frozenAt (i * 3)
          have f1 := own10.2.frozenAt (i * 3 + 1)
          have f2 := own10.2.frozenAt (i * 3 + 2)
          have hown' := (((own10.2.stored (i * 3) (.int .i64 na)).1.stored (i * 3 + 1) (.string gate)).1.stored (i * 3 + 2) (.int .i64 cost)).1
          have hfl := flat_set3 VisD.enc ⟨na, gate, cost⟩ vs i hil
          simp only [VisD.enc] at hfl
          rw [hfl] at hown'
          have HO := Lib.hid hown'
          clear hown' hfl own10
          go_wp2_with fail
          go_ret
          refine ⟨_, _, vs.set i ⟨na, gate, cost⟩, rfl, Own.sl (B := w.heap.size) (c := c) ⟨by simpa using hl10, HO.out⟩, ?_, ?_⟩
          · intro v hv
            rcases List.mem_or_eq_of_mem_set hv with h | rfl
            · exact HV.out v h
            · exact hgate
          · exact SStep.set (SStep.set (SStep.set (T10.more (by omega)) hgb.1 _) hgb.1 _) hgb.1 _
      · obtain rfl : j = 0 := by omega
        have hd : decide ((0 : Int) < ((0 : Nat) : Int)) = false := by simp
        go_wp2_with fail
        go_ret
        exact ⟨_, _, vs, rfl, hown.sl, HV.out, TK.more (by omega)⟩

end Go.Proofs.YtinnckbffblecaaGreat
