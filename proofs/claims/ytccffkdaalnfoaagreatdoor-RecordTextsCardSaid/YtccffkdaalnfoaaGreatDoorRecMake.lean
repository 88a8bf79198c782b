/- What the maker of records hands out: records whose names are short. Conditions: as for the stream. -/
import Derived.Test.YtccffkdaalnfoaaGreatDoorRec12
import Derived.Test.YtccffkdaalnfoaaGreatDoorMake
import Derived.Test.YtccffkdaalnfoaaGreatDoorOwn
import Derived.Test.YtccffkdaalnfoaaGreatDoorLaw
namespace Go.Proofs.YtccffkdaalnfoaaGreatDoor
open Go.RowKit
set_option linter.unusedVariables false
set_option linter.unusedSimpArgs false

theorem flat_setR (na : Int) (ro : ByteArray) (st fo : Int) : ∀ (xs : List RecD) (i : Nat) (h : i < xs.length),
    ((((xs.flatMap (encL 7 RecD.enc)).set (i * 7) (.int .i64 na)).set (i * 7 + 1) (.string ro)).set (i * 7 + 5) (.int .i64 st)).set (i * 7 + 6) (.int .i64 fo) = (xs.set i ⟨na, ro, xs[i].caller, xs[i].act, xs[i].inst, st, fo⟩).flatMap (encL 7 RecD.enc)
  | [], i, h => by simp at h
  | x :: xs, 0, _ => by simp [encL, List.range_succ, List.range_zero, RecD.enc]
  | x :: xs, i + 1, h => by
    have ih := flat_setR na ro st fo xs i (by simpa using h)
    have e : (i + 1) * 7 = i * 7 + 7 := by omega
    rw [e, show i * 7 + 7 + 1 = i * 7 + 1 + 7 by omega, show i * 7 + 7 + 5 = i * 7 + 5 + 7 by omega, show i * 7 + 7 + 6 = i * 7 + 6 + 7 by omega]
    simp only [List.flatMap_cons, List.set_cons_succ, List.getElem_cons_succ]
    rw [← ih]
    simp [encL, List.range_succ, List.range_zero]

/-- short names, numbers that stand -/
structure RecMild (r : RecD) : Prop where
  i1 : I64 r.at_
  i2 : I64 r.status
  i3 : I64 r.found
  z1 : r.route.size ≤ 4
  z2 : r.caller.size ≤ 4
  z3 : r.act.size ≤ 4
  z4 : r.inst.size ≤ 4
theorem RecMild.line {r : RecD} (h : RecMild r) : LineRec0 r := by
  obtain ⟨i1, i2, i3, z1, z2, z3, z4⟩ := h
  exact ⟨i1, i2, i3, by omega, by omega, by omega, by omega⟩
theorem RecMild.short {r : RecD} (h : RecMild r) : RecShort r := by
  obtain ⟨i1, i2, i3, z1, z2, z3, z4⟩ := h
  exact ⟨by unfold maxLen; omega, by unfold maxLen; omega, by unfold maxLen; omega, by unfold maxLen; omega⟩
theorem firstFault_each' {f : Nat → Int} {n : Nat} (h : firstFault f n = 0) : ∀ k, k < n → f k = 0 := by
  induction n with
  | zero => intro k hk; omega
  | succ n ih =>
    intro k hk
    unfold firstFault at h
    split at h
    · rename_i h0
      by_cases e : k = n
      · subst e; exact h
      · exact ih h0 k (by omega)
    · rename_i h0; exact absurd h h0
theorem recs_line {rs : List RecD} (hm : ∀ r ∈ rs, RecMild r) (h : recsFault rs = 0) : ∀ r ∈ rs, LineRec r := by
  intro r hr
  have h0 := hm r hr
  obtain ⟨k, hk, rfl⟩ := List.getElem_of_mem hr
  unfold recsFault at h
  split at h
  · cases h
  · have h1 := firstFault_each' h k hk
    rw [recAt] at h1
    rw [List.getElem?_eq_getElem hk] at h1
    simp only at h1
    have h2 : recSelf rs[k] = 0 := by
      split at h1
      · rename_i hq; exact absurd h1 hq
      · rename_i hq; exact Decidable.not_not.1 hq
    generalize rs[k] = r at h2 h0
    unfold recSelf at h2
    split at h2
    · cases h2
    · split at h2
      · cases h2
      · rename_i k2
        simp only [Bool.not_eq_true, Bool.or_eq_false_iff] at k2
        obtain ⟨⟨⟨k3, k4⟩, k5⟩, k6⟩ := k2
        obtain ⟨i1, i2, i3, z1, z2, z3, z4⟩ := h0
        exact ⟨i1, i2, i3, k3, k4, k5, k6, by omega, by omega, by omega, by omega⟩

def RRecs (b : Nat) (w : World) (n k : Nat) (e : Ending) (w' : World) : Prop := ∃ A m c rs, e = .returned (.slice A m c) ∧ RecRows w' A m rs ∧ m ≤ n ∧ (∀ r ∈ rs, RecMild r) ∧ SStep b w w' k

set_option maxRecDepth 100000 in
set_option maxHeartbeats 4000000 in
theorem stream_recs (b k n : Nat) (w : World) (hs : SInv b w k) (hk : k < 4611686018426000000) (hn : n ≤ 100) :
    Calls Tryz.prog 4 #[.pointer (some ⟨b, 0, none⟩), .int .i64 n] w (RRecs b w n (k + 9 + 8 * n)) := by
  have hb := hs.lt
  go_enter Tryz.func4, Tryz.ntmps4
  go_wp2_with fail
  refine (next_any b k _ _ hs (by omega) (by omega) (by omega)).mono ?_
  rintro e w1 ⟨at0, rfl, a1, a2, h1⟩
  go_wp2_with fail
  go_loopw [5, 6, 11] (fun t a i wr => ∃ (j c : Nat) (A : Option Addr) (rs : List RecD) (at_ : Int), j ≤ n ∧ i = .int .i64 j ∧ a = .int .i64 at_ ∧ 0 ≤ at_ ∧ at_ ≤ 30 + 2592000000 * j ∧ t = .slice A j c ∧
    Own wr w.heap.size 39 7 RecD.enc A j c rs ∧ Hid (∀ r ∈ rs, RecMild r) ∧ SStep b w wr (k + 1 + 8 * j)) (fun _ _ i _ => n - (intOf i).toNat)
  case atStart => exact ⟨0, 0, none, [], at0, Nat.zero_le _, rfl, rfl, by omega, by omega, rfl, Own.nil, Lib.hid (by simp), h1⟩
  case round =>
    rename_i wr
    clear h1
    obtain ⟨j, c, A, rs, at_, hj, rfl, rfl, hat0, hat1, rfl, own, HV, T⟩ := hrel
    by_cases hlt : j < n
    · go_wp2_with fail
      refine (some_any [⟨#[114, 97]⟩, ⟨#[114, 98]⟩, ⟨#[]⟩, ⟨#[122, 122]⟩] b _ wr.heap.size 4 _ (T.alloc _).inv (by omega) (Blk.new _ _ _) rfl (by omega) (by omega)).mono ?_
      rintro e w2 ⟨route, rfl, mx, hx⟩
      have hz1 : route.size ≤ 4 := by
        simp only [List.mem_cons, List.not_mem_nil, or_false] at mx
        rcases mx with rfl | rfl | rfl | rfl <;> decide
      have ownX := own.mod hx.only.pre.1 (fun g e => by have := own.far g e; omega)
      have T' := (T.alloc _).trans hx
      clear own T hx mx
      have own := ownX
      have T := T'
      clear ownX T'
      go_wp2_with fail
      refine (some_any [⟨#[97, 112, 112, 49]⟩, ⟨#[97, 112, 112, 50]⟩, ⟨#[]⟩] b _ w2.heap.size 3 _ (T.alloc _).inv (by omega) (Blk.new _ _ _) rfl (by omega) (by omega)).mono ?_
      rintro e w3 ⟨caller, rfl, mx, hx⟩
      have hz2 : caller.size ≤ 4 := by
        simp only [List.mem_cons, List.not_mem_nil, or_false] at mx
        rcases mx with rfl | rfl | rfl <;> decide
      have ownX := own.mod hx.only.pre.1 (fun g e => by have := own.far g e; omega)
      have T' := (T.alloc _).trans hx
      clear own T hx mx
      have own := ownX
      have T := T'
      clear ownX T'
      go_wp2_with fail
      refine (some_any [⟨#[]⟩, ⟨#[111, 110, 101]⟩] b _ w3.heap.size 2 _ (T.alloc _).inv (by omega) (Blk.new _ _ _) rfl (by omega) (by omega)).mono ?_
      rintro e w4 ⟨act, rfl, mx, hx⟩
      have hz3 : act.size ≤ 4 := by
        simp only [List.mem_cons, List.not_mem_nil, or_false] at mx
        rcases mx with rfl | rfl <;> decide
      have ownX := own.mod hx.only.pre.1 (fun g e => by have := own.far g e; omega)
      have T' := (T.alloc _).trans hx
      clear own T hx mx
      have own := ownX
      have T := T'
      clear ownX T'
      go_wp2_with fail
      refine (some_any [⟨#[105, 97]⟩, ⟨#[]⟩] b _ w4.heap.size 2 _ (T.alloc _).inv (by omega) (Blk.new _ _ _) rfl (by omega) (by omega)).mono ?_
      rintro e w5 ⟨inst, rfl, mx, hx⟩
      have hz4 : inst.size ≤ 4 := by
        simp only [List.mem_cons, List.not_mem_nil, or_false] at mx
        rcases mx with rfl | rfl <;> decide
      have ownX := own.mod hx.only.pre.1 (fun g e => by have := own.far g e; omega)
      have T' := (T.alloc _).trans hx
      clear own T hx mx
      have own := ownX
      have T := T'
      clear ownX T'
      go_wp2_with fail
      refine (pick_any [200, 200, 304, 404, 429] b _ w5.heap.size 5 _ (T.alloc _).inv (by omega) (Blk.new _ _ _) rfl (by omega) (by omega)).mono ?_
      rintro e w6 ⟨status, rfl, mx, hx⟩
      have hst : 0 ≤ status ∧ status ≤ 2592000000 := by simp at mx; omega
      have ownX := own.mod hx.only.pre.1 (fun g e => by have := own.far g e; omega)
      have T' := (T.alloc _).trans hx
      clear own T hx mx
      have own := ownX
      have T := T'
      clear ownX T'
      go_wp2_with fail
      refine (pick_any [0, 0, 1] b _ w6.heap.size 3 _ (T.alloc _).inv (by omega) (Blk.new _ _ _) rfl (by omega) (by omega)).mono ?_
      rintro e w7 ⟨found, rfl, mx, hx⟩
      have hfo : 0 ≤ found ∧ found ≤ 2592000000 := by simp at mx; omega
      have ownX := own.mod hx.only.pre.1 (fun g e => by have := own.far g e; omega)
      have T' := (T.alloc _).trans hx
      clear own T hx mx
      have own := ownX
      have T := T'
      clear ownX T'
      have hzz := T.only.size
      go_wp2_with (at_builtin; refine wpList_push rfl _ _ _ rfl 88 Tryz.underlying26 einfo_rec rfl (own.alloc _) ⟨at_, route, caller, act, inst, status, found⟩ w7.heap.size rfl (Blk.new _ _ _) (fun j hj => RecD.one _ j hj) (by omega) (by omega) (by simp; omega) ?_; intro g1 cap w8 own8 hm8 hat8 hlt8)
      have T8 := (T.alloc _).mod hm8 (fun i e => ((own.alloc (.cells #[.int .i64 at_, .string route, .string caller, .string act, .string inst, .int .i64 status, .int .i64 found] 39)).far i e).1)
      clear hm8 hat8 own T
      refine (pick_any [0, 1, 1296000000, 2592000000] b _ w8.heap.size 4 _ (T8.alloc _).inv (by omega) (Blk.new _ _ _) rfl (by omega) (by omega)).mono ?_
      rintro e w9 ⟨d, rfl, md, h9⟩
      have hd : 0 ≤ d ∧ d ≤ 2592000000 := by simp at md; omega
      have own9 := own8.mod h9.only.pre.1 (fun g e => by have := own8.far g e; omega)
      have T9 := (T8.alloc _).trans h9
      clear h9 md own8 T8
      go_wp2_with fail
      refine ⟨⟨j + 1, cap, some ⟨g1, 0, none⟩, rs ++ [⟨at_, route, caller, act, inst, status, found⟩], at_ + d, by omega, by go_num, rfl, by omega, by omega, rfl, own9, Lib.hid ?_, T9.more (by omega)⟩, by simp [intOf]; omega⟩
      intro v hv
      rcases List.mem_append.1 hv with h | h
      · exact HV.out v h
      · simp only [List.mem_singleton] at h
        subst h
        exact ⟨⟨by simp only; omega, by simp only; omega⟩, ⟨by simp only; omega, by simp only; omega⟩, ⟨by simp only; omega, by simp only; omega⟩, hz1, hz2, hz3, hz4⟩
    · obtain rfl : j = n := by omega
      by_cases h0 : 0 < j
      · have hi0 : (0 : Int) < j := by omega
        obtain ⟨g, rfl, hg, htb, hcn, hcm⟩ := own.form h0
        go_wp2_with fail
        refine (flip_any b _ _ _ T.inv (by omega) (by omega) (by omega)).mono ?_
        rintro e w6 ⟨m, rfl, h6⟩
        have own6 := own.mod h6.only (fun g e => by have := own.far g e; omega)
        have T6 := T.trans h6
        clear h6 T own
        cases m
        · go_wp2_with fail
          go_ret
          exact ⟨_, _, _, rs, rfl, own6.sl, by omega, HV.out, T6.more (by omega)⟩
        · go_wp2_with fail
          refine (next_any b _ _ _ T6.inv (by omega) (by omega) (by omega)).mono ?_
          rintro e w7 ⟨i, rfl, i1, i2, h7⟩
          obtain ⟨i, rfl⟩ := Int.eq_ofNat_of_zero_le i1
          have own7 := own6.mod h7.only (fun g e => by have := own6.far g e; omega)
          have T7 := T6.trans h7
          clear h7 T6 own6
          have hil : i < rs.length := by have := own7.1; omega
          have hcell := own7.2.cellAt (i * 7) (by omega)
          rw [show i * 7 = i * 7 + 0 by omega, flat_get 7 RecD.enc rs i hil 0 (by omega)] at hcell
          simp only [RecD.enc, Nat.add_zero] at hcell
          have hi64 : I64 rs[i].at_ := (HV.out _ (List.getElem_mem hil)).i1
          generalize hat7 : rs[i].at_ = at7 at hcell hi64
          have HI := Lib.hid hi64
          clear hat7 hi64
          have hgb := own7.far g rfl
          go_wp2_with fail
          refine (pick_any [at7, -1, 0, 345686400000] b _ w7.heap.size 4 _ (T7.alloc _).inv (by omega) (Blk.new _ _ _) rfl (by omega) (by omega)).mono ?_
          rintro e w8 ⟨na, rfl, mna, h8⟩
          have HNA : Hid (I64 na) := Lib.hid (by
            simp only [List.mem_cons, List.not_mem_nil, or_false] at mna
            rcases mna with rfl | rfl | rfl | rfl
            · exact HI.out
            · exact ⟨by omega, by omega⟩
            · exact ⟨by omega, by omega⟩
            · exact ⟨by omega, by omega⟩)
          have own8 := own7.mod h8.only.pre.1 (fun g e => by have := own7.far g e; omega)
          have T8 := (T7.alloc _).trans h8
          clear h8 T7 own7 hcell mna HI
          go_wp2_with fail
          refine (some_any [⟨#[114, 97]⟩, ⟨#[65]⟩, ⟨#[45]⟩] b _ w8.heap.size 3 _ (T8.alloc _).inv (by omega) (Blk.new _ _ _) rfl (by omega) (by omega)).mono ?_
          rintro e w9 ⟨ro, rfl, mg, h9⟩
          have hro : ro.size ≤ 4 := by
            simp only [List.mem_cons, List.not_mem_nil, or_false] at mg
            rcases mg with rfl | rfl | rfl <;> decide
          have own9 := own8.mod h9.only.pre.1 (fun g e => by have := own8.far g e; omega)
          have T9 := (T8.alloc _).trans h9
          clear h9 T8 own8 mg
          go_wp2_with fail
          refine (odd_any b _ _ _ _ T9.inv (by omega) (by omega) (by omega) (by omega)).mono ?_
          rintro e w10 ⟨st, rfl, s1, s2, h10⟩
          have HST : Hid (I64 st) := Lib.hid ⟨by omega, by omega⟩
          have own10 := own9.mod h10.only (fun g e => by have := own9.far g e; omega)
          have T10 := T9.trans h10
          clear h10 T9 own9 s1 s2
          go_wp2_with fail
          refine (odd_any b _ _ _ _ T10.inv (by omega) (by omega) (by omega) (by omega)).mono ?_
          rintro e w11 ⟨fo, rfl, f1, f2, h11⟩
          have HFO : Hid (I64 fo) := Lib.hid ⟨by omega, by omega⟩
          have own11 := own10.mod h11.only (fun g e => by have := own10.far g e; omega)
          have T11 := T10.trans h11
          clear h11 T10 own10 f1 f2
          have hl10 := own11.1
          have k0 := own11.2.cellAt (i * 7) (by omega)
          have k1 := own11.2.cellAt (i * 7 + 1) (by omega)
          have k5 := own11.2.cellAt (i * 7 + 5) (by omega)
          have k6 := own11.2.cellAt (i * 7 + 6) (by omega)
          rw [show i * 7 = i * 7 + 0 by omega, flat_get 7 RecD.enc rs i hil 0 (by omega)] at k0
          rw [flat_get 7 RecD.enc rs i hil 1 (by omega)] at k1
          rw [flat_get 7 RecD.enc rs i hil 5 (by omega)] at k5
          rw [flat_get 7 RecD.enc rs i hil 6 (by omega)] at k6
          simp only [RecD.enc, Nat.add_zero] at k0 k1 k5 k6
          have g0 := own11.2.frozenAt (i * 7)
          have g1 := own11.2.frozenAt (i * 7 + 1)
          have g5 := own11.2.frozenAt (i * 7 + 5)
          have g6 := own11.2.frozenAt (i * 7 + 6)
          have hown' := ((((own11.2.stored (i * 7) (.int .i64 na)).1.stored (i * 7 + 1) (.string ro)).1.stored (i * 7 + 5) (.int .i64 st)).1.stored (i * 7 + 6) (.int .i64 fo)).1
          rw [flat_setR na ro st fo rs i hil] at hown'
          have HO := Lib.hid hown'
          have HMI := Lib.hid (HV.out _ (List.getElem_mem hil))
          clear hown' own11
          go_wp2_with fail
          go_ret
          refine ⟨_, _, _, rs.set i ⟨na, ro, rs[i].caller, rs[i].act, rs[i].inst, st, fo⟩, rfl, Own.sl (B := w.heap.size) (c := c) ⟨by simpa using hl10, HO.out⟩, by omega, ?_, ?_⟩
          · intro v hv
            rcases List.mem_or_eq_of_mem_set hv with h | rfl
            · exact HV.out v h
            · exact ⟨HNA.out, HST.out, HFO.out, hro, HMI.out.z2, HMI.out.z3, HMI.out.z4⟩
          · exact SStep.set (SStep.set (SStep.set (SStep.set (T11.more (by omega)) hgb.1 _) hgb.1 _) hgb.1 _) hgb.1 _
      · obtain rfl : j = 0 := by omega
        have hd : decide ((0 : Int) < ((0 : Nat) : Int)) = false := by simp
        go_wp2_with fail
        go_ret
        exact ⟨_, _, _, rs, rfl, own.sl, by omega, HV.out, T.more (by omega)⟩

end Go.Proofs.YtccffkdaalnfoaaGreatDoor
