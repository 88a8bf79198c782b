/- Several texts in one. (1) Rows of strings, as cells. No conditions. (2) Sorted and compacted names are the one rising list of them. (For ValuesDiffer: kit.Rising.) No conditions. (3) kit.Rising: strings in order, each once. Conditions: at most 100000 strings. -/
import Derived.Test.YtjfgfkbgbhbhjaaGreatDoorOwn
import Derived.Test.YtjfgfkbgbhbhjaaGreatDoorDifLawGrp
import Derived.Lib.SlicesCompact
import Derived.Test.YtjfgfkbgbhbhjaaGreatDoorShelf
import Derived.Sort.OwnSorted
import Derived.Sort.Grow
import Derived.Lib.OwnBridge

namespace Go.Proofs.YtjfgfkbgbhbhjaaGreatDoor
open Go.RowKit
set_option linter.unusedVariables false
set_option linter.unusedSimpArgs false

def sEnc (x : ByteArray) (_ : Nat) : Value := .string x
theorem sEnc_one (x : ByteArray) (j : Nat) (hj : j < 1) : (sEnc x j).oneCell' = true := rfl
theorem einfo_str : EInfo Tryz.prog 9 1 16 := EInfo.of (z := .string ⟨#[]⟩) (by kernel_rfl) rfl (by decide)
theorem sEnc_flat (l : List ByteArray) : l.flatMap (encL 1 sEnc) = l.map Value.string := by
  induction l with
  | nil => rfl
  | cons x l ih => rw [List.flatMap_cons, List.map_cons, ih]; rfl
end Go.Proofs.YtjfgfkbgbhbhjaaGreatDoor

namespace Go.Proofs.YtjfgfkbgbhbhjaaGreatDoor
open Go.RowKit
set_option linter.unusedVariables false
set_option linter.unusedSimpArgs false

theorem cb_lt : ∀ a b : List UInt8, a < b ↔ Lib.compareBytes a b < 0
  | [], [] => by simp [Lib.compareBytes]
  | [], _ :: _ => by simp [Lib.compareBytes]
  | _ :: _, [] => by simp [Lib.compareBytes]
  | a :: xs, b :: ys => by
    rw [List.cons_lt_cons_iff, cb_lt xs ys]
    rw [Lib.compareBytes]
    by_cases h1 : a < b
    · simp [h1]
    · by_cases h2 : b < a
      · have : ¬ a = b := fun e => by subst e; exact h1 h2
        simp [h1, h2, this]
      · have : a = b := by
          have h3 : ¬ a.toNat < b.toNat := h1
          have h4 : ¬ b.toNat < a.toNat := h2
          exact UInt8.toNat_inj.1 (by omega)
        simp [h1, h2, this]
theorem compact_up (zs : List (List UInt8)) (hs : zs.Pairwise (fun x y => x ≤ y)) : ∀ m, m ≤ zs.length → (Lib.compactUpTo zs.toArray m).Pairwise (fun x y => x < y) ∧ ∀ z, z ∈ Lib.compactUpTo zs.toArray m ↔ z ∈ zs.take m
  | 0, _ => by simp [Lib.compactUpTo]
  | m + 1, h => by
    obtain ⟨h1, h2⟩ := compact_up zs hs m (by omega)
    have hm : m < zs.length := by omega
    have e : zs.toArray[m]! = zs[m] := by simp [hm]
    rw [Lib.compactUpTo_succ, e, List.take_succ_eq_append_getElem hm]
    by_cases hk : Lib.keeps zs.toArray m = true
    · rw [if_pos hk]
      have hlt : ∀ z ∈ Lib.compactUpTo zs.toArray m, z < zs[m] := by
        intro z hz
        have hz2 := (h2 z).1 hz
        obtain ⟨i, hi, rfl⟩ := List.getElem_of_mem hz2
        rw [List.getElem_take]
        have hi2 : i < m := by simp at hi; omega
        have hm1 : m - 1 < zs.length := by omega
        have hne : zs[m] ≠ zs[m - 1] := by
          unfold Lib.keeps at hk
          rw [decide_eq_true_eq] at hk
          rcases hk with hk | hk
          · omega
          · simpa [hm, hm1] using hk
        have hle : zs[i] ≤ zs[m - 1] := by
          by_cases e : i = m - 1
          · subst e; exact List.le_refl _
          · exact List.pairwise_iff_getElem.1 hs i (m - 1) (by omega) hm1 (by omega)
        have hle2 : zs[m - 1] ≤ zs[m] := List.pairwise_iff_getElem.1 hs (m - 1) m hm1 hm (by omega)
        have h3 : zs[i] ≤ zs[m] := List.le_trans hle hle2
        refine Classical.byContradiction fun hc => ?_
        have h4 : zs[m] ≤ zs[i] := List.not_lt.1 hc
        have h5 : zs[m] ≤ zs[m - 1] := List.le_trans h4 hle
        exact hne (List.le_antisymm h5 hle2)
      refine ⟨?_, fun z => ?_⟩
      · rw [List.pairwise_append]
        exact ⟨h1, by simp, fun a ha b hb => by rw [List.mem_singleton.1 hb]; exact hlt a ha⟩
      · rw [List.mem_append, List.mem_append, h2 z]
    · rw [if_neg hk, List.append_nil]
      refine ⟨h1, fun z => ?_⟩
      rw [h2 z, List.mem_append]
      constructor
      · exact .inl
      · rintro (hz | hz)
        · exact hz
        · rw [List.mem_singleton] at hz
          subst hz
          unfold Lib.keeps at hk
          rw [decide_eq_true_eq] at hk
          have h0 : ¬ m = 0 := fun e => hk (.inl e)
          have h3 : zs.toArray[m]! = zs.toArray[m - 1]! := Classical.byContradiction fun e => hk (.inr e)
          have hm1 : m - 1 < zs.length := by omega
          have h4 : zs[m] = zs[m - 1] := by simpa [hm, hm1] using h3
          rw [h4]
          exact List.mem_take_iff_getElem.2 ⟨m - 1, by omega, rfl⟩
theorem bytes_back (l : List (List UInt8)) : (l.map fun b => (⟨b.toArray⟩ : ByteArray)).map (·.data.toList) = l := by
  rw [List.map_map]
  conv => rhs; rw [← List.map_id l]
  exact List.map_congr_left (fun b _ => by simp)
theorem ris_pair : ∀ {l : List ByteArray}, (l.map (·.data.toList)).Pairwise (fun x y => x < y) → Ris l
  | [], _ => trivial
  | s :: l, h => by
    rw [List.map_cons, List.pairwise_cons] at h
    refine ⟨fun t ht => ?_, ris_pair h.2⟩
    exact (cb_lt _ _).1 (h.1 _ (List.mem_map.2 ⟨t, ht, rfl⟩))
/-- what sorting and compacting leaves -/
theorem rising_law (ns : List ByteArray) : Lib.compact ((ns.map (·.data.toList)).mergeSort fun x y => decide (x ≤ y)) = (risN ns).map (·.data.toList) := by
  have hs : ((ns.map (·.data.toList)).mergeSort fun x y => decide (x ≤ y)).Pairwise (fun x y => x ≤ y) := by
    have h := List.pairwise_mergeSort (le := fun x y : List UInt8 => decide (x ≤ y)) (fun a b c h1 h2 => by
      simp only [decide_eq_true_eq] at *; exact List.le_trans h1 h2) (fun a b => by
      simp only [Bool.or_eq_true, decide_eq_true_eq]; exact List.le_total a b) (ns.map (·.data.toList))
    exact h.imp (fun h => by simpa using h)
  obtain ⟨h1, h2⟩ := compact_up _ hs _ (Nat.le_refl _)
  rw [List.take_length] at h2
  have e := ris_risN (l := ns) (m := (Lib.compact ((ns.map (·.data.toList)).mergeSort fun x y => decide (x ≤ y))).map fun b => (⟨b.toArray⟩ : ByteArray)) (ris_pair (by rw [bytes_back]; exact h1)) (fun s => by
    rw [List.mem_map]
    constructor
    · rintro ⟨b, hb, rfl⟩
      have h3 := (h2 b).1 hb
      rw [List.mem_mergeSort, List.mem_map] at h3
      obtain ⟨t, ht, rfl⟩ := h3
      have : (⟨t.data.toList.toArray⟩ : ByteArray) = t := by cases t; simp
      rw [this]; exact ht
    · intro hs
      refine ⟨s.data.toList, (h2 _).2 ?_, by cases s; simp⟩
      rw [List.mem_mergeSort, List.mem_map]
      exact ⟨s, hs, rfl⟩)
  rw [← e, bytes_back]
end Go.Proofs.YtjfgfkbgbhbhjaaGreatDoor

namespace Go.Proofs.YtjfgfkbgbhbhjaaGreatDoor
open Go.RowKit Go.Shelf Go.Sort
set_option linter.unusedVariables false
set_option linter.unusedSimpArgs false

def RRis (w : World) (ns : List ByteArray) (e : Ending) (w' : World) : Prop := ∃ (A : Option Addr) (c : Nat), e = .returned (.slice A (risN ns).length c) ∧ Sl w' 9 1 sEnc A (risN ns).length (risN ns) ∧ New w w'
/-- strings as lists of bytes -/
abbrev bsOf (ns : List ByteArray) : List (List UInt8) := ns.map fun x => x.data.toList
/-- from what the three contracts leave -/
theorem rising_left {w w1 : World} {g cap n nn q : Nat} {os : Array Obj} {ns : List ByteArray} {ss : List (List UInt8)} (hss : bsOf ns = ss) (hown : w1.ownsRow w.heap.size 9 1 (.slice (some ⟨g, 0, none⟩) n cap) n (ss.map encStr)) (hbel : Below w.heap.size w w1) (hbg : w.heap.size ≤ g) (hlen : ss.length = n) :
    RRis w ns (.returned (.slice (some ⟨g, 0, none⟩) (Lib.compact (ss.mergeSort fun x y => decide (x ≤ y))).length cap))
      (putRow encStr (Sort.ahead (grow (putRow encStr (Sort.ahead w1 nn) g 0 (ss.mergeSort fun x y => decide (x ≤ y)).toArray) os) q) g 0 (Lib.compact (ss.mergeSort fun x y => decide (x ≤ y)) ++ List.replicate (n - (Lib.compact (ss.mergeSort fun x y => decide (x ≤ y))).length) []).toArray) := by
  have hlaw : Lib.compact (ss.mergeSort fun x y => decide (x ≤ y)) = bsOf (risN ns) := by rw [← hss]; exact rising_law ns
  have hl2 : (ss.mergeSort fun x y => decide (x ≤ y)).length = ss.length := List.length_mergeSort ss
  have hle := Lib.compact_length_le (ss.mergeSort fun x y => decide (x ≤ y))
  subst hlen
  rcases hown.2 with ⟨h0, _⟩ | ⟨g', cap', cur, hv, hbase, hb, h1, h2, h3, h4⟩
  · cases h0
  cases hv
  have hs := ownsRow_sorted (n := nn) (os := os) (ts := ss.mergeSort fun x y => decide (x ≤ y)) hl2 hbase hb h1 h2 h3
  have hc := Lib.ownsRow_putRow (q := q) (k := (Lib.compact (ss.mergeSort fun x y => decide (x ≤ y))).length) (ys := Lib.compact (ss.mergeSort fun x y => decide (x ≤ y)) ++ List.replicate (ss.length - (Lib.compact (ss.mergeSort fun x y => decide (x ≤ y))).length) []) hs (by simp; omega) (by omega)
  rw [List.take_left, hlaw, Lib.map_encStr] at hc
  rw [hlaw]
  have el : (bsOf (risN ns)).length = (risN ns).length := List.length_map _
  rw [el] at hc ⊢
  have hO : Own _ w.heap.size 9 1 sEnc (some ⟨g, 0, none⟩) (risN ns).length cap (risN ns) := ⟨rfl, by rw [sEnc_flat]; exact hc⟩
  exact ⟨_, _, rfl, hO.sl, Mod.of_below (Lib.below_putRow (hbel.grown (grownBy_sorted _) hbel.size (fun j hj => by cases hj; exact hbase)) hbg)⟩
set_option maxHeartbeats 2000000 in
set_option maxRecDepth 100000 in
theorem rising_tail (n : Nat) (arg : Value) (ns : List ByteArray) (w : World) (hn : n ≤ 100000)
    (hclone : Calls Tryz.prog 121 #[arg] w fun e w' => ∃ v', e = .returned v' ∧ w'.ownsRow w.heap.size 9 1 v' n ((bsOf ns).map encStr) ∧ v' ≠ .slice none 0 0 ∧ Below w.heap.size w w') :
    Calls Tryz.prog 85 #[arg] w (RRis w ns) := by
  obtain ⟨ss, hss⟩ : ∃ ss, bsOf ns = ss := ⟨_, rfl⟩
  have HSS := Lib.hid hss
  rw [hss] at hclone
  clear hss
  go_enter Tryz.func85, Tryz.ntmps85
  go_wp2_with fail
  refine hclone.mono ?_
  clear hclone
  rintro e w1 ⟨v1, rfl, hown, hnn, hbel⟩
  obtain ⟨g, cap, rfl, hbg, hgl, hncap, hcm, hlen, hH⟩ := Lib.holds_of_ownsRow hown hnn
  have hsort := Tryz.slices_Sort_string g 0 cap ss w1 hH hgl (by omega)
  rw [hlen] at hsort
  have HO := Lib.hid hown
  have HB := Lib.hid hbel
  have HH := Lib.hid hH
  have HLN := Lib.hid hlen
  have HCP := Lib.hid hncap
  have HBG := Lib.hid hbg
  have HGL := Lib.hid hgl
  clear hown hbel hH hnn hlen hncap hbg hgl hcm
  go_wp2_with fail
  refine hsort.mono ?_
  clear hsort
  rintro e w2 ⟨rfl, nn, os, rfl⟩
  have hl2 : (ss.mergeSort fun x y => decide (x ≤ y)).length = n := by rw [List.length_mergeSort]; exact HLN.out
  have hH2 : Holds encStr (grow (putRow encStr (Sort.ahead w1 nn) g 0 (ss.mergeSort fun x y => decide (x ≤ y)).toArray) os) g 0 (ss.mergeSort fun x y => decide (x ≤ y)).toArray :=
    holds_grow encStr _ os g 0 _ (by simpa [putRow, mapBlock, Sort.ahead] using HGL.out) (holds_putRow encStr _ g 0 _ _ (holds_ahead encStr w1 nn g 0 _ HH.out) (by simp))
  have hcomp := Tryz.slices_Compact_string g 0 cap (ss.mergeSort fun x y => decide (x ≤ y)) _ hH2 (by omega) (by have := HCP.out; omega)
  rw [hl2] at hcomp
  clear hH2 hl2
  go_wp2_with fail
  refine hcomp.mono ?_
  clear hcomp
  rintro e w3 ⟨rfl, q, rfl⟩
  go_wp2_with fail
  go_ret
  exact rising_left HSS.out HO.out HB.out HBG.out HLN.out
theorem rising_v (A : Option Addr) (n c : Nat) (ns : List ByteArray) (w : World) (hs : Sl w 9 1 sEnc A n ns) (hn : n ≤ 100000) :
    Calls Tryz.prog 85 #[.slice A n c] w (RRis w ns) := by
  cases A with
  | none =>
    have h0 : n = 0 := by
      rcases Nat.eq_zero_or_pos n with h | h
      · exact h
      · obtain ⟨g, o, e, -⟩ := hs.2 h; cases e
    subst h0
    obtain rfl : ns = [] := List.eq_nil_of_length_eq_zero hs.1
    have hc := Tryz.slices_Clone_string_nil 0 c w
    clear hs
    go_enter Tryz.func85, Tryz.ntmps85
    go_wp2_with fail
    refine hc.mono ?_
    clear hc
    rintro e w1 ⟨rfl, rfl⟩
    have hsort := Tryz.slices_Sort_string_none none 0 w1
    go_wp2_with fail
    refine hsort.mono ?_
    clear hsort
    rintro e w2 ⟨rfl, rfl⟩
    have hcomp := Tryz.slices_Compact_string_empty none 0 w2
    go_wp2_with fail
    refine hcomp.mono ?_
    clear hcomp
    rintro e w3 ⟨rfl, rfl⟩
    go_wp2_with fail
    go_ret
    exact ⟨none, 0, rfl, Sl.nil, Mod.refl _ _⟩
  | some a =>
    rcases Nat.eq_zero_or_pos n with h | h
    · subst h
      obtain rfl : ns = [] := List.eq_nil_of_length_eq_zero hs.1
      exact rising_tail 0 _ [] w (by omega) (Tryz.slices_Clone_string_zero a c w)
    · obtain ⟨g, o, e, -, hc⟩ := hs.2 h
      injection e with e
      subst e
      have hl := hs.1
      refine rising_tail n _ ns w hn ((Tryz.slices_Clone_string g o n c ns w (by omega) (by omega) (fun j hj => ?_)).mono fun e w' ⟨v', he, hown, hnn, hbel⟩ => ⟨v', he, ?_, hnn, hbel⟩)
      · have h1 := hc j hj 0 (by omega)
        simp only [Nat.mul_one, Nat.add_zero] at h1
        rw [h1, List.getD_eq_getElem?_getD, List.getElem?_eq_getElem hj]
        rfl
      · rw [Lib.map_encStr]
        rw [List.take_of_length_le (by omega)] at hown
        exact hown
/-- what sorting and compacting a row of the call's own leaves -/
def RNames (N : Nat) (w : World) (ns : List ByteArray) (e : Ending) (w' : World) : Prop := ∃ (A : Option Addr) (c : Nat), e = .returned (.slice A (risN ns).length c) ∧ Sl w' 9 1 sEnc A (risN ns).length (risN ns) ∧ Mod (fun k => N ≤ k) w w'
theorem fresh_below {N : Nat} {w w' : World} (h : Below N w w') : Mod (fun k => N ≤ k) w w' := ⟨h.os, h.tape, h.output, h.size, fun k hk hs => h.block k (by omega)⟩
theorem names_left {w : World} {N g cap n nn q : Nat} {os : Array Obj} {ns : List ByteArray} {ss : List (List UInt8)} (hss : bsOf ns = ss) (hown : w.ownsRow N 9 1 (.slice (some ⟨g, 0, none⟩) n cap) n (ss.map encStr)) (hN : N ≤ w.heap.size) (hbg : N ≤ g) (hlen : ss.length = n) :
    RNames N w ns (.returned (.slice (some ⟨g, 0, none⟩) (Lib.compact (ss.mergeSort fun x y => decide (x ≤ y))).length cap))
      (putRow encStr (Sort.ahead (grow (putRow encStr (Sort.ahead w nn) g 0 (ss.mergeSort fun x y => decide (x ≤ y)).toArray) os) q) g 0 (Lib.compact (ss.mergeSort fun x y => decide (x ≤ y)) ++ List.replicate (n - (Lib.compact (ss.mergeSort fun x y => decide (x ≤ y))).length) []).toArray) := by
  have hlaw : Lib.compact (ss.mergeSort fun x y => decide (x ≤ y)) = bsOf (risN ns) := by rw [← hss]; exact rising_law ns
  have hl2 : (ss.mergeSort fun x y => decide (x ≤ y)).length = ss.length := List.length_mergeSort ss
  have hle := Lib.compact_length_le (ss.mergeSort fun x y => decide (x ≤ y))
  subst hlen
  rcases hown.2 with ⟨h0, _⟩ | ⟨g', cap', cur, hv, hbase, hb, h1, h2, h3, h4⟩
  · cases h0
  cases hv
  have hs := ownsRow_sorted (n := nn) (os := os) (ts := ss.mergeSort fun x y => decide (x ≤ y)) hl2 hbase hb h1 h2 h3
  have hc := Lib.ownsRow_putRow (q := q) (k := (Lib.compact (ss.mergeSort fun x y => decide (x ≤ y))).length) (ys := Lib.compact (ss.mergeSort fun x y => decide (x ≤ y)) ++ List.replicate (ss.length - (Lib.compact (ss.mergeSort fun x y => decide (x ≤ y))).length) []) hs (by simp; omega) (by omega)
  rw [List.take_left, hlaw, Lib.map_encStr] at hc
  rw [hlaw]
  have el : (bsOf (risN ns)).length = (risN ns).length := List.length_map _
  rw [el] at hc ⊢
  have hO : Own _ N 9 1 sEnc (some ⟨g, 0, none⟩) (risN ns).length cap (risN ns) := ⟨rfl, by rw [sEnc_flat]; exact hc⟩
  have hbel : Below N w w := ⟨rfl, rfl, rfl, Nat.le_refl _, fun _ _ => rfl⟩
  exact ⟨_, _, rfl, hO.sl, fresh_below (Lib.below_putRow (hbel.grown (grownBy_sorted _) hN (fun j hj => by cases hj; exact hbase)) hbg)⟩
/-- slices.Sort, and slices.Compact behind it, of a row of the call's own -/
theorem sort_names (Aq : Option Addr) (nq cq N : Nat) (ns : List ByteArray) (w : World) (ho : Own w N 9 1 sEnc Aq nq cq ns) (hN : N ≤ w.heap.size) (hn : nq ≤ 100000) :
    Calls Tryz.prog 41 #[.slice Aq nq cq] w fun e w1 => e = .returned (.tuple #[]) ∧ Calls Tryz.prog 42 #[.slice Aq nq cq] w1 (RNames N w ns) := by
  have hol := ho.2
  rw [sEnc_flat] at hol
  rcases ho.blk with ⟨rfl, rfl, rfl⟩ | ⟨g0, rfl, -, -⟩
  · obtain rfl : ns = [] := List.eq_nil_of_length_eq_zero ho.1
    refine (Tryz.slices_Sort_string_none none 0 w).mono ?_
    rintro e w1 ⟨rfl, rfl⟩
    refine ⟨rfl, (Tryz.slices_Compact_string_empty none 0 w1).mono ?_⟩
    rintro e w2 ⟨rfl, rfl⟩
    exact ⟨none, 0, rfl, Sl.nil, Mod.refl _ _⟩
  · have hl : (bsOf ns).length = nq := by rw [List.length_map]; exact ho.1
    obtain ⟨ss, hss⟩ : ∃ ss, bsOf ns = ss := ⟨_, rfl⟩
    rw [← Lib.map_encStr, show ns.map (·.data.toList) = ss from hss] at hol
    rw [hss] at hl
    obtain ⟨g, cap, e1, hbg, hgl, hncap, hcm, hlen, hH⟩ := Lib.holds_of_ownsRow hol (by simp)
    injection e1 with e2 e3 e4
    injection e2 with e2
    injection e2 with e2
    subst e2 e4
    have hsort := Tryz.slices_Sort_string g0 0 cq ss w hH hgl (by omega)
    rw [hlen] at hsort
    refine hsort.mono ?_
    rintro e w2 ⟨rfl, nn, os, rfl⟩
    have hl2 : (ss.mergeSort fun x y => decide (x ≤ y)).length = nq := by rw [List.length_mergeSort]; exact hlen
    have hH2 : Holds encStr (grow (putRow encStr (Sort.ahead w nn) g0 0 (ss.mergeSort fun x y => decide (x ≤ y)).toArray) os) g0 0 (ss.mergeSort fun x y => decide (x ≤ y)).toArray :=
      holds_grow encStr _ os g0 0 _ (by simpa [putRow, mapBlock, Sort.ahead] using hgl) (holds_putRow encStr _ g0 0 _ _ (holds_ahead encStr w nn g0 0 _ hH) (by simp))
    have hcomp := Tryz.slices_Compact_string g0 0 cq (ss.mergeSort fun x y => decide (x ≤ y)) _ hH2 (by omega) (by omega)
    rw [hl2] at hcomp
    refine ⟨rfl, hcomp.mono ?_⟩
    rintro e w3 ⟨rfl, q, rfl⟩
    exact names_left hss hol hN hbg hlen
end Go.Proofs.YtjfgfkbgbhbhjaaGreatDoor
