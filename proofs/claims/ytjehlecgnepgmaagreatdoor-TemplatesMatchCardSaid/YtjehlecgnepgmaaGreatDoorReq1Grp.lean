/- Several texts in one. (1) Makers of requests: hosts, fields, tokens (one of some texts). Conditions: as for the stream. (2) A text that is nearly another (Stream.Changed), whatever letters are put in. Conditions: the stream's own. (3) Makers of headers, queries and paths. Conditions: as for the stream. (4) Makers of requests. Conditions: as for the stream. (5) The stream's request, right or near to it (Stream.Request): its path's size is all that is said. Conditions: the stream has room. (6) The stream's request for a route (Stream.RouteRequest): its path's size is all that is said. Conditions: the stream has room. -/
import Derived.Test.YtjehlecgnepgmaaGreatDoorStream
import Derived.Test.YtjehlecgnepgmaaGreatDoorTplM
import Derived.Test.YtjehlecgnepgmaaGreatDoorPairs
import Derived.BigQuiet
import Derived.Deep.QuietTactic
import Derived.Test.YtjehlecgnepgmaaGreatDoorRow
import Derived.Test.YtjehlecgnepgmaaGreatDoorHeldGrp
import Derived.Deep.RegionHeld3

namespace Go.Proofs.YtjehlecgnepgmaaGreatDoor
open Go.RowKit
set_option linter.unusedVariables false
set_option linter.unusedSimpArgs false

set_option maxRecDepth 100000 in
set_option maxHeartbeats 1000000 in
theorem rightHost_any (b k : Nat) (w : World) (hs : SInv b w k) (hk : k < 4611686018427000000) :
    Calls Tryz.prog 113 #[.pointer (some ⟨b, 0, none⟩)] w (RStr fun m w' => m.size ≤ 10 ∧ SStep b w w' (k + 1)) := by
  have T0 := SStep.refl hs
  go_enter Tryz.func113, Tryz.ntmps113
  go_wp2_with fail
  have T1 := T0
  clear T0 hs
  refine (some_any [⟨#[97, 46, 98]⟩, ⟨#[97, 46, 98]⟩, ⟨#[65, 46, 66]⟩, ⟨#[97, 46, 98, 58, 56, 48]⟩, ⟨#[99, 46, 100, 58, 56, 48, 56, 48]⟩] b k w.heap.size 5 _ (T1.alloc _).inv (by omega) (Blk.new _ _ _) rfl (by omega) (by omega)).mono ?_
  rintro e w1 ⟨t, rfl, ht, h1⟩
  have htz : t.size ≤ 10 := by
    simp only [List.mem_cons, List.not_mem_nil, or_false] at ht
    rcases ht with rfl | rfl | rfl | rfl | rfl
    all_goals first |  decide
  have T2 := (T1.alloc _).trans h1
  clear h1 ht T1
  go_wp2_with fail
  go_ret
  exact ⟨_, rfl, htz, T2.more (by omega)⟩

set_option maxRecDepth 100000 in
set_option maxHeartbeats 1000000 in
theorem tokenText_any (b k : Nat) (w : World) (hs : SInv b w k) (hk : k < 4611686018427000000) :
    Calls Tryz.prog 80 #[.pointer (some ⟨b, 0, none⟩)] w (RStr fun m w' => m.size ≤ 101 ∧ SStep b w w' (k + 1)) := by
  have hr := Tryz.strings_Repeat ⟨#[110]⟩ 101 w (by decide) (by decide)
  have hz : (⟨(Lib.repeatL (⟨#[110]⟩ : ByteArray).data.toList 101).toArray⟩ : ByteArray).size ≤ 101 := by
    show (Lib.repeatL _ _).toArray.size ≤ _
    rw [List.size_toArray, Lib.repeatL_length]
    decide
  generalize (⟨(Lib.repeatL (⟨#[110]⟩ : ByteArray).data.toList 101).toArray⟩ : ByteArray) = U at *
  have T0 := SStep.refl hs
  go_enter Tryz.func80, Tryz.ntmps80
  go_wp2_with fail
  refine hr.mono ?_
  clear hr
  rintro e w0 ⟨rfl, hm0⟩
  have T1 := T0.new (Mod.of_below hm0)
  clear T0 hm0 hs
  go_wp2_with fail
  refine (some_any [⟨#[97, 99, 99, 101, 112, 116]⟩, ⟨#[88, 45, 79, 110, 101]⟩, ⟨#[120, 45, 111, 110, 101]⟩, ⟨#[118, 105, 97]⟩, ⟨#[97]⟩, ⟨#[65]⟩, ⟨#[116, 101]⟩, ⟨#[99, 111, 110, 110, 101, 99, 116, 105, 111, 110]⟩, ⟨#[]⟩, ⟨#[97, 32, 98]⟩, ⟨#[97, 58]⟩, ⟨#[127]⟩, U] b k w0.heap.size 13 _ (T1.alloc _).inv (by omega) (Blk.new _ _ _) rfl (by omega) (by omega)).mono ?_
  rintro e w1 ⟨t, rfl, ht, h1⟩
  have htz : t.size ≤ 101 := by
    simp only [List.mem_cons, List.not_mem_nil, or_false] at ht
    rcases ht with rfl | rfl | rfl | rfl | rfl | rfl | rfl | rfl | rfl | rfl | rfl | rfl | rfl
    all_goals first | exact hz | decide
  have T2 := (T1.alloc _).trans h1
  clear h1 ht T1
  go_wp2_with fail
  go_ret
  exact ⟨_, rfl, htz, T2.more (by omega)⟩

set_option maxRecDepth 100000 in
set_option maxHeartbeats 1000000 in
theorem fieldText_any (b k : Nat) (w : World) (hs : SInv b w k) (hk : k < 4611686018427000000) :
    Calls Tryz.prog 83 #[.pointer (some ⟨b, 0, none⟩)] w (RStr fun m w' => m.size ≤ 2001 ∧ SStep b w w' (k + 1)) := by
  have hr := Tryz.strings_Repeat ⟨#[118]⟩ 2001 w (by decide) (by decide)
  have hz : (⟨(Lib.repeatL (⟨#[118]⟩ : ByteArray).data.toList 2001).toArray⟩ : ByteArray).size ≤ 2001 := by
    show (Lib.repeatL _ _).toArray.size ≤ _
    rw [List.size_toArray, Lib.repeatL_length]
    decide
  generalize (⟨(Lib.repeatL (⟨#[118]⟩ : ByteArray).data.toList 2001).toArray⟩ : ByteArray) = U at *
  have T0 := SStep.refl hs
  go_enter Tryz.func83, Tryz.ntmps83
  go_wp2_with fail
  refine hr.mono ?_
  clear hr
  rintro e w0 ⟨rfl, hm0⟩
  have T1 := T0.new (Mod.of_below hm0)
  clear T0 hm0 hs
  go_wp2_with fail
  refine (some_any [⟨#[49]⟩, ⟨#[120]⟩, ⟨#[97, 44, 32, 98]⟩, ⟨#[]⟩, ⟨#[116, 101, 120, 116, 47, 104, 116, 109, 108]⟩, ⟨#[99, 108, 111, 115, 101]⟩, ⟨#[120, 45, 111, 110, 101]⟩, ⟨#[103, 119, 44, 32, 98]⟩, ⟨#[49, 46, 50, 46, 51, 46, 52, 44, 32, 53, 46, 54, 46, 55, 46, 56]⟩, ⟨#[32, 120]⟩, ⟨#[120, 32]⟩, ⟨#[97, 9, 98]⟩, ⟨#[128]⟩, U] b k w0.heap.size 14 _ (T1.alloc _).inv (by omega) (Blk.new _ _ _) rfl (by omega) (by omega)).mono ?_
  rintro e w1 ⟨t, rfl, ht, h1⟩
  have htz : t.size ≤ 2001 := by
    simp only [List.mem_cons, List.not_mem_nil, or_false] at ht
    rcases ht with rfl | rfl | rfl | rfl | rfl | rfl | rfl | rfl | rfl | rfl | rfl | rfl | rfl | rfl
    all_goals first | exact hz | decide
  have T2 := (T1.alloc _).trans h1
  clear h1 ht T1
  go_wp2_with fail
  go_ret
  exact ⟨_, rfl, htz, T2.more (by omega)⟩

set_option maxRecDepth 100000 in
set_option maxHeartbeats 1000000 in
theorem hostName_any (b k : Nat) (w : World) (hs : SInv b w k) (hk : k < 4611686018427000000) :
    Calls Tryz.prog 81 #[.pointer (some ⟨b, 0, none⟩)] w (RStr fun m w' => m.size ≤ 64 ∧ SStep b w w' (k + 1)) := by
  have hr := Tryz.strings_Repeat ⟨#[97]⟩ 64 w (by decide) (by decide)
  have hz : (⟨(Lib.repeatL (⟨#[97]⟩ : ByteArray).data.toList 64).toArray⟩ : ByteArray).size ≤ 64 := by
    show (Lib.repeatL _ _).toArray.size ≤ _
    rw [List.size_toArray, Lib.repeatL_length]
    decide
  generalize (⟨(Lib.repeatL (⟨#[97]⟩ : ByteArray).data.toList 64).toArray⟩ : ByteArray) = U at *
  have T0 := SStep.refl hs
  go_enter Tryz.func81, Tryz.ntmps81
  go_wp2_with fail
  refine hr.mono ?_
  clear hr
  rintro e w0 ⟨rfl, hm0⟩
  have T1 := T0.new (Mod.of_below hm0)
  clear T0 hm0 hs
  go_wp2_with fail
  refine (some_any [⟨#[97, 46, 98]⟩, ⟨#[97, 46, 98]⟩, ⟨#[65, 46, 66]⟩, ⟨#[115, 104, 111, 112, 46, 101, 120, 97, 109, 112, 108, 101]⟩, ⟨#[97, 46, 98, 58, 56, 48]⟩, ⟨#[97, 46, 98, 58, 52, 52, 51]⟩, ⟨#[97, 46, 98, 58, 56, 48, 56, 48]⟩, ⟨#[120, 45, 49, 46, 121]⟩, ⟨#[49, 46, 50, 46, 51, 46, 52]⟩, ⟨#[]⟩, ⟨#[97, 46, 46, 98]⟩, ⟨#[45, 97, 46, 98]⟩, ⟨#[97, 46, 98, 58, 48]⟩, ⟨#[97, 46, 98, 58, 48, 56]⟩, ⟨#[97, 46, 98, 58, 54, 53, 53, 51, 54]⟩, ⟨#[97, 95, 98]⟩, ⟨#[97, 46, 98, 58]⟩, ⟨#[97, 32, 98]⟩, U] b k w0.heap.size 19 _ (T1.alloc _).inv (by omega) (Blk.new _ _ _) rfl (by omega) (by omega)).mono ?_
  rintro e w1 ⟨t, rfl, ht, h1⟩
  have htz : t.size ≤ 64 := by
    simp only [List.mem_cons, List.not_mem_nil, or_false] at ht
    rcases ht with rfl | rfl | rfl | rfl | rfl | rfl | rfl | rfl | rfl | rfl | rfl | rfl | rfl | rfl | rfl | rfl | rfl | rfl | rfl
    all_goals first | exact hz | decide
  have T2 := (T1.alloc _).trans h1
  clear h1 ht T1
  go_wp2_with fail
  go_ret
  exact ⟨_, rfl, htz, T2.more (by omega)⟩

/-- headers: names and values of modest size -/
def HSmall (l : List PairD) : Prop := ∀ p ∈ l, p.1.size ≤ 2001 ∧ p.2.size ≤ 2001
theorem HSmall.nil : HSmall [] := fun p hp => by simp at hp
theorem HSmall.snoc {l : List PairD} {a b : ByteArray} (h : HSmall l) (ha : a.size ≤ 2001) (hb : b.size ≤ 2001) : HSmall (l ++ [(a, b)]) := fun p hp => by
  rcases List.mem_append.1 hp with h1 | h1
  · exact h p h1
  · simp at h1; subst h1; exact ⟨ha, hb⟩
abbrev HOwn (w : World) (B : Nat) (A : Option Addr) (n c : Nat) (ls : List PairD) : Prop := Own w B 82 2 pairEnc A n c ls
def RHdrs (b B : Nat) (w : World) (k m : Nat) (e : Ending) (w' : World) : Prop := ∃ A n c ls, e = .returned (.slice A n c) ∧ HOwn w' B A n c ls ∧ n ≤ m ∧ HSmall ls ∧ SStep b w w' k
theorem einfo_hdr : EInfo Tryz.prog 82 2 32 := EInfo.of (z := .agg #[.string ⟨#[]⟩, .string ⟨#[]⟩]) (by kernel_rfl) rfl (by decide)
set_option maxRecDepth 100000 in
set_option maxHeartbeats 1000000 in
theorem rightHeaders_any (b k most : Nat) (w : World) (hs : SInv b w k) (hk : k < 4611686018426000000) (hm : most ≤ 100) :
    Calls Tryz.prog 114 #[.pointer (some ⟨b, 0, none⟩), .int .i64 (most : Int)] w (RHdrs b w.heap.size w (k + 1 + 2 * most) most) := by
  have hbl := hs.lt
  go_enter Tryz.func114, Tryz.ntmps114
  go_wp2_with fail
  refine (range_any b k 0 most w hs (by omega) (by omega) (by omega) (by omega)).mono ?_
  rintro e w1 ⟨m, rfl, m0, m1, h1⟩
  obtain ⟨m, rfl⟩ := Int.eq_ofNat_of_zero_le m0
  have hmm : m ≤ most := by omega
  have hmi : (m : Int) ≤ 100 := by omega
  have T10 := Lib.hid h1
  clear h1 hs
  go_wp2_with fail
  go_loopw [5, 9] (fun o i wr => ∃ (j : Nat) (A : Option Addr) (c : Nat) (ls : List PairD), j ≤ m ∧ i = .int .i64 j ∧ o = .slice A j c ∧ Hid (HOwn wr w.heap.size A j c ls) ∧ Hid (HSmall ls) ∧ Hid (SStep b w wr (k + 1 + 2 * j))) (fun _ i _ => m - (intOf i).toNat)
  case atStart => exact ⟨0, none, 0, [], Nat.zero_le _, rfl, rfl, Lib.hid Own.nil, Lib.hid HSmall.nil, T10⟩
  case round =>
    clear T10
    rename World => wr
    obtain ⟨j, A, c, ls, hj, rfl, rfl, HO, HQ, T⟩ := hrel
    have HOF : Hid (∀ g', blkOf A = some g' → w.heap.size ≤ g') := Lib.hid (fun g' e => HO.out.farP g' e)
    have hTz := T.out.only.size
    by_cases hlt : j < m
    · go_wp2_with fail
      refine (some_any [⟨#[97, 99, 99, 101, 112, 116]⟩, ⟨#[65, 99, 99, 101, 112, 116]⟩, ⟨#[120, 45, 111, 110, 101]⟩, ⟨#[88, 45, 84, 119, 111]⟩, ⟨#[99, 111, 111, 107, 105, 101]⟩, ⟨#[118, 97, 114, 121]⟩, ⟨#[99, 111, 110, 110, 101, 99, 116, 105, 111, 110]⟩, ⟨#[120, 45, 102, 111, 114, 119, 97, 114, 100, 101, 100, 45, 102, 111, 114]⟩, ⟨#[118, 105, 97]⟩, ⟨#[120, 45, 102, 111, 114, 119, 97, 114, 100, 101, 100, 45, 104, 111, 115, 116]⟩, ⟨#[116, 101]⟩] b _ wr.heap.size 11 _ (T.out.alloc _).inv (by omega) (Blk.new _ _ _) rfl (by omega) (by omega)).mono ?_
      rintro e w2 ⟨x, rfl, hx, h2⟩
      have hxz : x.size ≤ 2001 := by
        simp only [List.mem_cons, List.not_mem_nil, or_false] at hx
        rcases hx with rfl | rfl | rfl | rfl | rfl | rfl | rfl | rfl | rfl | rfl | rfl <;> decide
      have m2 := ((Mod.refl (fun i => i = b) wr).alloc (.cells (List.map Value.string [⟨#[97, 99, 99, 101, 112, 116]⟩, ⟨#[65, 99, 99, 101, 112, 116]⟩, ⟨#[120, 45, 111, 110, 101]⟩, ⟨#[88, 45, 84, 119, 111]⟩, ⟨#[99, 111, 111, 107, 105, 101]⟩, ⟨#[118, 97, 114, 121]⟩, ⟨#[99, 111, 110, 110, 101, 99, 116, 105, 111, 110]⟩, ⟨#[120, 45, 102, 111, 114, 119, 97, 114, 100, 101, 100, 45, 102, 111, 114]⟩, ⟨#[118, 105, 97]⟩, ⟨#[120, 45, 102, 111, 114, 119, 97, 114, 100, 101, 100, 45, 104, 111, 115, 116]⟩, ⟨#[116, 101]⟩]).toArray 9)).trans h2.only
      have T2 := Lib.hid ((T.out.alloc (.cells (List.map Value.string [⟨#[97, 99, 99, 101, 112, 116]⟩, ⟨#[65, 99, 99, 101, 112, 116]⟩, ⟨#[120, 45, 111, 110, 101]⟩, ⟨#[88, 45, 84, 119, 111]⟩, ⟨#[99, 111, 111, 107, 105, 101]⟩, ⟨#[118, 97, 114, 121]⟩, ⟨#[99, 111, 110, 110, 101, 99, 116, 105, 111, 110]⟩, ⟨#[120, 45, 102, 111, 114, 119, 97, 114, 100, 101, 100, 45, 102, 111, 114]⟩, ⟨#[118, 105, 97]⟩, ⟨#[120, 45, 102, 111, 114, 119, 97, 114, 100, 101, 100, 45, 104, 111, 115, 116]⟩, ⟨#[116, 101]⟩]).toArray 9)).trans h2)
      have HO2 := Lib.hid (HO.out.mod m2 (fun g e e2 => by have := HOF.out g e; omega))
      have hz2 := m2.size
      clear h2 m2 T HO hx
      go_wp2_with fail
      refine (some_any [⟨#[49]⟩, ⟨#[120]⟩, ⟨#[97, 44, 32, 98]⟩, ⟨#[]⟩, ⟨#[120, 45, 111, 110, 101, 44, 32, 99, 108, 111, 115, 101]⟩, ⟨#[103, 119]⟩, ⟨#[49, 46, 50, 46, 51, 46, 52]⟩, ⟨#[53, 46, 54, 46, 55, 46, 56, 44, 32, 57, 46, 57, 46, 57, 46, 57]⟩] b _ w2.heap.size 8 _ (T2.out.alloc _).inv (by omega) (Blk.new _ _ _) rfl (by omega) (by omega)).mono ?_
      rintro e w3 ⟨y, rfl, hy, h3⟩
      have hyz : y.size ≤ 2001 := by
        simp only [List.mem_cons, List.not_mem_nil, or_false] at hy
        rcases hy with rfl | rfl | rfl | rfl | rfl | rfl | rfl | rfl <;> decide
      have m3 := ((Mod.refl (fun i => i = b) w2).alloc (.cells (List.map Value.string [⟨#[49]⟩, ⟨#[120]⟩, ⟨#[97, 44, 32, 98]⟩, ⟨#[]⟩, ⟨#[120, 45, 111, 110, 101, 44, 32, 99, 108, 111, 115, 101]⟩, ⟨#[103, 119]⟩, ⟨#[49, 46, 50, 46, 51, 46, 52]⟩, ⟨#[53, 46, 54, 46, 55, 46, 56, 44, 32, 57, 46, 57, 46, 57, 46, 57]⟩]).toArray 9)).trans h3.only
      have T3 := Lib.hid ((T2.out.alloc (.cells (List.map Value.string [⟨#[49]⟩, ⟨#[120]⟩, ⟨#[97, 44, 32, 98]⟩, ⟨#[]⟩, ⟨#[120, 45, 111, 110, 101, 44, 32, 99, 108, 111, 115, 101]⟩, ⟨#[103, 119]⟩, ⟨#[49, 46, 50, 46, 51, 46, 52]⟩, ⟨#[53, 46, 54, 46, 55, 46, 56, 44, 32, 57, 46, 57, 46, 57, 46, 57]⟩]).toArray 9)).trans h3)
      have HO3 := Lib.hid (HO2.out.mod m3 (fun g e e2 => by have := HOF.out g e; omega))
      have hz3 := m3.size
      clear h3 m3 T2 HO2 hy
      have TN := Lib.hid (T3.out.more (show _ ≤ k + 1 + 2 * (j + 1) by omega))
      have hBq : w.heap.size ≤ (w3.alloc (.cells #[.string x, .string y] 82)).heap.size := by simp; omega
      have HOA := HO3.out.alloc (.cells #[.string x, .string y] 82)
      have hBn := Blk.new w3 82 #[.string x, .string y]
      clear T3
      go_wp2_with (at_builtin; refine wpList_push rfl _ _ _ rfl 32 Tryz.underlying42 einfo_hdr rfl HOA (x, y) w3.heap.size rfl hBn (fun j hj => pairEnc_one _ j hj) (by omega) (by omega) hBq ?_; intro g8 cap8 w8 own8 hm8 hat8 hlt8)
      have HO8 := Lib.hid own8
      have T8 := Lib.hid ((TN.out.alloc (.cells #[.string x, .string y] 82)).modP hm8 (fun i e => HOF.out i e))
      clear own8 hm8
      go_roundw
      case rel => exact ⟨j + 1, some ⟨g8, 0, none⟩, cap8, ls ++ [(x, y)], by omega, by go_num, rfl, HO8, Lib.hid (HQ.out.snoc hxz hyz), T8⟩
      case measure => simp [intOf]; omega
    · obtain rfl : j = m := by omega
      go_wp2_with fail
      go_ret
      exact ⟨A, j, c, ls, rfl, HO.out, hmm, HQ.out, T.out.more (by omega)⟩

end Go.Proofs.YtjehlecgnepgmaaGreatDoor

namespace Go.Proofs.YtjehlecgnepgmaaGreatDoor
open Go.RowKit
set_option linter.unusedVariables false
set_option linter.unusedSimpArgs false

theorem encode_size (n : Int) : (Utf8.encode n).size ≤ 4 := by
  unfold Utf8.encode
  simp only
  repeat' split
  all_goals (first | decide | (show _ ≤ 4; simp [ByteArray.size]))
theorem encode_wrap (c : UInt8) : IntKind.i32.wrap (c.toNat : Int) = c.toNat := by
  have := c.toNat_lt
  simp [IntKind.wrap, IntKind.signed, IntKind.bits]
  omega
set_option maxRecDepth 100000 in
set_option maxHeartbeats 2000000 in
theorem changed_with (b k : Nat) (t : ByteArray) (w : World) (hs : SInv b w k) (hk : k < 4611686018427000000) (ht : t.size ≤ 100000) (wt : ByteArray) (hw0 : 0 < wt.size) (hw : wt.size ≤ 100) :
    Calls Tryz.prog 43 #[.pointer (some ⟨b, 0, none⟩), .string t, .string wt] w (RStr fun m w' => m.size ≤ t.size + wt.size + 8 ∧ SStep b w w' (k + 3)) := by
  have hb := hs.lt
  have hwe : (wt.toList == []) = false := by
    rw [ByteArray.toList_eq]
    simp only [beq_eq_false_iff_ne, ne_eq]
    intro h
    have : wt.data.toList.length = 0 := by rw [h]; rfl
    have e : wt.data.toList.length = wt.size := rfl
    omega
  by_cases he : t = ⟨#[]⟩
  · have he' : (t.toList == []) = true := by rw [he, ByteArray.toList_eq]; rfl
    clear he
    go_enter Tryz.func43, Tryz.ntmps43
    go_wp2_with fail
    go_ret
    exact ⟨wt, rfl, by omega, (SStep.refl hs).more (by omega)⟩
  · have he' : (t.toList == []) = false := by
      rw [ByteArray.toList_eq]
      simp only [beq_eq_false_iff_ne, ne_eq]
      intro h
      exact he (ByteArray.ext (Array.toList_inj.mp h))
    have hpos : 1 ≤ t.size := by
      rcases Nat.eq_zero_or_pos t.size with h | h
      · exact absurd (ByteArray.ext (Array.eq_empty_of_size_eq_zero h)) he
      · exact h
    clear he
    go_enter Tryz.func43, Tryz.ntmps43
    go_wp2_with fail
    refine (next_any b k t.size w hs (by omega) (by omega) (by omega)).mono ?_
    rintro e w1 ⟨i, rfl, hi0, hi1, h1⟩
    go_wp2_with fail
    refine (next_any b _ wt.size w1 h1.inv (by omega) (by omega) (by omega)).mono ?_
    rintro e w2 ⟨j, rfl, hj0, hj1, h2⟩
    obtain ⟨i, rfl⟩ := Int.eq_ofNat_of_zero_le hi0
    obtain ⟨j, rfl⟩ := Int.eq_ofNat_of_zero_le hj0
    have hj2 : j < wt.size := by omega
    go_wp2_with fail
    refine (next_any b _ 3 w2 h2.inv (by omega) (by omega) (by omega)).mono ?_
    rintro e w3 ⟨m, rfl, hm0, hm1, h3⟩
    have h13 := (h1.trans h2).trans h3
    have hew := encode_wrap wt[j]
    have hes := encode_size (wt[j].toNat : Int)
    generalize wt[j]'hj2 = c at hew hes ⊢
    have hi2 : i < t.size := by omega
    have e1 : (t.extract 0 i).size = i := by simp only [ByteArray.size_extract]; omega
    have e2 : (t.extract (i + 1) t.size).size = t.size - (i + 1) := by simp only [ByteArray.size_extract]; omega
    have e3 : (t.extract i t.size).size = t.size - i := by simp only [ByteArray.size_extract]; omega
    have E1 := Lib.hid e1
    have E2 := Lib.hid e2
    have E3 := Lib.hid e3
    clear e1 e2 e3 h1 h2 h3
    obtain rfl | rfl | rfl : m = 0 ∨ m = 1 ∨ m = 2 := by omega
    · go_wp2_with fail
      go_quiet (fail)
      go_wp2_with fail
      go_ret
      refine ⟨_, rfl, ?_, (h13.drewN _).more (by omega)⟩
      simp only [ByteArray.size_append, E1.out, E2.out]
      omega
    · go_wp2_with fail
      go_quiet (fail)
      go_wp2_with fail
      go_ret
      refine ⟨_, rfl, ?_, (h13.drewN _).more (by omega)⟩
      simp only [ByteArray.size_append, E1.out, E3.out]
      omega
    · go_wp2_with fail
      go_quiet (fail)
      go_wp2_with fail
      go_ret
      refine ⟨_, rfl, ?_, (h13.drewN _).more (by omega)⟩
      simp only [ByteArray.size_append, E1.out, E2.out]
      omega

end Go.Proofs.YtjehlecgnepgmaaGreatDoor

namespace Go.Proofs.YtjehlecgnepgmaaGreatDoor
open Go.RowKit
set_option linter.unusedVariables false
set_option linter.unusedSimpArgs false

set_option maxRecDepth 100000 in
set_option maxHeartbeats 1000000 in
theorem headers_any (b k most : Nat) (w : World) (hs : SInv b w k) (hk : k < 4611686018426000000) (hm : most ≤ 100) :
    Calls Tryz.prog 84 #[.pointer (some ⟨b, 0, none⟩), .int .i64 (most : Int)] w (RHdrs b w.heap.size w (k + 2 * most + 20) (most + 52)) := by
  have hbl := hs.lt
  go_enter Tryz.func84, Tryz.ntmps84
  go_wp2_with fail
  refine (rightHeaders_any b k most w hs hk hm).mono ?_
  rintro e w1 ⟨A, n, c, ls, rfl, own, hn, hsm, h1⟩
  have HO := Lib.hid own
  have HQ := Lib.hid hsm
  have HOF : Hid (∀ g', blkOf A = some g' → w.heap.size ≤ g') := Lib.hid (fun g' e => HO.out.farP g' e)
  have T := Lib.hid h1
  have hTz := h1.only.size
  clear own hsm h1 hs
  go_wp2_with fail
  refine (flip_any b _ 10 w1 T.out.inv (by omega) (by omega) (by omega)).mono ?_
  rintro e w2 ⟨q, rfl, h2⟩
  have HO2 := Lib.hid (HO.out.mod h2.only (fun g e e2 => by have := HOF.out g e; omega))
  have T2 := Lib.hid (T.out.trans h2)
  have hTz2 := h2.only.size
  clear h2 HO T
  cases q
  · have HO := HO2
    have T := T2
    clear HO2 T2
    go_wp2_with fail
    refine (flip_any b _ 60 w2 T.out.inv (by omega) (by omega) (by omega)).mono ?_
    rintro e w10 ⟨q, rfl, h10⟩
    have HO10 := Lib.hid (HO.out.mod h10.only (fun g e e2 => by have := HOF.out g e; omega))
    have T10 := Lib.hid ((T.out.trans h10).more (show _ ≤ k + 2 * most + 20 by omega))
    clear h10 HO T
    cases q
    · go_wp2_with fail
      go_ret
      exact ⟨A, n, c, ls, rfl, HO10.out, by omega, HQ.out, T10.out.more (by omega)⟩
    · go_wp2_with fail
      go_loopw [5, 21] (fun o i wr => ∃ (j : Nat) (A' : Option Addr) (c' : Nat) (ls' : List PairD), j ≤ 51 ∧ i = .int .i64 j ∧ o = .slice A' (n + j) c' ∧ Hid (HOwn wr w.heap.size A' (n + j) c' ls') ∧ Hid (HSmall ls') ∧ Hid (SStep b w wr (k + 2 * most + 20))) (fun _ i _ => 51 - (intOf i).toNat)
      case atStart => exact ⟨0, A, c, ls, Nat.zero_le _, rfl, rfl, HO10, HQ, T10⟩
      case round =>
        clear HO10 HQ T10 HOF
        rename World => wr
        obtain ⟨j, A', c', ls', hj, rfl, rfl, HO, HQ, T⟩ := hrel
        have HOF : Hid (∀ g', blkOf A' = some g' → w.heap.size ≤ g') := Lib.hid (fun g' e => HO.out.farP g' e)
        have hTz := T.out.only.size
        by_cases hlt : j < 51
        · have hBq : w.heap.size ≤ (wr.alloc (.cells #[.string ⟨#[110]⟩, .string ⟨#[118]⟩] 82)).heap.size := by simp; omega
          have HOA := HO.out.alloc (.cells #[.string ⟨#[110]⟩, .string ⟨#[118]⟩] 82)
          have hBn := Blk.new wr 82 #[.string ⟨#[110]⟩, .string ⟨#[118]⟩]
          go_wp2_with (at_builtin; refine wpList_push rfl _ _ _ rfl 32 Tryz.underlying42 einfo_hdr rfl HOA (⟨#[110]⟩, ⟨#[118]⟩) wr.heap.size rfl hBn (fun j hj => pairEnc_one _ j hj) (by omega) (by omega) hBq ?_; intro g8 cap8 w8 own8 hm8 hat8 hlt8)
          have HO8 := Lib.hid own8
          have T8 := Lib.hid ((T.out.alloc (.cells #[.string ⟨#[110]⟩, .string ⟨#[118]⟩] 82)).modP hm8 (fun i e => HOF.out i e))
          clear own8 hm8
          go_roundw
          case rel => exact ⟨j + 1, some ⟨g8, 0, none⟩, cap8, ls' ++ [(⟨#[110]⟩, ⟨#[118]⟩)], by omega, by go_num, rfl, HO8, Lib.hid (HQ.out.snoc (by decide) (by decide)), T8⟩
          case measure => simp [intOf]; omega
        · obtain rfl : j = 51 := by omega
          go_wp2_with fail
          go_ret
          exact ⟨A', n + 51, c', ls', rfl, HO.out, by omega, HQ.out, T.out.more (by omega)⟩
  · go_wp2_with fail
    refine (tokenText_any b _ w2 T2.out.inv (by omega)).mono ?_
    rintro e w3 ⟨x, rfl, hx, h3⟩
    have HO3 := Lib.hid (HO2.out.mod h3.only (fun g e e2 => by have := HOF.out g e; omega))
    have T3 := Lib.hid (T2.out.trans h3)
    have hTz3 := h3.only.size
    clear h3 HO2 T2
    go_wp2_with fail
    refine (fieldText_any b _ w3 T3.out.inv (by omega)).mono ?_
    rintro e w4 ⟨y, rfl, hy, h4⟩
    have HO4 := Lib.hid (HO3.out.mod h4.only (fun g e e2 => by have := HOF.out g e; omega))
    have T4 := Lib.hid (T3.out.trans h4)
    have hTz4 := h4.only.size
    clear h4 HO3 T3
    have hBq : w.heap.size ≤ (w4.alloc (.cells #[.string x, .string y] 82)).heap.size := by simp; omega
    have HOA := HO4.out.alloc (.cells #[.string x, .string y] 82)
    have hBn := Blk.new w4 82 #[.string x, .string y]
    go_wp2_with (at_builtin; refine wpList_push rfl _ _ _ rfl 32 Tryz.underlying42 einfo_hdr rfl HOA (x, y) w4.heap.size rfl hBn (fun j hj => pairEnc_one _ j hj) (by omega) (by omega) hBq ?_; intro g8 cap8 w8 own8 hm8 hat8 hlt8)
    have T := Lib.hid ((T4.out.alloc (.cells #[.string x, .string y] 82)).modP hm8 (fun i e => HOF.out i e))
    have HO := Lib.hid own8
    have HQ1 := Lib.hid (HQ.out.snoc (a := x) (b := y) (by omega) hy)
    have hTz8 := T.out.only.size
    clear own8 hm8 HOF HO4 T4 HQ hBn HOA hBq
    have HQ := HQ1
    have HOF : Hid (∀ g', blkOf (some (⟨g8, 0, none⟩ : Addr)) = some g' → w.heap.size ≤ g') := Lib.hid (fun g' e => HO.out.farP g' e)
    clear HQ1
    go_wp2_with fail
    refine (flip_any b _ 60 w8 T.out.inv (by omega) (by omega) (by omega)).mono ?_
    rintro e w10 ⟨q, rfl, h10⟩
    have HO10 := Lib.hid (HO.out.mod h10.only (fun g e e2 => by have := HOF.out g e; omega))
    have T10 := Lib.hid ((T.out.trans h10).more (show _ ≤ k + 2 * most + 20 by omega))
    clear h10 HO T
    cases q
    · go_wp2_with fail
      go_ret
      exact ⟨(some ⟨g8, 0, none⟩), (n + 1), cap8, (ls ++ [(x, y)]), rfl, HO10.out, by omega, HQ.out, T10.out.more (by omega)⟩
    · go_wp2_with fail
      go_loopw [5, 21] (fun o i wr => ∃ (j : Nat) (A' : Option Addr) (c' : Nat) (ls' : List PairD), j ≤ 51 ∧ i = .int .i64 j ∧ o = .slice A' ((n + 1) + j) c' ∧ Hid (HOwn wr w.heap.size A' ((n + 1) + j) c' ls') ∧ Hid (HSmall ls') ∧ Hid (SStep b w wr (k + 2 * most + 20))) (fun _ i _ => 51 - (intOf i).toNat)
      case atStart => exact ⟨0, (some ⟨g8, 0, none⟩), cap8, (ls ++ [(x, y)]), Nat.zero_le _, rfl, rfl, HO10, HQ, T10⟩
      case round =>
        clear HO10 HQ T10 HOF
        rename World => wr
        obtain ⟨j, A', c', ls', hj, rfl, rfl, HO, HQ, T⟩ := hrel
        have HOF : Hid (∀ g', blkOf A' = some g' → w.heap.size ≤ g') := Lib.hid (fun g' e => HO.out.farP g' e)
        have hTz := T.out.only.size
        by_cases hlt : j < 51
        · have hBq : w.heap.size ≤ (wr.alloc (.cells #[.string ⟨#[110]⟩, .string ⟨#[118]⟩] 82)).heap.size := by simp; omega
          have HOA := HO.out.alloc (.cells #[.string ⟨#[110]⟩, .string ⟨#[118]⟩] 82)
          have hBn := Blk.new wr 82 #[.string ⟨#[110]⟩, .string ⟨#[118]⟩]
          go_wp2_with (at_builtin; refine wpList_push rfl _ _ _ rfl 32 Tryz.underlying42 einfo_hdr rfl HOA (⟨#[110]⟩, ⟨#[118]⟩) wr.heap.size rfl hBn (fun j hj => pairEnc_one _ j hj) (by omega) (by omega) hBq ?_; intro g8 cap8 w8 own8 hm8 hat8 hlt8)
          have HO8 := Lib.hid own8
          have T8 := Lib.hid ((T.out.alloc (.cells #[.string ⟨#[110]⟩, .string ⟨#[118]⟩] 82)).modP hm8 (fun i e => HOF.out i e))
          clear own8 hm8
          go_roundw
          case rel => exact ⟨j + 1, some ⟨g8, 0, none⟩, cap8, ls' ++ [(⟨#[110]⟩, ⟨#[118]⟩)], by omega, by go_num, rfl, HO8, Lib.hid (HQ.out.snoc (by decide) (by decide)), T8⟩
          case measure => simp [intOf]; omega
        · obtain rfl : j = 51 := by omega
          go_wp2_with fail
          go_ret
          exact ⟨A', (n + 1) + 51, c', ls', rfl, HO.out, by omega, HQ.out, T.out.more (by omega)⟩

set_option maxRecDepth 100000 in
set_option maxHeartbeats 1000000 in
theorem queryName_any (b k : Nat) (w : World) (hs : SInv b w k) (hk : k < 4611686018426000000) :
    Calls Tryz.prog 82 #[.pointer (some ⟨b, 0, none⟩)] w (RStr fun m w' => m.size ≤ 210 ∧ SStep b w w' (k + 110)) := by
  go_enter Tryz.func82, Tryz.ntmps82
  go_wp2_with fail
  refine (range_any b k 0 4 w hs (by omega) (by omega) (by omega) (by omega)).mono ?_
  rintro e w1 ⟨m, rfl, m0, m1, h1⟩
  obtain ⟨m, rfl⟩ := Int.eq_ofNat_of_zero_le m0
  go_wp2_with fail
  refine (words_any [⟨#[97, 61, 49]⟩, ⟨#[98, 61, 50]⟩, ⟨#[97, 61]⟩, ⟨#[61, 120]⟩, ⟨#[61]⟩, ⟨#[99]⟩, ⟨#[]⟩, ⟨#[97, 61, 37, 52, 49, 43, 37, 50, 66]⟩, ⟨#[100, 61, 120, 37, 50, 54, 121]⟩, ⟨#[98, 61, 37, 99, 51]⟩, ⟨#[97, 61, 49, 61, 50]⟩, ⟨#[97, 63, 98, 61, 47]⟩] 10 b _ w1.heap.size 12 m ⟨#[38]⟩ _ (h1.alloc _).inv (by omega) (Blk.new _ _ _) rfl (by omega) (by omega) (by omega) (by decide) (by omega) (by decide)).mono ?_
  rintro e w2 ⟨s, rfl, hs2, h2⟩
  have T2 := (h1.alloc _).trans h2
  have hss : s.size ≤ 44 := by
    have e : (⟨#[38]⟩ : ByteArray).size = 1 := rfl
    have : m * (10 + (⟨#[38]⟩ : ByteArray).size) ≤ 4 * 11 := Nat.mul_le_mul (by omega) (by omega)
    omega
  clear h1 h2 hs2 hs
  go_wp2_with fail
  refine (flip_any b _ 12 w2 T2.inv (by omega) (by omega) (by omega)).mono ?_
  rintro e w3 ⟨q, rfl, h3⟩
  have T3 := T2.trans h3
  clear T2 h3
  cases q
  · go_wp2_with fail
    go_ret
    exact ⟨_, rfl, by omega, T3.more (by omega)⟩
  · go_wp2_with fail
    refine (words_any [⟨#[120]⟩] 1 b _ w3.heap.size 1 101 ⟨#[38]⟩ _ (T3.alloc _).inv (by omega) (Blk.new _ _ _) rfl (by omega) (by omega) (by omega) (by decide) (by omega) (by decide)).mono ?_
    rintro e w4 ⟨U, rfl, hU, h4⟩
    have hz : U.size ≤ 210 := by
      have e : (⟨#[38]⟩ : ByteArray).size = 1 := rfl
      rw [e] at hU
      omega
    have T4 := (T3.alloc _).trans h4
    clear T3 h4 hU
    go_wp2_with fail
    refine (some_any [⟨#[35]⟩, ⟨#[97, 37]⟩, ⟨#[37, 103, 49, 61, 50]⟩, ⟨#[97, 32, 98]⟩, ⟨#[128]⟩, U] b _ w4.heap.size 6 _ (T4.alloc _).inv (by omega) (Blk.new _ _ _) rfl (by omega) (by omega)).mono ?_
    rintro e w5 ⟨t, rfl, ht, h5⟩
    have htz : t.size ≤ 210 := by
      simp only [List.mem_cons, List.not_mem_nil, or_false] at ht
      rcases ht with rfl | rfl | rfl | rfl | rfl | rfl
      all_goals first | exact hz | decide
    have T5 := (T4.alloc _).trans h5
    clear T4 h5 ht
    go_wp2_with fail
    go_ret
    exact ⟨_, rfl, htz, T5.more (by omega)⟩

set_option maxRecDepth 100000 in
set_option maxHeartbeats 1000000 in
theorem pathName_any (b k : Nat) (w : World) (hs : SInv b w k) (hk : k < 4611686018426000000) :
    Calls Tryz.prog 13 #[.pointer (some ⟨b, 0, none⟩)] w (RStr fun m w' => m.size ≤ 1040 ∧ SStep b w w' (k + 20)) := by
  go_enter Tryz.func13, Tryz.ntmps13
  go_wp2_with fail
  refine (range_any b k 0 4 w hs (by omega) (by omega) (by omega) (by omega)).mono ?_
  rintro e w1 ⟨m, rfl, m0, m1, h1⟩
  obtain ⟨m, rfl⟩ := Int.eq_ofNat_of_zero_le m0
  go_wp2_with fail
  refine (words_any [⟨#[97]⟩, ⟨#[98]⟩, ⟨#[37, 52, 49]⟩, ⟨#[37, 50, 102]⟩, ⟨#[37, 55, 101]⟩, ⟨#[46]⟩, ⟨#[46, 46]⟩, ⟨#[]⟩, ⟨#[120, 59, 121]⟩, ⟨#[99, 37, 50, 48, 100]⟩, ⟨#[37, 99, 51, 37, 97, 52]⟩, ⟨#[65]⟩, ⟨#[97, 46, 98]⟩, ⟨#[126]⟩] 6 b _ w1.heap.size 14 m ⟨#[47]⟩ _ (h1.alloc _).inv (by omega) (Blk.new _ _ _) rfl (by omega) (by omega) (by omega) (by decide) (by omega) (by decide)).mono ?_
  rintro e w2 ⟨s, rfl, hs2, h2⟩
  have T2 := (h1.alloc _).trans h2
  have e1 : (⟨#[47]⟩ : ByteArray).size = 1 := rfl
  have hss : s.size ≤ 28 := by
    have : m * (6 + (⟨#[47]⟩ : ByteArray).size) ≤ 4 * 7 := Nat.mul_le_mul (by omega) (by omega)
    omega
  have ha1 : ¬ 9223372036854775807 < (⟨#[47]⟩ : ByteArray).size + s.size := by omega
  have hsz : ((⟨#[47]⟩ : ByteArray) ++ s).size ≤ 29 := by rw [ByteArray.size_append]; omega
  clear h1 h2 hs2 hs
  go_wp2_with fail
  generalize (⟨#[47]⟩ : ByteArray) ++ s = p at *
  clear ha1 hss
  refine (flip_any b _ 12 w2 T2.inv (by omega) (by omega) (by omega)).mono ?_
  rintro e w3 ⟨q, rfl, h3⟩
  have T3 := T2.trans h3
  clear T2 h3
  cases q
  · go_wp2_with fail
    refine (flip_any b _ 12 w3 T3.inv (by omega) (by omega) (by omega)).mono ?_
    rintro e wA ⟨q, rfl, hA⟩
    have TA := T3.trans hA
    clear T3 hA
    cases q
    · go_wp2_with fail
      go_ret
      exact ⟨_, rfl, by omega, TA.more (by omega)⟩
    · go_wp2_with fail
      refine (changed_with b _ p wA TA.inv (by omega) (by omega) ⟨#[47, 46, 37, 50, 102, 65]⟩ (by decide) (by decide)).mono ?_
      rintro e wB ⟨t, rfl, ht, hB⟩
      have e6 : (⟨#[47, 46, 37, 50, 102, 65]⟩ : ByteArray).size = 6 := rfl
      rw [e6] at ht
      have TB := TA.trans hB
      clear TA hB e6
      go_wp2_with fail
      go_ret
      exact ⟨_, rfl, by omega, TB.more (by omega)⟩
  · have hr := Tryz.strings_Repeat ⟨#[37, 50, 48]⟩ 340 w3 (by decide) (by decide)
    have hz : (⟨(Lib.repeatL (⟨#[37, 50, 48]⟩ : ByteArray).data.toList 340).toArray⟩ : ByteArray).size ≤ 1020 := by
      show (Lib.repeatL _ _).toArray.size ≤ _
      rw [List.size_toArray, Lib.repeatL_length]
      decide
    generalize (⟨(Lib.repeatL (⟨#[37, 50, 48]⟩ : ByteArray).data.toList 340).toArray⟩ : ByteArray) = R at *
    have ha2 : ¬ 9223372036854775807 < (⟨#[47]⟩ : ByteArray).size + R.size := by omega
    have hz2 : ((⟨#[47]⟩ : ByteArray) ++ R).size ≤ 1021 := by rw [ByteArray.size_append]; omega
    go_wp2_with fail
    refine hr.mono ?_
    clear hr
    rintro e w4 ⟨rfl, hm4⟩
    have T4 := T3.new (Mod.of_below hm4)
    clear T3 hm4
    go_wp2_with fail
    generalize (⟨#[47]⟩ : ByteArray) ++ R = U at *
    clear ha2 hz
    refine (some_any [⟨#[]⟩, ⟨#[97]⟩, ⟨#[47, 97, 63, 98]⟩, ⟨#[47, 97, 35]⟩, ⟨#[47, 37]⟩, ⟨#[47, 37, 52]⟩, ⟨#[47, 37, 122, 122]⟩, ⟨#[47, 127]⟩, ⟨#[47, 97, 32, 98]⟩, U] b _ w4.heap.size 10 _ (T4.alloc _).inv (by omega) (Blk.new _ _ _) rfl (by omega) (by omega)).mono ?_
    rintro e w5 ⟨t, rfl, ht, h5⟩
    have htz : t.size ≤ 1021 := by
      simp only [List.mem_cons, List.not_mem_nil, or_false] at ht
      rcases ht with rfl | rfl | rfl | rfl | rfl | rfl | rfl | rfl | rfl | rfl
      all_goals first | exact hz2 | decide
    have T5 := (T4.alloc _).trans h5
    clear T4 h5 ht hz2
    go_wp2_with fail
    refine (flip_any b _ 12 w5 T5.inv (by omega) (by omega) (by omega)).mono ?_
    rintro e wA ⟨q, rfl, hA⟩
    have TA := T5.trans hA
    clear T5 hA
    cases q
    · go_wp2_with fail
      go_ret
      exact ⟨_, rfl, by omega, TA.more (by omega)⟩
    · go_wp2_with fail
      refine (changed_with b _ t wA TA.inv (by omega) (by omega) ⟨#[47, 46, 37, 50, 102, 65]⟩ (by decide) (by decide)).mono ?_
      rintro e wB ⟨t, rfl, ht, hB⟩
      have e6 : (⟨#[47, 46, 37, 50, 102, 65]⟩ : ByteArray).size = 6 := rfl
      rw [e6] at ht
      have TB := TA.trans hB
      clear TA hB e6
      go_wp2_with fail
      go_ret
      exact ⟨_, rfl, by omega, TB.more (by omega)⟩

end Go.Proofs.YtjehlecgnepgmaaGreatDoor

namespace Go.Proofs.YtjehlecgnepgmaaGreatDoor
open Go.RowKit
set_option linter.unusedVariables false
set_option linter.unusedSimpArgs false

structure ReqD where
  at_ : Int
  method : ByteArray
  host : ByteArray
  path : ByteArray
  query : ByteArray
  from_ : ByteArray
  ha : Option Addr
  hn : Nat
  hc : Nat
  body : ByteArray
def ReqD.val (r : ReqD) : Value := .agg #[.int .i64 r.at_, .string r.method, .string r.host, .string r.path, .string r.query, .string r.from_, .slice r.ha r.hn r.hc, .string r.body]
structure ReqD.Fit (r : ReqD) (ls : List PairD) : Prop where
  i : I64 r.at_
  z1 : r.method.size ≤ 110
  z2 : r.host.size ≤ 70
  z3 : r.path.size ≤ 1040
  z4 : r.query.size ≤ 210
  z5 : r.from_.size ≤ 2001
  z6 : r.body.size ≤ 20001
  z7 : r.hn ≤ 60
  h : HSmall ls
/-- a request handed back, its headers in a row of its own -/
def RReq (b : Nat) (w : World) (k : Nat) (e : Ending) (w' : World) : Prop := ∃ (r : ReqD) (ls : List PairD), e = .returned r.val ∧ HOwn w' w.heap.size r.ha r.hn r.hc ls ∧ r.Fit ls ∧ SStep b w w' k
theorem Own.below {α : Type} {w : World} {B : Nat} {t : TypeId} {sz : Nat} {enc : α → Nat → Value} {A : Option Addr} {n c : Nat} {xs : List α} (h : Own w B t sz enc A n c xs) (g : Nat) (e : blkOf A = some g) : g < w.heap.size := by
  rcases h.blk with ⟨rfl, _, _⟩ | ⟨g', rfl, hB, ht⟩
  · cases e
  · injection e with e; subst e; exact ht.lt

theorem SStep.mod0 {S : Nat → Prop} {b k : Nat} {w w' w'' : World} (h : SStep b w w' k) (hm : Mod S w' w'') (hS : ∀ i, S i → w.heap.size ≤ i) : SStep b w w'' k :=
  ⟨h.lt, h.only.step hm (fun i hi e => by have := hS i e; omega), h.inv.mod hm (fun i hi e => by have := hS i e; have := h.lt; omega)⟩
abbrev zReq : Array Value := #[.int .i64 0, .string ⟨#[]⟩, .string ⟨#[]⟩, .string ⟨#[]⟩, .string ⟨#[]⟩, .string ⟨#[]⟩, .slice none 0 0, .string ⟨#[]⟩]

set_option maxRecDepth 100000 in
set_option maxHeartbeats 2000000 in
theorem rightRequest_any (b k : Nat) (w : World) (hs : SInv b w k) (hk : k < 4611686018425000000) :
    Calls Tryz.prog 79 #[.pointer (some ⟨b, 0, none⟩)] w (RReq b w (k + 200)) := by
  have hbl := hs.lt
  have T := (SStep.refl hs).alloc (.cells #[.int .i64 0, .string ⟨#[]⟩, .string ⟨#[]⟩, .string ⟨#[]⟩, .string ⟨#[]⟩, .string ⟨#[]⟩, .slice none 0 0, .string ⟨#[]⟩] 44)
  have hR := Blk.new w 44 #[.int .i64 0, .string ⟨#[]⟩, .string ⟨#[]⟩, .string ⟨#[]⟩, .string ⟨#[]⟩, .string ⟨#[]⟩, .slice none 0 0, .string ⟨#[]⟩]
  go_enter Tryz.func79, Tryz.ntmps79
  go_wp2_with fail
  have hz0 : (w.alloc (.cells #[.int .i64 0, .string ⟨#[]⟩, .string ⟨#[]⟩, .string ⟨#[]⟩, .string ⟨#[]⟩, .string ⟨#[]⟩, .slice none 0 0, .string ⟨#[]⟩] 44)).heap.size = w.heap.size + 1 := by simp
  have R := Lib.hid hR
  clear hR hs
  generalize w.alloc (.cells #[.int .i64 0, .string ⟨#[]⟩, .string ⟨#[]⟩, .string ⟨#[]⟩, .string ⟨#[]⟩, .string ⟨#[]⟩, .slice none 0 0, .string ⟨#[]⟩] 44) = w0 at *
  generalize hrb : w.heap.size = rb at *
  refine (pick_any [0, 5, 1000, 60000] b _ (rb + 1) 4 _ (T.alloc _).inv (by omega) (Blk.new' _ _ hz0) rfl (by omega) (by omega)).mono ?_
  rintro e w1 ⟨at_, rfl, hat, hx⟩
  have hat0 : 0 ≤ at_ ∧ at_ ≤ 60000 := by simp at hat; omega
  have hz1 : rb < w0.heap.size := by omega
  clear hat hz0
  have R' := Lib.hid (R.out.mod hx.only.pre.1 (by omega))
  have T' := (T.alloc _).trans hx
  have z' := hx.only.pre.2.1
  clear R T hx
  have R := R'
  have T := T'
  clear R' T'
  go_wp2_with fail
  refine (some_any [⟨#[71, 69, 84]⟩, ⟨#[71, 69, 84]⟩, ⟨#[71, 69, 84]⟩, ⟨#[72, 69, 65, 68]⟩, ⟨#[80, 79, 83, 84]⟩, ⟨#[103, 101, 116]⟩] b _ w1.heap.size 6 _ (T.alloc _).inv (by omega) (Blk.new _ _ _) rfl (by omega) (by omega)).mono ?_
  rintro e w2 ⟨me, rfl, ht, hx⟩
  have hmez : me.size ≤ 10 := by
    simp only [List.mem_cons, List.not_mem_nil, or_false] at ht
    rcases ht with rfl | rfl | rfl | rfl | rfl | rfl <;> decide
  clear ht
  have R' := Lib.hid (R.out.mod hx.only.pre.1 (by omega))
  have T' := (T.alloc _).trans hx
  have z' := hx.only.pre.2.1
  clear R T hx
  have R := R'
  have T := T'
  clear R' T'
  go_wp2_with fail
  refine (rightHost_any b _ w2 T.inv (by omega)).mono ?_
  rintro e w3 ⟨ho, rfl, hhoz, hx⟩
  have R' := Lib.hid (R.out.mod hx.only (by omega))
  have T' := T.trans hx
  have z' := hx.only.size
  clear R T hx
  have R := R'
  have T := T'
  clear R' T'
  go_wp2_with fail
  refine (some_any [⟨#[47]⟩, ⟨#[47, 97]⟩, ⟨#[47, 97]⟩, ⟨#[47, 97, 47, 98]⟩, ⟨#[47, 97, 47, 46, 46, 47, 98]⟩, ⟨#[47, 37, 52, 49]⟩] b _ w3.heap.size 6 _ (T.alloc _).inv (by omega) (Blk.new _ _ _) rfl (by omega) (by omega)).mono ?_
  rintro e w4 ⟨pa, rfl, ht, hx⟩
  have hpaz : pa.size ≤ 10 := by
    simp only [List.mem_cons, List.not_mem_nil, or_false] at ht
    rcases ht with rfl | rfl | rfl | rfl | rfl | rfl <;> decide
  clear ht
  have R' := Lib.hid (R.out.mod hx.only.pre.1 (by omega))
  have T' := (T.alloc _).trans hx
  have z' := hx.only.pre.2.1
  clear R T hx
  have R := R'
  have T := T'
  clear R' T'
  go_wp2_with fail
  refine (some_any [⟨#[]⟩, ⟨#[]⟩, ⟨#[120, 61, 49]⟩, ⟨#[98, 61, 50, 38, 97, 61, 49]⟩] b _ w4.heap.size 4 _ (T.alloc _).inv (by omega) (Blk.new _ _ _) rfl (by omega) (by omega)).mono ?_
  rintro e w5 ⟨qu, rfl, ht, hx⟩
  have hquz : qu.size ≤ 10 := by
    simp only [List.mem_cons, List.not_mem_nil, or_false] at ht
    rcases ht with rfl | rfl | rfl | rfl <;> decide
  clear ht
  have R' := Lib.hid (R.out.mod hx.only.pre.1 (by omega))
  have T' := (T.alloc _).trans hx
  have z' := hx.only.pre.2.1
  clear R T hx
  have R := R'
  have T := T'
  clear R' T'
  go_wp2_with fail
  refine (some_any [⟨#[49, 48, 46, 48, 46, 48, 46, 49]⟩, ⟨#[49, 48, 46, 48, 46, 48, 46, 49]⟩, ⟨#[57, 46, 57, 46, 57, 46, 57]⟩, ⟨#[]⟩] b _ w5.heap.size 4 _ (T.alloc _).inv (by omega) (Blk.new _ _ _) rfl (by omega) (by omega)).mono ?_
  rintro e w6 ⟨fr, rfl, ht, hx⟩
  have hfrz : fr.size ≤ 10 := by
    simp only [List.mem_cons, List.not_mem_nil, or_false] at ht
    rcases ht with rfl | rfl | rfl | rfl <;> decide
  clear ht
  have R' := Lib.hid (R.out.mod hx.only.pre.1 (by omega))
  have T' := (T.alloc _).trans hx
  have z' := hx.only.pre.2.1
  clear R T hx
  have R := R'
  have T := T'
  clear R' T'
  go_wp2_with fail
  have hzz : rb < w6.heap.size := by omega
  refine (rightHeaders_any b _ 4 w6 T.inv (by omega) (by omega)).mono ?_
  rintro e w7 ⟨A, n, c, ls, rfl, own, hn, hsm, hx⟩
  have R' := Lib.hid (R.out.mod hx.only (by omega))
  have T' := T.trans hx
  have z' := hx.only.size
  clear R T hx
  have R := R'
  have T := T'
  clear R' T'
  have HQ := Lib.hid hsm
  have hmP : New w7 (w7.alloc (.cells #[.int .i64 at_, .string me, .string ho, .string pa, .string qu, .string fr, .slice A n c, .string ⟨#[]⟩] 44)) := (Mod.refl _ _).alloc _
  have hP := Blk.new w7 44 #[.int .i64 at_, .string me, .string ho, .string pa, .string qu, .string fr, .slice A n c, .string ⟨#[]⟩]
  have HNE : Hid (∀ g, blkOf A = some g → g ≠ w7.heap.size ∧ g ≠ rb) := Lib.hid (fun g e => by
    have h1 := own.below g e
    have h2 := own.farP g e
    omega)
  have P := Lib.hid hP
  have R' := Lib.hid (R.out.mod hmP (fun e => e))
  have HO := Lib.hid (own.new hmP)
  have T' := T.new hmP
  have hw67 : w6.heap.size ≤ w7.heap.size := z'
  have hzA := hmP.size
  clear R T own hsm hP hmP
  have R := R'
  have T := T'
  clear R' T'
  go_upto_region 2 with fail
  generalize w7.alloc (.cells #[.int .i64 at_, .string me, .string ho, .string pa, .string qu, .string fr, .slice A n c, .string ⟨#[]⟩] 44) = w8 at *
  have hpr : rb ≠ w7.heap.size := by omega
  have hpb : b ≠ w7.heap.size := by omega
  have hpg : rb < w7.heap.size := by omega
  generalize w7.heap.size = pb at *
  go_wp2_with fail
  refine (flip_any b _ 4 w8 T.inv (by omega) (by omega) (by omega)).mono ?_
  rintro e w9 ⟨q, rfl, hx⟩
  have P' := Lib.hid (P.out.mod hx.only (by omega))
  have HO' := Lib.hid (HO.out.mod hx.only (fun g e e2 => by have := HO.out.farP g e; omega))
  have R' := Lib.hid (R.out.mod hx.only (by omega))
  have T' := T.trans hx
  have z' := hx.only.size
  clear R T hx
  have R := R'
  have T := T'
  clear R' T'
  clear P HO
  have P := P'
  have HO := HO'
  clear P' HO'
  cases q
  · have hcP := P.out.cell
    have hcR := R.out.cell
    have hfR := R.out.frozen
    have plt := P.out.lt
    have rlt := R.out.lt
    have hmF := fun (v0 v1 v2 v3 v4 v5 v6 v7 : Value) => (Mod.setCell (S := fun k => k = rb) (p := ⟨rb, 7, none⟩) (Mod.setCell (S := fun k => k = rb) (p := ⟨rb, 6, none⟩) (Mod.setCell (S := fun k => k = rb) (p := ⟨rb, 5, none⟩) (Mod.setCell (S := fun k => k = rb) (p := ⟨rb, 4, none⟩) (Mod.setCell (S := fun k => k = rb) (p := ⟨rb, 3, none⟩) (Mod.setCell (S := fun k => k = rb) (p := ⟨rb, 2, none⟩) (Mod.setCell (S := fun k => k = rb) (p := ⟨rb, 1, none⟩) (Mod.setCell (S := fun k => k = rb) (p := ⟨rb, 0, none⟩) (Mod.refl _ w9) (.inl rfl) v0) (.inl rfl) v1) (.inl rfl) v2) (.inl rfl) v3) (.inl rfl) v4) (.inl rfl) v5) (.inl rfl) v6) (.inl rfl) v7)
    have HMF := Lib.hid hmF
    have HFIN : Hid (∀ W', Mod (fun k => k = rb) w9 W' → HOwn W' rb A n c ls ∧ SStep b w W' (k + 200)) := Lib.hid (fun W' hm => ⟨(HO.out.mod hm (fun g e => (HNE.out g e).2)).less (by omega), (T.mod0 hm (by intro i e; omega)).more (by omega)⟩)
    clear hmF P R HO T
    go_wp2_with fail
    refine bodyPost_ret (v := ReqD.val ⟨at_, me, ho, pa, qu, fr, A, n, c, ⟨#[]⟩⟩) (by simp [results, Tryz.results79, go_sem, hcP, hcR, hfR, plt, rlt, hpr, ReqD.val]) rfl ?_
    refine ⟨⟨at_, me, ho, pa, qu, fr, A, n, c, ⟨#[]⟩⟩, ls, rfl, (by rw [hrb]; exact (HFIN.out _ (HMF.out _ _ _ _ _ _ _ _)).1), ?_, (HFIN.out _ (HMF.out _ _ _ _ _ _ _ _)).2⟩
    exact ⟨by unfold I64; (try dsimp only); omega, by (try dsimp only); first | omega | decide, by (try dsimp only); first | omega | decide, by (try dsimp only); first | omega | decide, by (try dsimp only); first | omega | decide, by (try dsimp only); first | omega | decide, by (try dsimp only); first | omega | decide, by (try dsimp only); omega, HQ.out⟩
  · have hr := Tryz.strings_Repeat ⟨#[97, 98]⟩ 40 w9 (by decide) (by decide)
    have hz : (⟨(Lib.repeatL (⟨#[97, 98]⟩ : ByteArray).data.toList 40).toArray⟩ : ByteArray).size ≤ 80 := by
      show (Lib.repeatL _ _).toArray.size ≤ _
      rw [List.size_toArray, Lib.repeatL_length]
      decide
    generalize (⟨(Lib.repeatL (⟨#[97, 98]⟩ : ByteArray).data.toList 40).toArray⟩ : ByteArray) = U at *
    go_wp2_with fail
    refine hr.mono ?_
    clear hr
    rintro e w10 ⟨rfl, hmB⟩
    have hmB : New w9 w10 := Mod.of_below hmB
    have P' := Lib.hid (P.out.mod hmB (fun e => e))
    have HO' := Lib.hid (HO.out.new hmB)
    have R' := Lib.hid (R.out.mod hmB (fun e => e))
    have T' := T.new hmB
    clear P HO R T hmB
    have P := P'
    have HO := HO'
    have R := R'
    have T := T'
    clear P' HO' R' T'
    go_wp2_with fail
    refine (some_any [⟨#[104, 101, 108, 108, 111]⟩, ⟨#[120]⟩, U] b _ w10.heap.size 3 _ (T.alloc _).inv (by omega) (Blk.new _ _ _) rfl (by omega) (by omega)).mono ?_
    rintro e w11 ⟨bo, rfl, ht, hx⟩
    have hboz : bo.size ≤ 80 := by
      simp only [List.mem_cons, List.not_mem_nil, or_false] at ht
      rcases ht with rfl | rfl | rfl
      all_goals first | exact hz | decide
    have P' := Lib.hid (P.out.mod hx.only.pre.1 (by omega))
    have HO' := Lib.hid (HO.out.mod hx.only.pre.1 (fun g e e2 => by have := HO.out.farP g e; omega))
    clear ht hz
    have R' := Lib.hid (R.out.mod hx.only.pre.1 (by omega))
    have T' := (T.alloc _).trans hx
    have z' := hx.only.pre.2.1
    clear R T hx
    have R := R'
    have T := T'
    clear R' T'
    clear P HO
    have hP5 := P'.out.set 7 (.string bo)
    simp only [List.setIfInBounds_toArray, List.set_cons_zero, List.set_cons_succ] at hP5
    have hm5 : Mod (fun k => k = pb) w11 (w11.setCell ⟨pb, 7, none⟩ (.string bo)) := Mod.setCell (S := fun k => k = pb) (p := ⟨pb, 7, none⟩) (Mod.refl _ _) (.inl rfl) _
    have R5 := Lib.hid (R.out.mod hm5 hpr)
    have HO5 := Lib.hid (HO'.out.mod hm5 (fun g e => (HNE.out g e).1))
    have T5 := T.mod0 hm5 (by intro i e; omega)
    have P5 := Lib.hid hP5
    have q7 := P'.out.cell 7
    have qf := P'.out.frozen 7
    have ql := P'.out.lt
    simp only [List.getElem?_toArray, List.getElem?_cons_zero, List.getElem?_cons_succ] at q7
    clear hP5 hm5 P' HO' R T
    go_upto_region 4 with fail
    clear q7 qf ql
    generalize w11.setCell ⟨pb, 7, none⟩ (.string bo) = w12 at *
    have P := P5
    have R := R5
    have HO := HO5
    have T := T5
    clear P5 R5 HO5 T5
    have hcP := P.out.cell
    have hcR := R.out.cell
    have hfR := R.out.frozen
    have plt := P.out.lt
    have rlt := R.out.lt
    have hmF := fun (v0 v1 v2 v3 v4 v5 v6 v7 : Value) => (Mod.setCell (S := fun k => k = rb) (p := ⟨rb, 7, none⟩) (Mod.setCell (S := fun k => k = rb) (p := ⟨rb, 6, none⟩) (Mod.setCell (S := fun k => k = rb) (p := ⟨rb, 5, none⟩) (Mod.setCell (S := fun k => k = rb) (p := ⟨rb, 4, none⟩) (Mod.setCell (S := fun k => k = rb) (p := ⟨rb, 3, none⟩) (Mod.setCell (S := fun k => k = rb) (p := ⟨rb, 2, none⟩) (Mod.setCell (S := fun k => k = rb) (p := ⟨rb, 1, none⟩) (Mod.setCell (S := fun k => k = rb) (p := ⟨rb, 0, none⟩) (Mod.refl _ w12) (.inl rfl) v0) (.inl rfl) v1) (.inl rfl) v2) (.inl rfl) v3) (.inl rfl) v4) (.inl rfl) v5) (.inl rfl) v6) (.inl rfl) v7)
    have HMF := Lib.hid hmF
    have HFIN : Hid (∀ W', Mod (fun k => k = rb) w12 W' → HOwn W' rb A n c ls ∧ SStep b w W' (k + 200)) := Lib.hid (fun W' hm => ⟨(HO.out.mod hm (fun g e => (HNE.out g e).2)).less (by omega), (T.mod0 hm (by intro i e; omega)).more (by omega)⟩)
    clear hmF P R HO T
    go_wp2_with fail
    refine bodyPost_ret (v := ReqD.val ⟨at_, me, ho, pa, qu, fr, A, n, c, bo⟩) (by simp [results, Tryz.results79, go_sem, hcP, hcR, hfR, plt, rlt, hpr, ReqD.val]) rfl ?_
    refine ⟨⟨at_, me, ho, pa, qu, fr, A, n, c, bo⟩, ls, rfl, (by rw [hrb]; exact (HFIN.out _ (HMF.out _ _ _ _ _ _ _ _)).1), ?_, (HFIN.out _ (HMF.out _ _ _ _ _ _ _ _)).2⟩
    exact ⟨by unfold I64; (try dsimp only); omega, by (try dsimp only); first | omega | decide, by (try dsimp only); first | omega | decide, by (try dsimp only); first | omega | decide, by (try dsimp only); first | omega | decide, by (try dsimp only); first | omega | decide, by (try dsimp only); first | omega | decide, by (try dsimp only); omega, HQ.out⟩

end Go.Proofs.YtjehlecgnepgmaaGreatDoor

namespace Go.Proofs.YtjehlecgnepgmaaGreatDoor
open Go.RowKit
set_option linter.unusedVariables false
set_option linter.unusedSimpArgs false

/-- a request handed back, its path of modest size -/
def RReqP (b : Nat) (w : World) (k : Nat) (e : Ending) (w' : World) : Prop := ∃ r : ReqD, e = .returned r.val ∧ r.path.size ≤ 1040 ∧ SStep b w w' k

set_option maxRecDepth 100000 in
set_option maxHeartbeats 1000000 in
theorem request_any (b k : Nat) (w : World) (hs : SInv b w k) (hk : k < 4611686018424000000) :
    Calls Tryz.prog 44 #[.pointer (some ⟨b, 0, none⟩)] w (RReqP b w (k + 500)) := by
  have hbl := hs.lt
  have T := (SStep.refl hs).alloc (.cells zReq 44)
  have hR := Blk.new w 44 zReq
  have hz0 : (w.alloc (.cells zReq 44)).heap.size = w.heap.size + 1 := by simp
  go_enter Tryz.func44, Tryz.ntmps44
  go_wp2_with fail
  have R := Lib.hid hR
  clear hR hs
  generalize w.alloc (.cells zReq 44) = w0 at *
  generalize hrb : w.heap.size = rb at *
  refine (rightRequest_any b k w0 T.inv (by omega)).mono ?_
  rintro e w1 ⟨⟨at_, me, ho, pa, qu, fr, A, n, c, bo⟩, ls, rfl, own, fit, hx⟩
  have hpa : pa.size ≤ 1040 := fit.z3
  clear own fit
  have hz1 : rb < w0.heap.size := by omega
  clear hz0
  have R' := Lib.hid (R.out.mod hx.only (by omega))
  have T' := T.trans hx
  have z' := hx.only.size
  clear R T hx
  have R := R'
  have T := T'
  clear R' T'
  have hzw : w0.heap.size ≤ w1.heap.size := z'
  clear z'
  unfold ReqD.val
  simp only
  have hP := Blk.new w1 44 #[.int .i64 at_, .string me, .string ho, .string pa, .string qu, .string fr, .slice A n c, .string bo]
  have hmP : New w1 (w1.alloc (.cells #[.int .i64 at_, .string me, .string ho, .string pa, .string qu, .string fr, .slice A n c, .string bo] 44)) := (Mod.refl _ _).alloc _
  have P := Lib.hid hP
  have R' := Lib.hid (R.out.mod hmP (fun e => e))
  have T' := T.new hmP
  clear R T hP hmP
  have R := R'
  have T := T'
  clear R' T'
  go_upto_region 2 with fail
  generalize w1.alloc (.cells #[.int .i64 at_, .string me, .string ho, .string pa, .string qu, .string fr, .slice A n c, .string bo] 44) = w2 at *
  have hpr : rb ≠ w1.heap.size := by omega
  have hpb : b ≠ w1.heap.size := by omega
  have hpg : rb < w1.heap.size := by omega
  generalize w1.heap.size = pb at *
  go_wp2_with fail
  refine (flip_any b _ 6 w2 T.inv (by omega) (by omega) (by omega)).mono ?_
  rintro e w3 ⟨q, rfl, hx⟩
  have P' := Lib.hid (P.out.mod hx.only (by omega))
  have R' := Lib.hid (R.out.mod hx.only (by omega))
  have T' := T.trans hx
  have z' := hx.only.size
  clear R T hx
  have R := R'
  have T := T'
  clear R' T'
  clear P
  have P := P'
  clear P'
  cases q
  · have hcP := P.out.cell
    have hcR := R.out.cell
    have hfR := R.out.frozen
    have plt := P.out.lt
    have rlt := R.out.lt
    have hmF := fun (v0 v1 v2 v3 v4 v5 v6 v7 : Value) => (Mod.setCell (S := fun k => k = rb) (p := ⟨rb, 7, none⟩) (Mod.setCell (S := fun k => k = rb) (p := ⟨rb, 6, none⟩) (Mod.setCell (S := fun k => k = rb) (p := ⟨rb, 5, none⟩) (Mod.setCell (S := fun k => k = rb) (p := ⟨rb, 4, none⟩) (Mod.setCell (S := fun k => k = rb) (p := ⟨rb, 3, none⟩) (Mod.setCell (S := fun k => k = rb) (p := ⟨rb, 2, none⟩) (Mod.setCell (S := fun k => k = rb) (p := ⟨rb, 1, none⟩) (Mod.setCell (S := fun k => k = rb) (p := ⟨rb, 0, none⟩) (Mod.refl _ w3) (.inl rfl) v0) (.inl rfl) v1) (.inl rfl) v2) (.inl rfl) v3) (.inl rfl) v4) (.inl rfl) v5) (.inl rfl) v6) (.inl rfl) v7)
    have HMF := Lib.hid hmF
    have HFIN : Hid (∀ W', Mod (fun k => k = rb) w3 W' → SStep b w W' (k + 500)) := Lib.hid (fun W' hm => (T.mod0 hm (by intro i e; omega)).more (by omega))
    clear hmF P R T
    go_wp2_with fail
    refine bodyPost_ret (v := ReqD.val ⟨at_, me, ho, pa, qu, fr, A, n, c, bo⟩) (by simp [results, Tryz.results44, go_sem, hcP, hcR, hfR, plt, rlt, hpr, ReqD.val]) rfl ?_
    exact ⟨⟨at_, me, ho, pa, qu, fr, A, n, c, bo⟩, rfl, by (try dsimp only); omega, HFIN.out _ (HMF.out _ _ _ _ _ _ _ _)⟩
  · go_wp2_with fail
    refine (next_any b _ 8 w3 T.inv (by omega) (by omega) (by omega)).mono ?_
    rintro e w4 ⟨m, rfl, hm0, hm8, hx⟩
    have P' := Lib.hid (P.out.mod hx.only (by omega))
    have R' := Lib.hid (R.out.mod hx.only (by omega))
    have T' := T.trans hx
    have z' := hx.only.size
    clear R T hx
    have R := R'
    have T := T'
    clear R' T'
    clear P
    have P := P'
    clear P'
    clear z'
    rcases (by omega : m = 0 ∨ m = 1 ∨ m = 2 ∨ m = 3 ∨ m = 4 ∨ m = 5 ∨ m = 6 ∨ m = 7) with rfl | rfl | rfl | rfl | rfl | rfl | rfl | rfl
    · go_wp2_with fail
      refine (odd_any b _ 0 1000 w4 T.inv (by omega) (by omega) (by omega) (by omega)).mono ?_
      rintro e w5 ⟨m, rfl, q1, q2, hx⟩
      have P' := Lib.hid (P.out.mod hx.only (by omega))
      have R' := Lib.hid (R.out.mod hx.only (by omega))
      have T' := T.trans hx
      have z' := hx.only.size
      clear R T hx
      have R := R'
      have T := T'
      clear R' T'
      clear P
      have P := P'
      clear P'
      clear z'
      have hcp := P.out.cell
      have hfp := P.out.frozen
      have plt0 := P.out.lt
      have P' := Lib.hid (P.out.set 0 (.int .i64 m))
      have hmS : Mod (fun q => q = pb) w5 (World.setCell w5 ⟨pb, 0, none⟩ (.int .i64 m)) := Mod.setCell (S := fun q => q = pb) (p := ⟨pb, 0, none⟩) (Mod.refl _ _) (.inl rfl) _
      have R' := Lib.hid (R.out.mod hmS hpr)
      have T' := T.mod0 hmS (fun i e => by omega)
      clear P R T
      have P := P'
      have R := R'
      have T := T'
      clear P' R' T' hmS
      go_upto_region 19 with fail
      clear hcp hfp plt0
      generalize World.setCell w5 ⟨pb, 0, none⟩ (.int .i64 m) = wz at *
      have hcP := P.out.cell
      have hcR := R.out.cell
      have hfR := R.out.frozen
      have plt := P.out.lt
      have rlt := R.out.lt
      have hmF := fun (v0 v1 v2 v3 v4 v5 v6 v7 : Value) => (Mod.setCell (S := fun k => k = rb) (p := ⟨rb, 7, none⟩) (Mod.setCell (S := fun k => k = rb) (p := ⟨rb, 6, none⟩) (Mod.setCell (S := fun k => k = rb) (p := ⟨rb, 5, none⟩) (Mod.setCell (S := fun k => k = rb) (p := ⟨rb, 4, none⟩) (Mod.setCell (S := fun k => k = rb) (p := ⟨rb, 3, none⟩) (Mod.setCell (S := fun k => k = rb) (p := ⟨rb, 2, none⟩) (Mod.setCell (S := fun k => k = rb) (p := ⟨rb, 1, none⟩) (Mod.setCell (S := fun k => k = rb) (p := ⟨rb, 0, none⟩) (Mod.refl _ wz) (.inl rfl) v0) (.inl rfl) v1) (.inl rfl) v2) (.inl rfl) v3) (.inl rfl) v4) (.inl rfl) v5) (.inl rfl) v6) (.inl rfl) v7)
      have HMF := Lib.hid hmF
      have HFIN : Hid (∀ W', Mod (fun k => k = rb) wz W' → SStep b w W' (k + 500)) := Lib.hid (fun W' hm => (T.mod0 hm (by intro i e; omega)).more (by omega))
      clear hmF P R T
      go_wp2_with fail
      refine bodyPost_ret (v := ReqD.val ⟨m, me, ho, pa, qu, fr, A, n, c, bo⟩) (by simp [results, Tryz.results44, go_sem, hcP, hcR, hfR, plt, rlt, hpr, ReqD.val]) rfl ?_
      exact ⟨⟨m, me, ho, pa, qu, fr, A, n, c, bo⟩, rfl, by (try dsimp only); omega, HFIN.out _ (HMF.out _ _ _ _ _ _ _ _)⟩
    · go_wp2_with fail
      refine (tokenText_any b _ w4 T.inv (by omega)).mono ?_
      rintro e w5 ⟨m, rfl, hmz, hx⟩
      have P' := Lib.hid (P.out.mod hx.only (by omega))
      have R' := Lib.hid (R.out.mod hx.only (by omega))
      have T' := T.trans hx
      have z' := hx.only.size
      clear R T hx
      have R := R'
      have T := T'
      clear R' T'
      clear P
      have P := P'
      clear P'
      clear z'
      have hcp := P.out.cell
      have hfp := P.out.frozen
      have plt0 := P.out.lt
      have P' := Lib.hid (P.out.set 1 (.string m))
      have hmS : Mod (fun q => q = pb) w5 (World.setCell w5 ⟨pb, 1, none⟩ (.string m)) := Mod.setCell (S := fun q => q = pb) (p := ⟨pb, 1, none⟩) (Mod.refl _ _) (.inl rfl) _
      have R' := Lib.hid (R.out.mod hmS hpr)
      have T' := T.mod0 hmS (fun i e => by omega)
      clear P R T
      have P := P'
      have R := R'
      have T := T'
      clear P' R' T' hmS
      go_upto_region 19 with fail
      clear hcp hfp plt0
      generalize World.setCell w5 ⟨pb, 1, none⟩ (.string m) = wz at *
      have hcP := P.out.cell
      have hcR := R.out.cell
      have hfR := R.out.frozen
      have plt := P.out.lt
      have rlt := R.out.lt
      have hmF := fun (v0 v1 v2 v3 v4 v5 v6 v7 : Value) => (Mod.setCell (S := fun k => k = rb) (p := ⟨rb, 7, none⟩) (Mod.setCell (S := fun k => k = rb) (p := ⟨rb, 6, none⟩) (Mod.setCell (S := fun k => k = rb) (p := ⟨rb, 5, none⟩) (Mod.setCell (S := fun k => k = rb) (p := ⟨rb, 4, none⟩) (Mod.setCell (S := fun k => k = rb) (p := ⟨rb, 3, none⟩) (Mod.setCell (S := fun k => k = rb) (p := ⟨rb, 2, none⟩) (Mod.setCell (S := fun k => k = rb) (p := ⟨rb, 1, none⟩) (Mod.setCell (S := fun k => k = rb) (p := ⟨rb, 0, none⟩) (Mod.refl _ wz) (.inl rfl) v0) (.inl rfl) v1) (.inl rfl) v2) (.inl rfl) v3) (.inl rfl) v4) (.inl rfl) v5) (.inl rfl) v6) (.inl rfl) v7)
      have HMF := Lib.hid hmF
      have HFIN : Hid (∀ W', Mod (fun k => k = rb) wz W' → SStep b w W' (k + 500)) := Lib.hid (fun W' hm => (T.mod0 hm (by intro i e; omega)).more (by omega))
      clear hmF P R T
      go_wp2_with fail
      refine bodyPost_ret (v := ReqD.val ⟨at_, m, ho, pa, qu, fr, A, n, c, bo⟩) (by simp [results, Tryz.results44, go_sem, hcP, hcR, hfR, plt, rlt, hpr, ReqD.val]) rfl ?_
      exact ⟨⟨at_, m, ho, pa, qu, fr, A, n, c, bo⟩, rfl, by (try dsimp only); omega, HFIN.out _ (HMF.out _ _ _ _ _ _ _ _)⟩
    · go_wp2_with fail
      refine (hostName_any b _ w4 T.inv (by omega)).mono ?_
      rintro e w5 ⟨m, rfl, hmz, hx⟩
      have P' := Lib.hid (P.out.mod hx.only (by omega))
      have R' := Lib.hid (R.out.mod hx.only (by omega))
      have T' := T.trans hx
      have z' := hx.only.size
      clear R T hx
      have R := R'
      have T := T'
      clear R' T'
      clear P
      have P := P'
      clear P'
      clear z'
      have hcp := P.out.cell
      have hfp := P.out.frozen
      have plt0 := P.out.lt
      have P' := Lib.hid (P.out.set 2 (.string m))
      have hmS : Mod (fun q => q = pb) w5 (World.setCell w5 ⟨pb, 2, none⟩ (.string m)) := Mod.setCell (S := fun q => q = pb) (p := ⟨pb, 2, none⟩) (Mod.refl _ _) (.inl rfl) _
      have R' := Lib.hid (R.out.mod hmS hpr)
      have T' := T.mod0 hmS (fun i e => by omega)
      clear P R T
      have P := P'
      have R := R'
      have T := T'
      clear P' R' T' hmS
      go_upto_region 19 with fail
      clear hcp hfp plt0
      generalize World.setCell w5 ⟨pb, 2, none⟩ (.string m) = wz at *
      have hcP := P.out.cell
      have hcR := R.out.cell
      have hfR := R.out.frozen
      have plt := P.out.lt
      have rlt := R.out.lt
      have hmF := fun (v0 v1 v2 v3 v4 v5 v6 v7 : Value) => (Mod.setCell (S := fun k => k = rb) (p := ⟨rb, 7, none⟩) (Mod.setCell (S := fun k => k = rb) (p := ⟨rb, 6, none⟩) (Mod.setCell (S := fun k => k = rb) (p := ⟨rb, 5, none⟩) (Mod.setCell (S := fun k => k = rb) (p := ⟨rb, 4, none⟩) (Mod.setCell (S := fun k => k = rb) (p := ⟨rb, 3, none⟩) (Mod.setCell (S := fun k => k = rb) (p := ⟨rb, 2, none⟩) (Mod.setCell (S := fun k => k = rb) (p := ⟨rb, 1, none⟩) (Mod.setCell (S := fun k => k = rb) (p := ⟨rb, 0, none⟩) (Mod.refl _ wz) (.inl rfl) v0) (.inl rfl) v1) (.inl rfl) v2) (.inl rfl) v3) (.inl rfl) v4) (.inl rfl) v5) (.inl rfl) v6) (.inl rfl) v7)
      have HMF := Lib.hid hmF
      have HFIN : Hid (∀ W', Mod (fun k => k = rb) wz W' → SStep b w W' (k + 500)) := Lib.hid (fun W' hm => (T.mod0 hm (by intro i e; omega)).more (by omega))
      clear hmF P R T
      go_wp2_with fail
      refine bodyPost_ret (v := ReqD.val ⟨at_, me, m, pa, qu, fr, A, n, c, bo⟩) (by simp [results, Tryz.results44, go_sem, hcP, hcR, hfR, plt, rlt, hpr, ReqD.val]) rfl ?_
      exact ⟨⟨at_, me, m, pa, qu, fr, A, n, c, bo⟩, rfl, by (try dsimp only); omega, HFIN.out _ (HMF.out _ _ _ _ _ _ _ _)⟩
    · go_wp2_with fail
      refine (pathName_any b _ w4 T.inv (by omega)).mono ?_
      rintro e w5 ⟨m, rfl, hmz, hx⟩
      have P' := Lib.hid (P.out.mod hx.only (by omega))
      have R' := Lib.hid (R.out.mod hx.only (by omega))
      have T' := T.trans hx
      have z' := hx.only.size
      clear R T hx
      have R := R'
      have T := T'
      clear R' T'
      clear P
      have P := P'
      clear P'
      clear z'
      have hcp := P.out.cell
      have hfp := P.out.frozen
      have plt0 := P.out.lt
      have P' := Lib.hid (P.out.set 3 (.string m))
      have hmS : Mod (fun q => q = pb) w5 (World.setCell w5 ⟨pb, 3, none⟩ (.string m)) := Mod.setCell (S := fun q => q = pb) (p := ⟨pb, 3, none⟩) (Mod.refl _ _) (.inl rfl) _
      have R' := Lib.hid (R.out.mod hmS hpr)
      have T' := T.mod0 hmS (fun i e => by omega)
      clear P R T
      have P := P'
      have R := R'
      have T := T'
      clear P' R' T' hmS
      go_upto_region 19 with fail
      clear hcp hfp plt0
      generalize World.setCell w5 ⟨pb, 3, none⟩ (.string m) = wz at *
      have hcP := P.out.cell
      have hcR := R.out.cell
      have hfR := R.out.frozen
      have plt := P.out.lt
      have rlt := R.out.lt
      have hmF := fun (v0 v1 v2 v3 v4 v5 v6 v7 : Value) => (Mod.setCell (S := fun k => k = rb) (p := ⟨rb, 7, none⟩) (Mod.setCell (S := fun k => k = rb) (p := ⟨rb, 6, none⟩) (Mod.setCell (S := fun k => k = rb) (p := ⟨rb, 5, none⟩) (Mod.setCell (S := fun k => k = rb) (p := ⟨rb, 4, none⟩) (Mod.setCell (S := fun k => k = rb) (p := ⟨rb, 3, none⟩) (Mod.setCell (S := fun k => k = rb) (p := ⟨rb, 2, none⟩) (Mod.setCell (S := fun k => k = rb) (p := ⟨rb, 1, none⟩) (Mod.setCell (S := fun k => k = rb) (p := ⟨rb, 0, none⟩) (Mod.refl _ wz) (.inl rfl) v0) (.inl rfl) v1) (.inl rfl) v2) (.inl rfl) v3) (.inl rfl) v4) (.inl rfl) v5) (.inl rfl) v6) (.inl rfl) v7)
      have HMF := Lib.hid hmF
      have HFIN : Hid (∀ W', Mod (fun k => k = rb) wz W' → SStep b w W' (k + 500)) := Lib.hid (fun W' hm => (T.mod0 hm (by intro i e; omega)).more (by omega))
      clear hmF P R T
      go_wp2_with fail
      refine bodyPost_ret (v := ReqD.val ⟨at_, me, ho, m, qu, fr, A, n, c, bo⟩) (by simp [results, Tryz.results44, go_sem, hcP, hcR, hfR, plt, rlt, hpr, ReqD.val]) rfl ?_
      exact ⟨⟨at_, me, ho, m, qu, fr, A, n, c, bo⟩, rfl, by (try dsimp only); omega, HFIN.out _ (HMF.out _ _ _ _ _ _ _ _)⟩
    · go_wp2_with fail
      refine (queryName_any b _ w4 T.inv (by omega)).mono ?_
      rintro e w5 ⟨m, rfl, hmz, hx⟩
      have P' := Lib.hid (P.out.mod hx.only (by omega))
      have R' := Lib.hid (R.out.mod hx.only (by omega))
      have T' := T.trans hx
      have z' := hx.only.size
      clear R T hx
      have R := R'
      have T := T'
      clear R' T'
      clear P
      have P := P'
      clear P'
      clear z'
      have hcp := P.out.cell
      have hfp := P.out.frozen
      have plt0 := P.out.lt
      have P' := Lib.hid (P.out.set 4 (.string m))
      have hmS : Mod (fun q => q = pb) w5 (World.setCell w5 ⟨pb, 4, none⟩ (.string m)) := Mod.setCell (S := fun q => q = pb) (p := ⟨pb, 4, none⟩) (Mod.refl _ _) (.inl rfl) _
      have R' := Lib.hid (R.out.mod hmS hpr)
      have T' := T.mod0 hmS (fun i e => by omega)
      clear P R T
      have P := P'
      have R := R'
      have T := T'
      clear P' R' T' hmS
      go_upto_region 19 with fail
      clear hcp hfp plt0
      generalize World.setCell w5 ⟨pb, 4, none⟩ (.string m) = wz at *
      have hcP := P.out.cell
      have hcR := R.out.cell
      have hfR := R.out.frozen
      have plt := P.out.lt
      have rlt := R.out.lt
      have hmF := fun (v0 v1 v2 v3 v4 v5 v6 v7 : Value) => (Mod.setCell (S := fun k => k = rb) (p := ⟨rb, 7, none⟩) (Mod.setCell (S := fun k => k = rb) (p := ⟨rb, 6, none⟩) (Mod.setCell (S := fun k => k = rb) (p := ⟨rb, 5, none⟩) (Mod.setCell (S := fun k => k = rb) (p := ⟨rb, 4, none⟩) (Mod.setCell (S := fun k => k = rb) (p := ⟨rb, 3, none⟩) (Mod.setCell (S := fun k => k = rb) (p := ⟨rb, 2, none⟩) (Mod.setCell (S := fun k => k = rb) (p := ⟨rb, 1, none⟩) (Mod.setCell (S := fun k => k = rb) (p := ⟨rb, 0, none⟩) (Mod.refl _ wz) (.inl rfl) v0) (.inl rfl) v1) (.inl rfl) v2) (.inl rfl) v3) (.inl rfl) v4) (.inl rfl) v5) (.inl rfl) v6) (.inl rfl) v7)
      have HMF := Lib.hid hmF
      have HFIN : Hid (∀ W', Mod (fun k => k = rb) wz W' → SStep b w W' (k + 500)) := Lib.hid (fun W' hm => (T.mod0 hm (by intro i e; omega)).more (by omega))
      clear hmF P R T
      go_wp2_with fail
      refine bodyPost_ret (v := ReqD.val ⟨at_, me, ho, pa, m, fr, A, n, c, bo⟩) (by simp [results, Tryz.results44, go_sem, hcP, hcR, hfR, plt, rlt, hpr, ReqD.val]) rfl ?_
      exact ⟨⟨at_, me, ho, pa, m, fr, A, n, c, bo⟩, rfl, by (try dsimp only); omega, HFIN.out _ (HMF.out _ _ _ _ _ _ _ _)⟩
    · go_wp2_with fail
      refine (fieldText_any b _ w4 T.inv (by omega)).mono ?_
      rintro e w5 ⟨m, rfl, hmz, hx⟩
      have P' := Lib.hid (P.out.mod hx.only (by omega))
      have R' := Lib.hid (R.out.mod hx.only (by omega))
      have T' := T.trans hx
      have z' := hx.only.size
      clear R T hx
      have R := R'
      have T := T'
      clear R' T'
      clear P
      have P := P'
      clear P'
      clear z'
      have hcp := P.out.cell
      have hfp := P.out.frozen
      have plt0 := P.out.lt
      have P' := Lib.hid (P.out.set 5 (.string m))
      have hmS : Mod (fun q => q = pb) w5 (World.setCell w5 ⟨pb, 5, none⟩ (.string m)) := Mod.setCell (S := fun q => q = pb) (p := ⟨pb, 5, none⟩) (Mod.refl _ _) (.inl rfl) _
      have R' := Lib.hid (R.out.mod hmS hpr)
      have T' := T.mod0 hmS (fun i e => by omega)
      clear P R T
      have P := P'
      have R := R'
      have T := T'
      clear P' R' T' hmS
      go_upto_region 19 with fail
      clear hcp hfp plt0
      generalize World.setCell w5 ⟨pb, 5, none⟩ (.string m) = wz at *
      have hcP := P.out.cell
      have hcR := R.out.cell
      have hfR := R.out.frozen
      have plt := P.out.lt
      have rlt := R.out.lt
      have hmF := fun (v0 v1 v2 v3 v4 v5 v6 v7 : Value) => (Mod.setCell (S := fun k => k = rb) (p := ⟨rb, 7, none⟩) (Mod.setCell (S := fun k => k = rb) (p := ⟨rb, 6, none⟩) (Mod.setCell (S := fun k => k = rb) (p := ⟨rb, 5, none⟩) (Mod.setCell (S := fun k => k = rb) (p := ⟨rb, 4, none⟩) (Mod.setCell (S := fun k => k = rb) (p := ⟨rb, 3, none⟩) (Mod.setCell (S := fun k => k = rb) (p := ⟨rb, 2, none⟩) (Mod.setCell (S := fun k => k = rb) (p := ⟨rb, 1, none⟩) (Mod.setCell (S := fun k => k = rb) (p := ⟨rb, 0, none⟩) (Mod.refl _ wz) (.inl rfl) v0) (.inl rfl) v1) (.inl rfl) v2) (.inl rfl) v3) (.inl rfl) v4) (.inl rfl) v5) (.inl rfl) v6) (.inl rfl) v7)
      have HMF := Lib.hid hmF
      have HFIN : Hid (∀ W', Mod (fun k => k = rb) wz W' → SStep b w W' (k + 500)) := Lib.hid (fun W' hm => (T.mod0 hm (by intro i e; omega)).more (by omega))
      clear hmF P R T
      go_wp2_with fail
      refine bodyPost_ret (v := ReqD.val ⟨at_, me, ho, pa, qu, m, A, n, c, bo⟩) (by simp [results, Tryz.results44, go_sem, hcP, hcR, hfR, plt, rlt, hpr, ReqD.val]) rfl ?_
      exact ⟨⟨at_, me, ho, pa, qu, m, A, n, c, bo⟩, rfl, by (try dsimp only); omega, HFIN.out _ (HMF.out _ _ _ _ _ _ _ _)⟩
    · go_wp2_with fail
      refine (headers_any b _ 4 w4 T.inv (by omega) (by omega)).mono ?_
      rintro e w5 ⟨A2, n2, c2, ls2, rfl, own, hn2, hsm, hx⟩
      clear own hn2 hsm
      have P' := Lib.hid (P.out.mod hx.only (by omega))
      have R' := Lib.hid (R.out.mod hx.only (by omega))
      have T' := T.trans hx
      have z' := hx.only.size
      clear R T hx
      have R := R'
      have T := T'
      clear R' T'
      clear P
      have P := P'
      clear P'
      clear z'
      have hcp := P.out.cell
      have hfp := P.out.frozen
      have plt0 := P.out.lt
      have P' := Lib.hid (P.out.set 6 (.slice A2 n2 c2))
      have hmS : Mod (fun q => q = pb) w5 (World.setCell w5 ⟨pb, 6, none⟩ (.slice A2 n2 c2)) := Mod.setCell (S := fun q => q = pb) (p := ⟨pb, 6, none⟩) (Mod.refl _ _) (.inl rfl) _
      have R' := Lib.hid (R.out.mod hmS hpr)
      have T' := T.mod0 hmS (fun i e => by omega)
      clear P R T
      have P := P'
      have R := R'
      have T := T'
      clear P' R' T' hmS
      go_upto_region 19 with fail
      clear hcp hfp plt0
      generalize World.setCell w5 ⟨pb, 6, none⟩ (.slice A2 n2 c2) = wz at *
      have hcP := P.out.cell
      have hcR := R.out.cell
      have hfR := R.out.frozen
      have plt := P.out.lt
      have rlt := R.out.lt
      have hmF := fun (v0 v1 v2 v3 v4 v5 v6 v7 : Value) => (Mod.setCell (S := fun k => k = rb) (p := ⟨rb, 7, none⟩) (Mod.setCell (S := fun k => k = rb) (p := ⟨rb, 6, none⟩) (Mod.setCell (S := fun k => k = rb) (p := ⟨rb, 5, none⟩) (Mod.setCell (S := fun k => k = rb) (p := ⟨rb, 4, none⟩) (Mod.setCell (S := fun k => k = rb) (p := ⟨rb, 3, none⟩) (Mod.setCell (S := fun k => k = rb) (p := ⟨rb, 2, none⟩) (Mod.setCell (S := fun k => k = rb) (p := ⟨rb, 1, none⟩) (Mod.setCell (S := fun k => k = rb) (p := ⟨rb, 0, none⟩) (Mod.refl _ wz) (.inl rfl) v0) (.inl rfl) v1) (.inl rfl) v2) (.inl rfl) v3) (.inl rfl) v4) (.inl rfl) v5) (.inl rfl) v6) (.inl rfl) v7)
      have HMF := Lib.hid hmF
      have HFIN : Hid (∀ W', Mod (fun k => k = rb) wz W' → SStep b w W' (k + 500)) := Lib.hid (fun W' hm => (T.mod0 hm (by intro i e; omega)).more (by omega))
      clear hmF P R T
      go_wp2_with fail
      refine bodyPost_ret (v := ReqD.val ⟨at_, me, ho, pa, qu, fr, A2, n2, c2, bo⟩) (by simp [results, Tryz.results44, go_sem, hcP, hcR, hfR, plt, rlt, hpr, ReqD.val]) rfl ?_
      exact ⟨⟨at_, me, ho, pa, qu, fr, A2, n2, c2, bo⟩, rfl, by (try dsimp only); omega, HFIN.out _ (HMF.out _ _ _ _ _ _ _ _)⟩
    · go_wp2_with fail
      refine (pick_any [20000, 20001] b _ w4.heap.size 2 _ (T.alloc _).inv (by omega) (Blk.new _ _ _) rfl (by omega) (by omega)).mono ?_
      rintro e w5 ⟨m, rfl, hmm, hx⟩
      have hm01 : 0 ≤ m ∧ m ≤ 20001 := by simp at hmm; omega
      have P' := Lib.hid (P.out.mod hx.only.pre.1 (by omega))
      have R' := Lib.hid (R.out.mod hx.only.pre.1 (by omega))
      have T' := (T.alloc _).trans hx
      have z' := hx.only.pre.2.1
      clear R T hx
      have R := R'
      have T := T'
      clear R' T'
      clear P
      have P := P'
      clear P'
      clear z' hmm
      obtain ⟨j, rfl⟩ := Int.eq_ofNat_of_zero_le hm01.1
      have hrp := Tryz.strings_Repeat ⟨#[98]⟩ j w5 (by omega) (by have e : (⟨#[98]⟩ : ByteArray).size = 1 := rfl; rw [e]; omega)
      go_wp2_with fail
      refine hrp.mono ?_
      clear hrp
      rintro e w6 ⟨rfl, hm6⟩
      have hm56 : New w5 w6 := Mod.of_below hm6
      generalize (⟨(Lib.repeatL (⟨#[98]⟩ : ByteArray).data.toList j).toArray⟩ : ByteArray) = V at *
      have P' := Lib.hid (P.out.new2 hm56)
      have R' := Lib.hid (R.out.mod hm56 (fun e => e))
      have T' := T.new hm56
      clear P R T hm6 hm56
      have P := P'
      have R := R'
      have T := T'
      clear P' R' T'
      have hcp := P.out.cell
      have hfp := P.out.frozen
      have plt0 := P.out.lt
      have P' := Lib.hid (P.out.set 7 (.string V))
      have hmS : Mod (fun q => q = pb) w6 (World.setCell w6 ⟨pb, 7, none⟩ (.string V)) := Mod.setCell (S := fun q => q = pb) (p := ⟨pb, 7, none⟩) (Mod.refl _ _) (.inl rfl) _
      have R' := Lib.hid (R.out.mod hmS hpr)
      have T' := T.mod0 hmS (fun i e => by omega)
      clear P R T
      have P := P'
      have R := R'
      have T := T'
      clear P' R' T' hmS
      go_upto_region 19 with fail
      clear hcp hfp plt0
      generalize World.setCell w6 ⟨pb, 7, none⟩ (.string V) = wz at *
      have hcP := P.out.cell
      have hcR := R.out.cell
      have hfR := R.out.frozen
      have plt := P.out.lt
      have rlt := R.out.lt
      have hmF := fun (v0 v1 v2 v3 v4 v5 v6 v7 : Value) => (Mod.setCell (S := fun k => k = rb) (p := ⟨rb, 7, none⟩) (Mod.setCell (S := fun k => k = rb) (p := ⟨rb, 6, none⟩) (Mod.setCell (S := fun k => k = rb) (p := ⟨rb, 5, none⟩) (Mod.setCell (S := fun k => k = rb) (p := ⟨rb, 4, none⟩) (Mod.setCell (S := fun k => k = rb) (p := ⟨rb, 3, none⟩) (Mod.setCell (S := fun k => k = rb) (p := ⟨rb, 2, none⟩) (Mod.setCell (S := fun k => k = rb) (p := ⟨rb, 1, none⟩) (Mod.setCell (S := fun k => k = rb) (p := ⟨rb, 0, none⟩) (Mod.refl _ wz) (.inl rfl) v0) (.inl rfl) v1) (.inl rfl) v2) (.inl rfl) v3) (.inl rfl) v4) (.inl rfl) v5) (.inl rfl) v6) (.inl rfl) v7)
      have HMF := Lib.hid hmF
      have HFIN : Hid (∀ W', Mod (fun k => k = rb) wz W' → SStep b w W' (k + 500)) := Lib.hid (fun W' hm => (T.mod0 hm (by intro i e; omega)).more (by omega))
      clear hmF P R T
      go_wp2_with fail
      refine bodyPost_ret (v := ReqD.val ⟨at_, me, ho, pa, qu, fr, A, n, c, V⟩) (by simp [results, Tryz.results44, go_sem, hcP, hcR, hfR, plt, rlt, hpr, ReqD.val]) rfl ?_
      exact ⟨⟨at_, me, ho, pa, qu, fr, A, n, c, V⟩, rfl, by (try dsimp only); omega, HFIN.out _ (HMF.out _ _ _ _ _ _ _ _)⟩

end Go.Proofs.YtjehlecgnepgmaaGreatDoor

namespace Go.Proofs.YtjehlecgnepgmaaGreatDoor
open Go.RowKit
set_option linter.unusedVariables false
set_option linter.unusedSimpArgs false

set_option maxRecDepth 100000 in
set_option maxHeartbeats 1000000 in
theorem routeRequest_any (b k : Nat) (w : World) (hs : SInv b w k) (hk : k < 4611686018423000000) :
    Calls Tryz.prog 16 #[.pointer (some ⟨b, 0, none⟩)] w (RReqP b w (k + 600)) := by
  have hbl := hs.lt
  have T := (SStep.refl hs).alloc (.cells zReq 44)
  have hR := Blk.new w 44 zReq
  have hz0 : (w.alloc (.cells zReq 44)).heap.size = w.heap.size + 1 := by simp
  go_enter Tryz.func16, Tryz.ntmps16
  go_wp2_with fail
  have R := Lib.hid hR
  clear hR hs
  generalize w.alloc (.cells zReq 44) = w0 at *
  generalize hrb : w.heap.size = rb at *
  refine (some_any [⟨#[71, 69, 84]⟩, ⟨#[71, 69, 84]⟩, ⟨#[80, 79, 83, 84]⟩, ⟨#[80, 85, 84]⟩, ⟨#[103, 101, 116]⟩, ⟨#[68, 69, 76, 69, 84, 69]⟩] b _ (rb + 1) 6 _ (T.alloc _).inv (by omega) (Blk.new' _ _ hz0) rfl (by omega) (by omega)).mono ?_
  rintro e w1 ⟨me, rfl, ht, hx⟩
  have hz1 : rb < w0.heap.size := by omega
  clear hz0 ht
  have R' := Lib.hid (R.out.mod hx.only.pre.1 (by omega))
  have T' := (T.alloc _).trans hx
  have z' := hx.only.pre.2.1
  clear R T hx
  have R := R'
  have T := T'
  clear R' T'
  go_wp2_with fail
  refine (some_any [⟨#[97, 46, 98]⟩, ⟨#[120, 46, 97, 46, 98]⟩, ⟨#[121, 46, 97, 46, 98]⟩, ⟨#[65, 46, 66]⟩, ⟨#[99, 46, 100, 58, 56, 48, 56, 48]⟩, ⟨#[113, 46, 98]⟩, ⟨#[98]⟩] b _ w1.heap.size 7 _ (T.alloc _).inv (by omega) (Blk.new _ _ _) rfl (by omega) (by omega)).mono ?_
  rintro e w2 ⟨ho, rfl, ht, hx⟩
  clear ht
  have R' := Lib.hid (R.out.mod hx.only.pre.1 (by omega))
  have T' := (T.alloc _).trans hx
  have z' := hx.only.pre.2.1
  clear R T hx
  have R := R'
  have T := T'
  clear R' T'
  go_wp2_with fail
  refine (some_any [⟨#[47, 97]⟩, ⟨#[47, 97]⟩, ⟨#[47, 97, 47, 98]⟩, ⟨#[47, 97, 47, 99]⟩, ⟨#[47, 99]⟩, ⟨#[47, 97, 47, 99, 47, 98]⟩, ⟨#[47]⟩, ⟨#[47, 97, 47]⟩, ⟨#[47, 37, 54, 49, 47, 46, 47, 98]⟩, ⟨#[47, 97, 47, 98, 47, 99, 47, 100]⟩, ⟨#[47, 97, 47, 37, 50, 70]⟩, ⟨#[47, 97, 47, 47, 98]⟩] b _ w2.heap.size 12 _ (T.alloc _).inv (by omega) (Blk.new _ _ _) rfl (by omega) (by omega)).mono ?_
  rintro e w3 ⟨pa, rfl, ht, hx⟩
  have hpa : pa.size ≤ 1040 := by
    simp only [List.mem_cons, List.not_mem_nil, or_false] at ht
    rcases ht with rfl | rfl | rfl | rfl | rfl | rfl | rfl | rfl | rfl | rfl | rfl | rfl <;> decide
  clear ht
  have R' := Lib.hid (R.out.mod hx.only.pre.1 (by omega))
  have T' := (T.alloc _).trans hx
  have z' := hx.only.pre.2.1
  clear R T hx
  have R := R'
  have T := T'
  clear R' T'
  clear z'
  have hzw : rb < w3.heap.size := R.out.lt
  have hP := Blk.new w3 44 #[.int .i64 0, .string me, .string ho, .string pa, .string ⟨#[]⟩, .string ⟨#[]⟩, .slice none 0 0, .string ⟨#[]⟩]
  have hmP : New w3 (w3.alloc (.cells #[.int .i64 0, .string me, .string ho, .string pa, .string ⟨#[]⟩, .string ⟨#[]⟩, .slice none 0 0, .string ⟨#[]⟩] 44)) := (Mod.refl _ _).alloc _
  have P := Lib.hid hP
  have R' := Lib.hid (R.out.mod hmP (fun e => e))
  have T' := T.new hmP
  clear R T hP hmP
  have R := R'
  have T := T'
  clear R' T'
  go_upto_region 2 with fail
  have hz4 : (w3.alloc (.cells #[.int .i64 0, .string me, .string ho, .string pa, .string ⟨#[]⟩, .string ⟨#[]⟩, .slice none 0 0, .string ⟨#[]⟩] 44)).heap.size = w3.heap.size + 1 := by simp
  generalize w3.alloc (.cells #[.int .i64 0, .string me, .string ho, .string pa, .string ⟨#[]⟩, .string ⟨#[]⟩, .slice none 0 0, .string ⟨#[]⟩] 44) = w4 at *
  have hpr : rb ≠ w3.heap.size := by omega
  have hpb : b ≠ w3.heap.size := by omega
  have hpg : rb < w3.heap.size := by omega
  generalize w3.heap.size = pb at *
  have HZ4 : Hid (pb + 1 ≤ w4.heap.size) := Lib.hid (by omega)
  clear hz4
  go_wp2_with fail
  refine (next_any b _ 3 w4 T.inv (by omega) (by omega) (by omega)).mono ?_
  rintro e w5 ⟨m, rfl, hm0, hm3, hx⟩
  have P' := Lib.hid (P.out.mod hx.only (by omega))
  have R' := Lib.hid (R.out.mod hx.only (by omega))
  have T' := T.trans hx
  have z' := hx.only.size
  clear R T hx
  have R := R'
  have T := T'
  clear R' T'
  clear P
  have P := P'
  clear P'
  have HZ5 : Hid (pb + 1 ≤ w5.heap.size) := Lib.hid (by have := HZ4.out; omega)
  clear z'
  have HP := P
  have HR := R
  have HT := Lib.hid T
  clear P R T
  go_wp2_with fail
  go_loopw [16] (fun i wr => ∃ (j : Nat) (A : Option Addr) (n c : Nat) (ls : List PairD), (j : Int) ≤ m ∧ i = .int .i64 j ∧ j = n ∧ Hid (Blk wr rb 44 zReq) ∧ Hid (Blk wr pb 44 #[.int .i64 0, .string me, .string ho, .string pa, .string ⟨#[]⟩, .string ⟨#[]⟩, .slice A n c, .string ⟨#[]⟩]) ∧ Hid (HOwn wr (pb + 1) A n c ls) ∧ Hid (SStep b w wr (k + 10 + 2 * j)) ∧ pb + 1 ≤ wr.heap.size) (fun i _ => (m - intOf i).toNat)
  case atStart => exact ⟨0, none, 0, 0, [], by omega, rfl, rfl, HR, HP, Lib.hid Own.nil, Lib.hid (HT.out.more (by omega)), HZ5.out⟩
  case round =>
    clear HR HP HT
    rename World => wr
    obtain ⟨j, A, n, c, ls, hj, rfl, rfl, R, P, HO, HT, hzr⟩ := hrel
    have T := HT.out
    by_cases hlt : (j : Int) < m
    · clear HT
      have HSN : Hid (∀ W, Blk W pb 44 #[.int .i64 0, .string me, .string ho, .string pa, .string ⟨#[]⟩, .string ⟨#[]⟩, .slice A j c, .string ⟨#[]⟩] → W.cell? ⟨pb, 6, none⟩ = some (.slice A j c) ∧ pb < W.heap.size) := Lib.hid (fun W h => ⟨(h.cell 6).trans rfl, h.lt⟩)
      have hd0 : New wr wr.drew := (Mod.refl (fun _ => False) wr).drew
      have T' := T.new hd0
      have HO' := Lib.hid (HO.out.new hd0)
      have P' := P.out.new2 hd0
      clear T HO P
      have T := T'
      have HO := HO'
      clear T' HO'
      go_upto_region 4 with fail
      refine wp_region_held_tree (fun W => Blk W pb 44 #[.int .i64 0, .string me, .string ho, .string pa, .string ⟨#[]⟩, .string ⟨#[]⟩, .slice A j c, .string ⟨#[]⟩]) 11 rfl (by kernel_rfl) ?_
      have P := Lib.hid P'
      have R' := Lib.hid (R.out.new2 hd0)
      clear P' hd0 R
      have R := R'
      clear R'
      generalize wr.drew = w5 at *
      refine headW_take 0 _ ?_ (fun _ _ d _ _ h => by cases d <;> exact h) (by kernel_rfl) rfl (by kernel_rfl) P.out (by rfl) (fun W hSw => ?_) ?_
      rotate_left
      · (have hq := HSN.out W hSw); (try simp only [List.getElem_toArray, List.getElem_cons_zero, List.getElem_cons_succ]); go_simp; any_goals (with_reducible rfl)
      simp only [Act.put, List.getElem_toArray, List.getElem_cons_zero, List.getElem_cons_succ, List.setIfInBounds_toArray, List.set_cons_zero, List.set_cons_succ]
      refine headW_take 1 _ ?_ (fun _ _ d _ _ h => by cases d <;> exact h) (by kernel_rfl) rfl (by kernel_rfl) P.out (by rfl) (fun W hSw => ?_) ?_
      rotate_left
      · (have hq := HSN.out W hSw); (try simp only [List.getElem_toArray, List.getElem_cons_zero, List.getElem_cons_succ]); go_simp; any_goals (with_reducible rfl)
      simp only [Act.put, List.getElem_toArray, List.getElem_cons_zero, List.getElem_cons_succ, List.setIfInBounds_toArray, List.set_cons_zero, List.set_cons_succ]
      refine headW_take 2 _ ?_ (fun _ _ d _ _ h => by cases d <;> exact h) (by kernel_rfl) rfl (by kernel_rfl) P.out (by rfl) (fun W hSw => ?_) ?_
      rotate_left
      · (have hq := HSN.out W hSw); (try simp only [List.getElem_toArray, List.getElem_cons_zero, List.getElem_cons_succ]); go_simp; any_goals (with_reducible rfl)
      simp only [Act.put, List.getElem_toArray, List.getElem_cons_zero, List.getElem_cons_succ, List.setIfInBounds_toArray, List.set_cons_zero, List.set_cons_succ]
      refine headW_take 5 _ ?_ (fun _ _ d _ _ h => by cases d <;> exact h) (by kernel_rfl) rfl (by kernel_rfl) P.out (by rfl) (fun W hSw => ?_) ?_
      rotate_left
      · (have hq := HSN.out W hSw); (try simp only [List.getElem_toArray, List.getElem_cons_zero, List.getElem_cons_succ]); go_simp; any_goals (with_reducible rfl)
      simp only [Act.put, List.getElem_toArray, List.getElem_cons_zero, List.getElem_cons_succ, List.setIfInBounds_toArray, List.set_cons_zero, List.set_cons_succ]
      refine headW_ready [3, 6] (by kernel_rfl) (by rfl) ?_
      refine eachW_step rfl rfl (fun K hK => ?_) (eachW_step rfl rfl (fun K hK => ?_) eachW_nil)
      · (try simp only [List.getElem_toArray, List.getElem_cons_zero, List.getElem_cons_succ])
        go_simp
        have hn1 : New w5 (w5.alloc (.cells #[.string ⟨#[120, 45, 111, 110, 101]⟩, .string ⟨#[88, 45, 79, 110, 101]⟩, .string ⟨#[120, 45, 116, 119, 111]⟩] 9)) := (Mod.refl _ _).alloc _
        have B6 := Lib.hid (Blk.new w5 9 #[.string ⟨#[120, 45, 111, 110, 101]⟩, .string ⟨#[88, 45, 79, 110, 101]⟩, .string ⟨#[120, 45, 116, 119, 111]⟩])
        have hbg6 : b < w5.heap.size := T.inv.lt
        have T' := T.new hn1
        have HO' := Lib.hid (HO.out.new hn1)
        have R' := Lib.hid (R.out.new2 hn1)
        have P' := Lib.hid (P.out.new2 hn1)
        clear T HO R P
        have T := T'
        have HO := HO'
        have R := R'
        have P := P'
        clear T' HO' R' P'
        refine hK.out _ _ P.out (fun _ => ?_)
        clear hK K hn1
        (try simp only [Act.put, List.getElem_toArray, List.getElem_cons_zero, List.getElem_cons_succ, List.setIfInBounds_toArray, List.set_cons_zero, List.set_cons_succ])
        generalize w5.alloc (.cells #[.string ⟨#[120, 45, 111, 110, 101]⟩, .string ⟨#[88, 45, 79, 110, 101]⟩, .string ⟨#[120, 45, 116, 119, 111]⟩] 9) = w6 at *
        generalize w5.heap.size = g6 at *
        refine headW_ready [4, 6] (by kernel_rfl) (by rfl) ?_
        refine eachW_step rfl rfl (fun K hK => ?_) (eachW_step rfl rfl (fun K hK => ?_) eachW_nil)
        · (try simp only [List.getElem_toArray, List.getElem_cons_zero, List.getElem_cons_succ])
          go_simp
          refine (some_any [⟨#[120, 45, 111, 110, 101]⟩, ⟨#[88, 45, 79, 110, 101]⟩, ⟨#[120, 45, 116, 119, 111]⟩] b _ g6 3 w6 T.inv (by omega) B6.out rfl (by omega) (by omega)).mono ?_
          rintro e w7 ⟨s1, rfl, -, hx⟩
          have T' := T.trans hx
          have HO' := Lib.hid (HO.out.mod hx.only (fun g e e2 => by have := HO.out.farP g e; omega))
          have R' := Lib.hid (R.out.mod hx.only (by omega))
          have P' := Lib.hid (P.out.mod hx.only (by omega))
          clear T HO R P
          have T := T'
          have HO := HO'
          have R := R'
          have P := P'
          clear T' HO' R' P'
          go_wp2_with fail
          refine hK.out _ _ P.out (fun _ => ?_)
          clear hK K hx
          (try simp only [Act.put, List.getElem_toArray, List.getElem_cons_zero, List.getElem_cons_succ, List.setIfInBounds_toArray, List.set_cons_zero, List.set_cons_succ])
          refine headW_ready [6] (by kernel_rfl) (by rfl) ?_
          refine eachW_step rfl rfl (fun K hK => ?_) eachW_nil
          (try simp only [List.getElem_toArray, List.getElem_cons_zero, List.getElem_cons_succ])
          go_simp
          have hn1 : New w7 (w7.alloc (.cells #[.string ⟨#[49]⟩, .string ⟨#[50]⟩, .string ⟨#[]⟩] 9)) := (Mod.refl _ _).alloc _
          have Ba := Lib.hid (Blk.new w7 9 #[.string ⟨#[49]⟩, .string ⟨#[50]⟩, .string ⟨#[]⟩])
          have hbga : b < w7.heap.size := T.inv.lt
          have T' := T.new hn1
          have HO' := Lib.hid (HO.out.new hn1)
          have R' := Lib.hid (R.out.new2 hn1)
          have P' := Lib.hid (P.out.new2 hn1)
          clear T HO R P
          have T := T'
          have HO := HO'
          have R := R'
          have P := P'
          clear T' HO' R' P'
          refine hK.out _ _ P.out (fun _ => ?_)
          clear hK K hn1
          (try simp only [Act.put, List.getElem_toArray, List.getElem_cons_zero, List.getElem_cons_succ, List.setIfInBounds_toArray, List.set_cons_zero, List.set_cons_succ])
          generalize w7.alloc (.cells #[.string ⟨#[49]⟩, .string ⟨#[50]⟩, .string ⟨#[]⟩] 9) = wa at *
          generalize w7.heap.size = ga at *
          refine headW_ready [7] (by kernel_rfl) (by rfl) ?_
          refine eachW_step rfl rfl (fun K hK => ?_) eachW_nil
          (try simp only [List.getElem_toArray, List.getElem_cons_zero, List.getElem_cons_succ])
          go_simp
          refine (some_any [⟨#[49]⟩, ⟨#[50]⟩, ⟨#[]⟩] b _ ga 3 wa T.inv (by omega) Ba.out rfl (by omega) (by omega)).mono ?_
          rintro e wb ⟨s2, rfl, -, hx⟩
          have T' := T.trans hx
          have HO' := Lib.hid (HO.out.mod hx.only (fun g e e2 => by have := HO.out.farP g e; omega))
          have R' := Lib.hid (R.out.mod hx.only (by omega))
          have P' := Lib.hid (P.out.mod hx.only (by omega))
          clear T HO R P
          have T := T'
          have HO := HO'
          have R := R'
          have P := P'
          clear T' HO' R' P'
          go_wp2_with fail
          refine hK.out _ _ P.out (fun _ => ?_)
          clear hK K hx
          (try simp only [Act.put, List.getElem_toArray, List.getElem_cons_zero, List.getElem_cons_succ, List.setIfInBounds_toArray, List.set_cons_zero, List.set_cons_succ])
          refine headW_take 8 _ ?_ (fun _ _ d _ _ h => by cases d <;> exact h) (by kernel_rfl) rfl (by kernel_rfl) P.out (by rfl) (fun W hSw => ?_) ?_
          rotate_left
          · (have hq := HSN.out W hSw); (try simp only [List.getElem_toArray, List.getElem_cons_zero, List.getElem_cons_succ]); go_simp; any_goals (with_reducible rfl)
          simp only [Act.put, List.getElem_toArray, List.getElem_cons_zero, List.getElem_cons_succ, List.setIfInBounds_toArray, List.set_cons_zero, List.set_cons_succ]
          refine headW_ready [9] (by kernel_rfl) (by rfl) ?_
          refine eachW_step rfl rfl (fun K hK => ?_) eachW_nil
          (try simp only [List.getElem_toArray, List.getElem_cons_zero, List.getElem_cons_succ])
          go_simp
          have hn1 : New wb (wb.alloc (.cells #[.string s1, .string s2] 82)) := (Mod.refl _ _).alloc _
          have HBH := Lib.hid (Blk.new wb 82 #[.string s1, .string s2])
          have T' := T.new hn1
          have HO' := Lib.hid (HO.out.new hn1)
          have R' := Lib.hid (R.out.new2 hn1)
          have P' := Lib.hid (P.out.new2 hn1)
          clear T HO R P
          have T := T'
          have HO := HO'
          have R := R'
          have P := P'
          clear T' HO' R' P'
          refine hK.out _ _ P.out (fun _ => ?_)
          clear hK K hn1
          (try simp only [Act.put, List.getElem_toArray, List.getElem_cons_zero, List.getElem_cons_succ, List.setIfInBounds_toArray, List.set_cons_zero, List.set_cons_succ])
          generalize wb.alloc (.cells #[.string s1, .string s2] 82) = wh at *
          generalize wb.heap.size = gh at *
          refine headW_ready [10] (by kernel_rfl) (by rfl) ?_
          refine eachW_step rfl rfl (fun K hK => ?_) eachW_nil
          have hoq := HO.out
          have hblh := HBH.out
          have hszh : pb + 1 ≤ wh.heap.size := P.out.lt
          have HFAR : Hid (∀ g, blkOf A = some g → pb + 1 ≤ g) := Lib.hid (fun g e => HO.out.farP g e)
          refine wp_push (.tmp 19) (.tmp 27) _ rfl 32 Tryz.underlying42 einfo_hdr rfl (by exact hoq) (s1, s2) gh rfl (by exact hblh) (fun j hj => pairEnc_one _ j hj) (by omega) (by omega) (by omega) ?_
          intro g8 cap8 w8 own8 hm8 hat8 hlt8
          have P8 := Lib.hid (P.out.mod hm8 (fun e => by have := HFAR.out _ e; omega))
          have R8 := Lib.hid (R.out.mod hm8 (fun e => by have := HFAR.out _ e; omega))
          have T8 := T.mod0 hm8 (fun i e => by have := HFAR.out i e; omega)
          refine hK.out _ _ P8.out (fun _ => ?_)
          clear hK K hoq hblh hszh hat8 hlt8 hm8
          (try simp only [Act.put, List.getElem_toArray, List.getElem_cons_zero, List.getElem_cons_succ, List.setIfInBounds_toArray, List.set_cons_zero, List.set_cons_succ])
          refine headW_done (by kernel_rfl) ?_
          have HO8 := Lib.hid own8
          clear own8 HO T P R HBH
          have hcp := P8.out.cell
          have hfp := P8.out.frozen
          have plt := P8.out.lt
          have P9 := Lib.hid (P8.out.set 6 (.slice (some ⟨g8, 0, none⟩) (j + 1) cap8))
          have hmS : Mod (fun q => q = pb) w8 (World.setCell w8 ⟨pb, 6, none⟩ (.slice (some ⟨g8, 0, none⟩) (j + 1) cap8)) := Mod.setCell (S := fun q => q = pb) (p := ⟨pb, 6, none⟩) (Mod.refl _ _) (.inl rfl) _
          have R9 := Lib.hid (R8.out.mod hmS hpr)
          have T9 := Lib.hid (T8.mod0 hmS (fun i e => by omega))
          have HO9 := Lib.hid (HO8.out.mod hmS (fun g e e2 => by have := HO8.out.farP g e; omega))
          clear hmS T8 R8 P8 HO8
          go_wp2_with fail
          clear hcp hfp
          go_roundw
          case rel => exact ⟨j + 1, some ⟨g8, 0, none⟩, j + 1, cap8, _, by omega, by go_num, rfl, R9, P9, HO9, Lib.hid (T9.out.more (by omega)), P9.out.lt⟩
          case measure => simp [intOf]; omega
        · (try simp only [List.getElem_toArray, List.getElem_cons_zero, List.getElem_cons_succ])
          go_simp
          have hn1 : New w6 (w6.alloc (.cells #[.string ⟨#[49]⟩, .string ⟨#[50]⟩, .string ⟨#[]⟩] 9)) := (Mod.refl _ _).alloc _
          have B7 := Lib.hid (Blk.new w6 9 #[.string ⟨#[49]⟩, .string ⟨#[50]⟩, .string ⟨#[]⟩])
          have hbg7 : b < w6.heap.size := T.inv.lt
          have T' := T.new hn1
          have HO' := Lib.hid (HO.out.new hn1)
          have R' := Lib.hid (R.out.new2 hn1)
          have P' := Lib.hid (P.out.new2 hn1)
          clear T HO R P
          have T := T'
          have HO := HO'
          have R := R'
          have P := P'
          clear T' HO' R' P'
          have B6' := Lib.hid (B6.out.new2 hn1)
          refine hK.out _ _ P.out (fun _ => ?_)
          clear hK K hn1
          (try simp only [Act.put, List.getElem_toArray, List.getElem_cons_zero, List.getElem_cons_succ, List.setIfInBounds_toArray, List.set_cons_zero, List.set_cons_succ])
          generalize w6.alloc (.cells #[.string ⟨#[49]⟩, .string ⟨#[50]⟩, .string ⟨#[]⟩] 9) = w7 at *
          generalize w6.heap.size = g7 at *
          refine headW_ready [4] (by kernel_rfl) (by rfl) ?_
          refine eachW_step rfl rfl (fun K hK => ?_) eachW_nil
          (try simp only [List.getElem_toArray, List.getElem_cons_zero, List.getElem_cons_succ])
          go_simp
          refine (some_any [⟨#[120, 45, 111, 110, 101]⟩, ⟨#[88, 45, 79, 110, 101]⟩, ⟨#[120, 45, 116, 119, 111]⟩] b _ g6 3 w7 T.inv (by omega) B6'.out rfl (by omega) (by omega)).mono ?_
          rintro e wa ⟨s1, rfl, -, hx⟩
          have T' := T.trans hx
          have HO' := Lib.hid (HO.out.mod hx.only (fun g e e2 => by have := HO.out.farP g e; omega))
          have R' := Lib.hid (R.out.mod hx.only (by omega))
          have P' := Lib.hid (P.out.mod hx.only (by omega))
          clear T HO R P
          have T := T'
          have HO := HO'
          have R := R'
          have P := P'
          clear T' HO' R' P'
          have B7' := Lib.hid (B7.out.mod hx.only (by omega))
          go_wp2_with fail
          refine hK.out _ _ P.out (fun _ => ?_)
          clear hK K hx
          (try simp only [Act.put, List.getElem_toArray, List.getElem_cons_zero, List.getElem_cons_succ, List.setIfInBounds_toArray, List.set_cons_zero, List.set_cons_succ])
          refine headW_ready [7] (by kernel_rfl) (by rfl) ?_
          refine eachW_step rfl rfl (fun K hK => ?_) eachW_nil
          (try simp only [List.getElem_toArray, List.getElem_cons_zero, List.getElem_cons_succ])
          go_simp
          refine (some_any [⟨#[49]⟩, ⟨#[50]⟩, ⟨#[]⟩] b _ g7 3 wa T.inv (by omega) B7'.out rfl (by omega) (by omega)).mono ?_
          rintro e wb ⟨s2, rfl, -, hx⟩
          have T' := T.trans hx
          have HO' := Lib.hid (HO.out.mod hx.only (fun g e e2 => by have := HO.out.farP g e; omega))
          have R' := Lib.hid (R.out.mod hx.only (by omega))
          have P' := Lib.hid (P.out.mod hx.only (by omega))
          clear T HO R P
          have T := T'
          have HO := HO'
          have R := R'
          have P := P'
          clear T' HO' R' P'
          go_wp2_with fail
          refine hK.out _ _ P.out (fun _ => ?_)
          clear hK K hx
          (try simp only [Act.put, List.getElem_toArray, List.getElem_cons_zero, List.getElem_cons_succ, List.setIfInBounds_toArray, List.set_cons_zero, List.set_cons_succ])
          refine headW_take 8 _ ?_ (fun _ _ d _ _ h => by cases d <;> exact h) (by kernel_rfl) rfl (by kernel_rfl) P.out (by rfl) (fun W hSw => ?_) ?_
          rotate_left
          · (have hq := HSN.out W hSw); (try simp only [List.getElem_toArray, List.getElem_cons_zero, List.getElem_cons_succ]); go_simp; any_goals (with_reducible rfl)
          simp only [Act.put, List.getElem_toArray, List.getElem_cons_zero, List.getElem_cons_succ, List.setIfInBounds_toArray, List.set_cons_zero, List.set_cons_succ]
          refine headW_ready [9] (by kernel_rfl) (by rfl) ?_
          refine eachW_step rfl rfl (fun K hK => ?_) eachW_nil
          (try simp only [List.getElem_toArray, List.getElem_cons_zero, List.getElem_cons_succ])
          go_simp
          have hn1 : New wb (wb.alloc (.cells #[.string s1, .string s2] 82)) := (Mod.refl _ _).alloc _
          have HBH := Lib.hid (Blk.new wb 82 #[.string s1, .string s2])
          have T' := T.new hn1
          have HO' := Lib.hid (HO.out.new hn1)
          have R' := Lib.hid (R.out.new2 hn1)
          have P' := Lib.hid (P.out.new2 hn1)
          clear T HO R P
          have T := T'
          have HO := HO'
          have R := R'
          have P := P'
          clear T' HO' R' P'
          refine hK.out _ _ P.out (fun _ => ?_)
          clear hK K hn1
          (try simp only [Act.put, List.getElem_toArray, List.getElem_cons_zero, List.getElem_cons_succ, List.setIfInBounds_toArray, List.set_cons_zero, List.set_cons_succ])
          generalize wb.alloc (.cells #[.string s1, .string s2] 82) = wh at *
          generalize wb.heap.size = gh at *
          refine headW_ready [10] (by kernel_rfl) (by rfl) ?_
          refine eachW_step rfl rfl (fun K hK => ?_) eachW_nil
          have hoq := HO.out
          have hblh := HBH.out
          have hszh : pb + 1 ≤ wh.heap.size := P.out.lt
          have HFAR : Hid (∀ g, blkOf A = some g → pb + 1 ≤ g) := Lib.hid (fun g e => HO.out.farP g e)
          refine wp_push (.tmp 19) (.tmp 27) _ rfl 32 Tryz.underlying42 einfo_hdr rfl (by exact hoq) (s1, s2) gh rfl (by exact hblh) (fun j hj => pairEnc_one _ j hj) (by omega) (by omega) (by omega) ?_
          intro g8 cap8 w8 own8 hm8 hat8 hlt8
          have P8 := Lib.hid (P.out.mod hm8 (fun e => by have := HFAR.out _ e; omega))
          have R8 := Lib.hid (R.out.mod hm8 (fun e => by have := HFAR.out _ e; omega))
          have T8 := T.mod0 hm8 (fun i e => by have := HFAR.out i e; omega)
          refine hK.out _ _ P8.out (fun _ => ?_)
          clear hK K hoq hblh hszh hat8 hlt8 hm8
          (try simp only [Act.put, List.getElem_toArray, List.getElem_cons_zero, List.getElem_cons_succ, List.setIfInBounds_toArray, List.set_cons_zero, List.set_cons_succ])
          refine headW_done (by kernel_rfl) ?_
          have HO8 := Lib.hid own8
          clear own8 HO T P R HBH
          have hcp := P8.out.cell
          have hfp := P8.out.frozen
          have plt := P8.out.lt
          have P9 := Lib.hid (P8.out.set 6 (.slice (some ⟨g8, 0, none⟩) (j + 1) cap8))
          have hmS : Mod (fun q => q = pb) w8 (World.setCell w8 ⟨pb, 6, none⟩ (.slice (some ⟨g8, 0, none⟩) (j + 1) cap8)) := Mod.setCell (S := fun q => q = pb) (p := ⟨pb, 6, none⟩) (Mod.refl _ _) (.inl rfl) _
          have R9 := Lib.hid (R8.out.mod hmS hpr)
          have T9 := Lib.hid (T8.mod0 hmS (fun i e => by omega))
          have HO9 := Lib.hid (HO8.out.mod hmS (fun g e e2 => by have := HO8.out.farP g e; omega))
          clear hmS T8 R8 P8 HO8
          go_wp2_with fail
          clear hcp hfp
          go_roundw
          case rel => exact ⟨j + 1, some ⟨g8, 0, none⟩, j + 1, cap8, _, by omega, by go_num, rfl, R9, P9, HO9, Lib.hid (T9.out.more (by omega)), P9.out.lt⟩
          case measure => simp [intOf]; omega
      · (try simp only [List.getElem_toArray, List.getElem_cons_zero, List.getElem_cons_succ])
        go_simp
        have hn1 : New w5 (w5.alloc (.cells #[.string ⟨#[49]⟩, .string ⟨#[50]⟩, .string ⟨#[]⟩] 9)) := (Mod.refl _ _).alloc _
        have B6 := Lib.hid (Blk.new w5 9 #[.string ⟨#[49]⟩, .string ⟨#[50]⟩, .string ⟨#[]⟩])
        have hbg6 : b < w5.heap.size := T.inv.lt
        have T' := T.new hn1
        have HO' := Lib.hid (HO.out.new hn1)
        have R' := Lib.hid (R.out.new2 hn1)
        have P' := Lib.hid (P.out.new2 hn1)
        clear T HO R P
        have T := T'
        have HO := HO'
        have R := R'
        have P := P'
        clear T' HO' R' P'
        refine hK.out _ _ P.out (fun _ => ?_)
        clear hK K hn1
        (try simp only [Act.put, List.getElem_toArray, List.getElem_cons_zero, List.getElem_cons_succ, List.setIfInBounds_toArray, List.set_cons_zero, List.set_cons_succ])
        generalize w5.alloc (.cells #[.string ⟨#[49]⟩, .string ⟨#[50]⟩, .string ⟨#[]⟩] 9) = w6 at *
        generalize w5.heap.size = g6 at *
        refine headW_ready [3] (by kernel_rfl) (by rfl) ?_
        refine eachW_step rfl rfl (fun K hK => ?_) eachW_nil
        (try simp only [List.getElem_toArray, List.getElem_cons_zero, List.getElem_cons_succ])
        go_simp
        have hn1 : New w6 (w6.alloc (.cells #[.string ⟨#[120, 45, 111, 110, 101]⟩, .string ⟨#[88, 45, 79, 110, 101]⟩, .string ⟨#[120, 45, 116, 119, 111]⟩] 9)) := (Mod.refl _ _).alloc _
        have B7 := Lib.hid (Blk.new w6 9 #[.string ⟨#[120, 45, 111, 110, 101]⟩, .string ⟨#[88, 45, 79, 110, 101]⟩, .string ⟨#[120, 45, 116, 119, 111]⟩])
        have hbg7 : b < w6.heap.size := T.inv.lt
        have T' := T.new hn1
        have HO' := Lib.hid (HO.out.new hn1)
        have R' := Lib.hid (R.out.new2 hn1)
        have P' := Lib.hid (P.out.new2 hn1)
        clear T HO R P
        have T := T'
        have HO := HO'
        have R := R'
        have P := P'
        clear T' HO' R' P'
        have B6' := Lib.hid (B6.out.new2 hn1)
        refine hK.out _ _ P.out (fun _ => ?_)
        clear hK K hn1
        (try simp only [Act.put, List.getElem_toArray, List.getElem_cons_zero, List.getElem_cons_succ, List.setIfInBounds_toArray, List.set_cons_zero, List.set_cons_succ])
        generalize w6.alloc (.cells #[.string ⟨#[120, 45, 111, 110, 101]⟩, .string ⟨#[88, 45, 79, 110, 101]⟩, .string ⟨#[120, 45, 116, 119, 111]⟩] 9) = w7 at *
        generalize w6.heap.size = g7 at *
        refine headW_ready [4] (by kernel_rfl) (by rfl) ?_
        refine eachW_step rfl rfl (fun K hK => ?_) eachW_nil
        (try simp only [List.getElem_toArray, List.getElem_cons_zero, List.getElem_cons_succ])
        go_simp
        refine (some_any [⟨#[120, 45, 111, 110, 101]⟩, ⟨#[88, 45, 79, 110, 101]⟩, ⟨#[120, 45, 116, 119, 111]⟩] b _ g7 3 w7 T.inv (by omega) B7.out rfl (by omega) (by omega)).mono ?_
        rintro e wa ⟨s1, rfl, -, hx⟩
        have T' := T.trans hx
        have HO' := Lib.hid (HO.out.mod hx.only (fun g e e2 => by have := HO.out.farP g e; omega))
        have R' := Lib.hid (R.out.mod hx.only (by omega))
        have P' := Lib.hid (P.out.mod hx.only (by omega))
        clear T HO R P
        have T := T'
        have HO := HO'
        have R := R'
        have P := P'
        clear T' HO' R' P'
        have B6q := Lib.hid (B6'.out.mod hx.only (by omega))
        go_wp2_with fail
        refine hK.out _ _ P.out (fun _ => ?_)
        clear hK K hx
        (try simp only [Act.put, List.getElem_toArray, List.getElem_cons_zero, List.getElem_cons_succ, List.setIfInBounds_toArray, List.set_cons_zero, List.set_cons_succ])
        refine headW_ready [7] (by kernel_rfl) (by rfl) ?_
        refine eachW_step rfl rfl (fun K hK => ?_) eachW_nil
        (try simp only [List.getElem_toArray, List.getElem_cons_zero, List.getElem_cons_succ])
        go_simp
        refine (some_any [⟨#[49]⟩, ⟨#[50]⟩, ⟨#[]⟩] b _ g6 3 wa T.inv (by omega) B6q.out rfl (by omega) (by omega)).mono ?_
        rintro e wb ⟨s2, rfl, -, hx⟩
        have T' := T.trans hx
        have HO' := Lib.hid (HO.out.mod hx.only (fun g e e2 => by have := HO.out.farP g e; omega))
        have R' := Lib.hid (R.out.mod hx.only (by omega))
        have P' := Lib.hid (P.out.mod hx.only (by omega))
        clear T HO R P
        have T := T'
        have HO := HO'
        have R := R'
        have P := P'
        clear T' HO' R' P'
        go_wp2_with fail
        refine hK.out _ _ P.out (fun _ => ?_)
        clear hK K hx
        (try simp only [Act.put, List.getElem_toArray, List.getElem_cons_zero, List.getElem_cons_succ, List.setIfInBounds_toArray, List.set_cons_zero, List.set_cons_succ])
        refine headW_take 8 _ ?_ (fun _ _ d _ _ h => by cases d <;> exact h) (by kernel_rfl) rfl (by kernel_rfl) P.out (by rfl) (fun W hSw => ?_) ?_
        rotate_left
        · (have hq := HSN.out W hSw); (try simp only [List.getElem_toArray, List.getElem_cons_zero, List.getElem_cons_succ]); go_simp; any_goals (with_reducible rfl)
        simp only [Act.put, List.getElem_toArray, List.getElem_cons_zero, List.getElem_cons_succ, List.setIfInBounds_toArray, List.set_cons_zero, List.set_cons_succ]
        refine headW_ready [9] (by kernel_rfl) (by rfl) ?_
        refine eachW_step rfl rfl (fun K hK => ?_) eachW_nil
        (try simp only [List.getElem_toArray, List.getElem_cons_zero, List.getElem_cons_succ])
        go_simp
        have hn1 : New wb (wb.alloc (.cells #[.string s1, .string s2] 82)) := (Mod.refl _ _).alloc _
        have HBH := Lib.hid (Blk.new wb 82 #[.string s1, .string s2])
        have T' := T.new hn1
        have HO' := Lib.hid (HO.out.new hn1)
        have R' := Lib.hid (R.out.new2 hn1)
        have P' := Lib.hid (P.out.new2 hn1)
        clear T HO R P
        have T := T'
        have HO := HO'
        have R := R'
        have P := P'
        clear T' HO' R' P'
        refine hK.out _ _ P.out (fun _ => ?_)
        clear hK K hn1
        (try simp only [Act.put, List.getElem_toArray, List.getElem_cons_zero, List.getElem_cons_succ, List.setIfInBounds_toArray, List.set_cons_zero, List.set_cons_succ])
        generalize wb.alloc (.cells #[.string s1, .string s2] 82) = wh at *
        generalize wb.heap.size = gh at *
        refine headW_ready [10] (by kernel_rfl) (by rfl) ?_
        refine eachW_step rfl rfl (fun K hK => ?_) eachW_nil
        have hoq := HO.out
        have hblh := HBH.out
        have hszh : pb + 1 ≤ wh.heap.size := P.out.lt
        have HFAR : Hid (∀ g, blkOf A = some g → pb + 1 ≤ g) := Lib.hid (fun g e => HO.out.farP g e)
        refine wp_push (.tmp 19) (.tmp 27) _ rfl 32 Tryz.underlying42 einfo_hdr rfl (by exact hoq) (s1, s2) gh rfl (by exact hblh) (fun j hj => pairEnc_one _ j hj) (by omega) (by omega) (by omega) ?_
        intro g8 cap8 w8 own8 hm8 hat8 hlt8
        have P8 := Lib.hid (P.out.mod hm8 (fun e => by have := HFAR.out _ e; omega))
        have R8 := Lib.hid (R.out.mod hm8 (fun e => by have := HFAR.out _ e; omega))
        have T8 := T.mod0 hm8 (fun i e => by have := HFAR.out i e; omega)
        refine hK.out _ _ P8.out (fun _ => ?_)
        clear hK K hoq hblh hszh hat8 hlt8 hm8
        (try simp only [Act.put, List.getElem_toArray, List.getElem_cons_zero, List.getElem_cons_succ, List.setIfInBounds_toArray, List.set_cons_zero, List.set_cons_succ])
        refine headW_done (by kernel_rfl) ?_
        have HO8 := Lib.hid own8
        clear own8 HO T P R HBH
        have hcp := P8.out.cell
        have hfp := P8.out.frozen
        have plt := P8.out.lt
        have P9 := Lib.hid (P8.out.set 6 (.slice (some ⟨g8, 0, none⟩) (j + 1) cap8))
        have hmS : Mod (fun q => q = pb) w8 (World.setCell w8 ⟨pb, 6, none⟩ (.slice (some ⟨g8, 0, none⟩) (j + 1) cap8)) := Mod.setCell (S := fun q => q = pb) (p := ⟨pb, 6, none⟩) (Mod.refl _ _) (.inl rfl) _
        have R9 := Lib.hid (R8.out.mod hmS hpr)
        have T9 := Lib.hid (T8.mod0 hmS (fun i e => by omega))
        have HO9 := Lib.hid (HO8.out.mod hmS (fun g e e2 => by have := HO8.out.farP g e; omega))
        clear hmS T8 R8 P8 HO8
        go_wp2_with fail
        clear hcp hfp
        go_roundw
        case rel => exact ⟨j + 1, some ⟨g8, 0, none⟩, j + 1, cap8, _, by omega, by go_num, rfl, R9, P9, HO9, Lib.hid (T9.out.more (by omega)), P9.out.lt⟩
        case measure => simp [intOf]; omega
    · have hjm : (j : Int) = m := by omega
      go_wp2_with fail
      refine (flip_any b _ 15 wr T.inv (by omega) (by omega) (by omega)).mono ?_
      rintro e w6 ⟨q, rfl, hx⟩
      clear HO HT
      have P' := Lib.hid (P.out.mod hx.only (by omega))
      have R' := Lib.hid (R.out.mod hx.only (by omega))
      have T' := T.trans hx
      have z' := hx.only.size
      clear R T hx
      have R := R'
      have T := T'
      clear R' T'
      clear P
      have P := P'
      clear P'
      clear z'
      cases q
      · have hcP := P.out.cell
        have hcR := R.out.cell
        have hfR := R.out.frozen
        have plt := P.out.lt
        have rlt := R.out.lt
        have hmF := fun (v0 v1 v2 v3 v4 v5 v6 v7 : Value) => (Mod.setCell (S := fun k => k = rb) (p := ⟨rb, 7, none⟩) (Mod.setCell (S := fun k => k = rb) (p := ⟨rb, 6, none⟩) (Mod.setCell (S := fun k => k = rb) (p := ⟨rb, 5, none⟩) (Mod.setCell (S := fun k => k = rb) (p := ⟨rb, 4, none⟩) (Mod.setCell (S := fun k => k = rb) (p := ⟨rb, 3, none⟩) (Mod.setCell (S := fun k => k = rb) (p := ⟨rb, 2, none⟩) (Mod.setCell (S := fun k => k = rb) (p := ⟨rb, 1, none⟩) (Mod.setCell (S := fun k => k = rb) (p := ⟨rb, 0, none⟩) (Mod.refl _ w6) (.inl rfl) v0) (.inl rfl) v1) (.inl rfl) v2) (.inl rfl) v3) (.inl rfl) v4) (.inl rfl) v5) (.inl rfl) v6) (.inl rfl) v7)
        have HMF := Lib.hid hmF
        have HFIN : Hid (∀ W', Mod (fun k => k = rb) w6 W' → SStep b w W' (k + 600)) := Lib.hid (fun W' hm => (T.mod0 hm (by intro i e; omega)).more (by omega))
        clear hmF P R T
        go_wp2_with fail
        refine bodyPost_ret (v := ReqD.val ⟨0, me, ho, pa, ⟨#[]⟩, ⟨#[]⟩, A, j, c, ⟨#[]⟩⟩) (by simp [results, Tryz.results16, go_sem, hcP, hcR, hfR, plt, rlt, hpr, ReqD.val]) rfl ?_
        exact ⟨⟨0, me, ho, pa, ⟨#[]⟩, ⟨#[]⟩, A, j, c, ⟨#[]⟩⟩, rfl, by (try dsimp only); omega, HFIN.out _ (HMF.out _ _ _ _ _ _ _ _)⟩
      · go_wp2_with fail
        refine (request_any b _ w6 T.inv (by omega)).mono ?_
        rintro e w7 ⟨⟨at7, me7, ho7, pa7, qu7, fr7, A7, n7, c7, bo7⟩, rfl, hp7, hx⟩
        have R' := Lib.hid (R.out.mod hx.only (by omega))
        have T' := T.trans hx
        clear R T hx P
        have R := R'
        have T := T'
        clear R' T'
        have hcR := R.out.cell
        have hfR := R.out.frozen
        have rlt := R.out.lt
        have HMF := Lib.hid (fun (v0 v1 v2 v3 v4 v5 v6 v7 : Value) => (Mod.setCell (S := fun k => k = rb) (p := ⟨rb, 7, none⟩) (Mod.setCell (S := fun k => k = rb) (p := ⟨rb, 6, none⟩) (Mod.setCell (S := fun k => k = rb) (p := ⟨rb, 5, none⟩) (Mod.setCell (S := fun k => k = rb) (p := ⟨rb, 4, none⟩) (Mod.setCell (S := fun k => k = rb) (p := ⟨rb, 3, none⟩) (Mod.setCell (S := fun k => k = rb) (p := ⟨rb, 2, none⟩) (Mod.setCell (S := fun k => k = rb) (p := ⟨rb, 1, none⟩) (Mod.setCell (S := fun k => k = rb) (p := ⟨rb, 0, none⟩) (Mod.refl _ w7) (.inl rfl) v0) (.inl rfl) v1) (.inl rfl) v2) (.inl rfl) v3) (.inl rfl) v4) (.inl rfl) v5) (.inl rfl) v6) (.inl rfl) v7))
        have HFIN : Hid (∀ W', Mod (fun k => k = rb) w7 W' → SStep b w W' (k + 600)) := Lib.hid (fun W' hm => (T.mod0 hm (by intro i e; omega)).more (by omega))
        clear R T
        unfold ReqD.val
        simp only
        go_wp2_with fail
        refine bodyPost_ret (v := ReqD.val ⟨at7, me7, ho7, pa7, qu7, fr7, A7, n7, c7, bo7⟩) (by simp [results, Tryz.results16, go_sem, hcR, hfR, rlt, ReqD.val]) rfl ?_
        exact ⟨_, rfl, hp7, HFIN.out _ (HMF.out _ _ _ _ _ _ _ _)⟩

end Go.Proofs.YtjehlecgnepgmaaGreatDoor
