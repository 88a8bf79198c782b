/- Several texts in one. (1) What the laws' walks share (XLaw without the limits; written by mktpln.py). No conditions. (2) What the makers of templates hand out: strings of modest size (written by mktpln.py out of XTplM). Conditions: those of the stream. -/
import Derived.Test.YtnbcfpjalgfikaaGreatDoorStream
import Derived.Test.YtnbcfpjalgfikaaGreatDoorOwn
import Derived.Test.YtnbcfpjalgfikaaGreatDoorTxt
import Derived.Test.YtnbcfpjalgfikaaGreatDoorStrEGrp

namespace Go.Proofs.YtnbcfpjalgfikaaGreatDoor
open Go.RowKit
set_option linter.unusedVariables false
set_option linter.unusedSimpArgs false

/-- a slice of ints that came in and can be read -/
def InInts (w : World) (A : Option Addr) (n : Nat) : Prop :=
  n ≤ maxLen ∧ (0 < n → ∃ g o, A = some ⟨g, o, none⟩ ∧ g < w.heap.size ∧ ∃ z : Nat → Int, ∀ i, i < n → w.cell? ⟨g, o + i, none⟩ = some (.int .i64 (z i)) ∧ I64 (z i))

theorem SInv.start {w : World} {A : Option Addr} {n c : Nat} (h : InInts w A n) : SInv w.heap.size (w.alloc (.cells #[.slice A n c, .int .i64 0] 25)) 0 := by
  rcases Nat.eq_zero_or_pos n with rfl | hn
  · exact ⟨A, 0, c, 0, fun _ => 0, Blk.new _ _ _, by omega, by unfold maxLen; omega, fun h => absurd h (by omega)⟩
  · obtain ⟨g, o, hA, hg, z, hz⟩ := h.2 hn
    refine ⟨A, n, c, 0, z, Blk.new _ _ _, by omega, h.1, fun _ => ⟨g, o, hA, hg, fun i hi => ⟨?_, (hz i hi).2⟩⟩⟩
    rw [← (hz i hi).1]
    exact World.cell?_alloc_lt w _ _ hg

/-- what the stream does is nothing to the caller's memory -/
theorem SStep.news {w w' : World} {o : Obj} {k : Nat} (h : SStep w.heap.size (w.alloc o) w' k) : New w w' :=
  ((Mod.refl (fun _ => False) w).alloc o).step h.only (fun i hi e => by omega)

theorem SStep.mod {S : Nat → Prop} {b k : Nat} {w w' w'' : World} (h : SStep b w w' k) (hm : Mod S w' w'') (hS : ∀ i, S i → w.heap.size ≤ i) : SStep b w w'' k :=
  ⟨h.lt, h.only.step hm (fun i hi e => by have := hS i e; omega), h.inv.mod hm (fun i hi e => by have := hS i e; have := h.lt; omega)⟩
theorem Own.far {α : Type} {w : World} {B : Nat} {t : TypeId} {sz : Nat} {enc : α → Nat → Value} {A : Option Addr} {n c : Nat} {xs : List α} (h : Own w B t sz enc A n c xs) : ∀ i, blkOf A = some i → B ≤ i ∧ i < w.heap.size := by
  intro i e
  rcases h.blk with ⟨rfl, _⟩ | ⟨g, rfl, hB, ht⟩
  · cases e
  · injection e with e; subst e; exact ⟨hB, ht.lt⟩

end Go.Proofs.YtnbcfpjalgfikaaGreatDoor

namespace Go.Proofs.YtnbcfpjalgfikaaGreatDoor
open Go.RowKit
set_option linter.unusedVariables false
set_option linter.unusedSimpArgs false

theorem lens_le (Z : Nat) : ∀ xs : List (List UInt8), (∀ x ∈ xs, x.length ≤ Z) → Lib.lens xs ≤ xs.length * Z
  | [], _ => by simp [Lib.lens]
  | a :: xs, h => by
    have h1 := h a (by simp)
    have h2 := lens_le Z xs (fun x hx => h x (by simp [hx]))
    simp only [Lib.lens, List.map_cons, List.sum_cons, List.length_cons, Nat.succ_mul] at *
    omega
theorem join_le (sep : List UInt8) (Z : Nat) (xs : List (List UInt8)) (h : ∀ x ∈ xs, x.length ≤ Z) : (Lib.join xs sep).length ≤ xs.length * (Z + sep.length) := by
  cases xs with
  | nil => simp [Lib.join]
  | cons x r =>
    have h1 := lens_le Z (x :: r) h
    rw [Lib.join_length]
    simp only [List.length_cons] at *
    have h2 : (r.length + 1) * (Z + sep.length) = (r.length + 1) * Z + (r.length + 1) * sep.length := Nat.mul_add _ _ _
    have h3 : sep.length * r.length = r.length * sep.length := Nat.mul_comm _ _
    have h4 : (r.length + 1) * sep.length = r.length * sep.length + sep.length := Nat.succ_mul _ _
    omega
theorem Own.farS {α : Type} {w : World} {B : Nat} {t : TypeId} {sz : Nat} {enc : α → Nat → Value} {A : Option Addr} {n c : Nat} {xs : List α} (h : Own w B t sz enc A n c xs) (g : Nat) (e : blkOf A = some g) : B ≤ g := by
  rcases h.blk with ⟨rfl, _, _⟩ | ⟨g', rfl, hB, _⟩
  · cases e
  · injection e with e; subst e; exact hB
set_option maxRecDepth 100000 in
set_option maxHeartbeats 2000000 in
theorem words_any (xs : List ByteArray) (Z b k g n m : Nat) (sep : ByteArray) (w : World) (hs : SInv b w k) (hk : k < 4611686018427000000) (hx : Blk w g 9 (xs.map Value.string).toArray) (hn : xs.length = n) (hn0 : 0 < n) (hn1 : n < 1000) (hm : m ≤ 200) (hZ : ∀ x ∈ xs, x.size ≤ Z) (hZ2 : Z ≤ 1000) (hsep : sep.size ≤ 10) :
    Calls Tryz.prog 68 #[.pointer (some ⟨b, 0, none⟩), .int .i64 (m : Int), .string sep, .slice (some ⟨g, 0, none⟩) n n] w (RStr fun s w' => s.size ≤ m * (Z + sep.size) ∧ SStep b w w' (k + m)) := by
  have hgb : g ≠ b := by
    obtain ⟨A, l, c, q, z, hb, _⟩ := hs
    exact hx.ne hb (by decide)
  have hbl := hs.lt
  have hgl := hx.lt
  have HX := Lib.hid hx
  have HZ := Lib.hid hZ
  have T0 := Lib.hid (SStep.refl hs)
  clear hx hZ hs
  go_enter Tryz.func68, Tryz.ntmps68
  go_wp2_with fail
  go_loopw [9, 11] (fun o i wr => ∃ (j c : Nat) (A : Option Addr) (ys : List ByteArray), j ≤ m ∧ i = .int .i64 j ∧ o = .slice A j c ∧ Hid (Own wr w.heap.size 9 1 sEnc A j c ys) ∧ Hid (∀ y ∈ ys, y.size ≤ Z) ∧ Hid (SStep b w wr (k + j)) ∧ Hid (Blk wr g 9 (xs.map Value.string).toArray)) (fun _ i _ => m - (intOf i).toNat)
  case atStart => exact ⟨0, 0, none, [], Nat.zero_le _, rfl, rfl, Lib.hid Own.nil, Lib.hid (by simp), T0, HX⟩
  case round =>
    clear T0 HX
    rename World => wr
    obtain ⟨j, c, A, ys, hj, rfl, rfl, HO, HY, T, HX⟩ := hrel
    by_cases hlt : j < m
    · have hsm := some_any xs b (k + j) g n wr T.out.inv (by omega) HX.out hn hn0 hn1
      have HOF : Hid (∀ g', blkOf A = some g' → w.heap.size ≤ g') := Lib.hid (fun g' e => HO.out.farS g' e)
      go_wp2_with fail
      refine hsm.mono ?_
      clear hsm
      rintro e w2 ⟨s, rfl, hsx, h2⟩
      have hso := h2.only.size
      have HO2 := Lib.hid (HO.out.mod h2.only (fun g' e e2 => by have := HOF.out g' e; omega))
      have T2 := Lib.hid (T.out.trans h2)
      have HX2 := Lib.hid (HX.out.mod h2.only hgb)
      have HSZ := Lib.hid (HZ.out s hsx)
      have hwz := T.out.only.size
      clear h2 HO T HX
      go_wp2_with (at_builtin; refine wpList_push rfl _ _ _ rfl 16 Tryz.underlying41 einfo_str rfl (HO2.out.alloc _) s w2.heap.size rfl (Blk.new _ _ _) (fun j hj => sEnc_one _ j hj) (by omega) (by omega) (by simp; omega) ?_; intro g8 cap8 w8 own8 hm8 hat8 hlt8)
      have HO8 := Lib.hid own8
      have T8 := Lib.hid ((((T2.out.alloc (.cells #[.string s] 9))).mod hm8 (fun i e => HOF.out i e)).more (show k + j + 1 ≤ k + (j + 1) by omega))
      have HX8 := Lib.hid ((HX2.out.mod ((Mod.refl (fun _ => False) _).alloc (.cells #[.string s] 9)) (fun e => e)).mod hm8 (fun e => by have := HOF.out g e; omega))
      clear own8 hm8
      go_roundw
      case rel => exact ⟨j + 1, cap8, some ⟨g8, 0, none⟩, ys ++ [s], by omega, by go_num, rfl, HO8, Lib.hid (fun y hy => by
        rcases List.mem_append.1 hy with h | h
        · exact HY.out y h
        · simp at h; subst h; exact HSZ.out), T8, HX8⟩
      case measure => simp [intOf]; omega
    · obtain rfl : j = m := by omega
      have hyl := HO.out.1
      by_cases h0 : j = 0
      · subst h0
        have hj0 := Tryz.strings_Join_none A c sep wr
        go_wp2_with (first | (refine hj0.mono ?_; clear hj0; rintro e w3 ⟨rfl, hw⟩; rw [hw]; clear hw))
        go_ret
        exact ⟨⟨#[]⟩, rfl, Nat.zero_le _, T.out⟩
      · rcases HO.out.blk with ⟨_, h1, _⟩ | ⟨g', rfl, hB, htb⟩
        · exact absurd h1 h0
        · obtain ⟨g2, o2, hA, htb2, hc⟩ := HO.out.sl.2 (by omega)
          injection hA with hA
          injection hA with e1 e2 e3
          subst e1 e2
          have hle : (Lib.join (ys.map (·.data.toList)) sep.data.toList).length ≤ j * (Z + sep.size) := by
            have := join_le sep.data.toList Z (ys.map (·.data.toList)) (fun x hx => by
              obtain ⟨y, hy, rfl⟩ := List.mem_map.1 hx
              exact HY.out y hy)
            rw [List.length_map, hyl] at this
            exact this
          have hmul : j * (Z + sep.size) ≤ 200 * 1010 := Nat.mul_le_mul (by omega) (by omega)
          have hcap : j ≤ c := by
            obtain ⟨_, _, _, _, h5, _⟩ := HO.out.form (by omega)
            exact h5
          have hjn := Tryz.strings_Join g' 0 c ys sep wr (fun i x hx => by
            have hi : i < ys.length := by
              rcases Nat.lt_or_ge i ys.length with h | h
              · exact h
              · rw [List.getElem?_eq_none h] at hx; cases hx
            rw [List.getElem?_eq_getElem hi] at hx
            injection hx with hx
            subst hx
            have := hc i hi 0 (by decide)
            rw [show 0 + i * 1 + 0 = 0 + i by omega] at this
            exact this) htb.lt (by omega) (by omega) (by omega)
          rw [hyl] at hjn
          have HLE : Hid ((⟨(Lib.join (ys.map (·.data.toList)) sep.data.toList).toArray⟩ : ByteArray).size ≤ j * (Z + sep.size)) := Lib.hid (by show (List.toArray _).size ≤ _; simpa using hle)
          generalize (⟨(Lib.join (ys.map (·.data.toList)) sep.data.toList).toArray⟩ : ByteArray) = U at *
          clear hle hmul hc htb htb2
          go_wp2_with (first | (refine hjn.mono ?_; clear hjn; rintro e w3 ⟨rfl, hm3⟩; have hm3 := Lib.hid hm3))
          go_ret
          exact ⟨U, rfl, HLE.out, T.out.new (Mod.of_below hm3.out)⟩

set_option maxRecDepth 100000 in
set_option maxHeartbeats 2000000 in
theorem template_any (b k : Nat) (w : World) (hs : SInv b w k) (hk : k < 4611686018426000000) :
    Calls Tryz.prog 40 #[.pointer (some ⟨b, 0, none⟩)] w (RStr fun m w' => m.size ≤ 200 ∧ SStep b w w' (k + 10)) := by
  have hbl := hs.lt
  go_enter Tryz.func40, Tryz.ntmps40
  go_wp2_with fail
  refine (flip_any b k 10 w hs (by omega) (by omega) (by omega)).mono ?_
  rintro e w1 ⟨q, rfl, h1⟩
  cases q
  · go_wp2_with fail
    refine (range_any b _ 0 2 w1 h1.inv (by omega) (by omega) (by omega) (by omega)).mono ?_
    rintro e w2 ⟨m, rfl, m0, m1, h2⟩
    obtain ⟨m, rfl⟩ := Int.eq_ofNat_of_zero_le m0
    have T2 := h1.trans h2
    clear h1 h2
    go_wp2_with fail
    refine (words_any [⟨#[97]⟩, ⟨#[98]⟩, ⟨#[123, 105, 100, 125]⟩, ⟨#[123, 105, 100, 125]⟩, ⟨#[123, 120, 125]⟩, ⟨#[]⟩] 4 b _ w2.heap.size 6 m ⟨#[47]⟩ _ (T2.alloc _).inv (by omega) (Blk.new _ _ _) rfl (by omega) (by omega) (by omega) (by decide) (by omega) (by decide)).mono ?_
    rintro e w3 ⟨s, rfl, hs3, h3⟩
    have T3 := (T2.alloc _).trans h3
    have hs3' : s.size ≤ 10 := by
      have e : (⟨#[47]⟩ : ByteArray).size = 1 := rfl
      have : m * (4 + (⟨#[47]⟩ : ByteArray).size) ≤ 2 * 5 := Nat.mul_le_mul (by omega) (by omega)
      omega
    clear h3 T2 hs3
    have e1 : (⟨#[47]⟩ : ByteArray).size = 1 := rfl
    have ha1 : ¬ 9223372036854775807 < (⟨#[47]⟩ : ByteArray).size + s.size := by omega
    go_wp2_with fail
    refine (some_any [⟨#[]⟩, ⟨#[]⟩, ⟨#[]⟩, ⟨#[47, 123, 114, 101, 115, 116, 42, 125]⟩] b _ w3.heap.size 4 _ (T3.alloc _).inv (by omega) (Blk.new _ _ _) rfl (by omega) (by omega)).mono ?_
    rintro e w4 ⟨t, rfl, ht, h4⟩
    have htz : t.size ≤ 8 := by
      simp only [List.mem_cons, List.not_mem_nil, or_false] at ht
      rcases ht with rfl | rfl | rfl | rfl <;> decide
    have T4 := (T3.alloc _).trans h4
    clear h4 T3 ht
    have ha2 : ¬ 9223372036854775807 < ((⟨#[47]⟩ : ByteArray) ++ s).size + t.size := by rw [ByteArray.size_append]; omega
    go_wp2_with fail
    go_ret
    exact ⟨_, rfl, by rw [ByteArray.size_append, ByteArray.size_append]; omega, T4.more (by omega)⟩
  · have hr := Tryz.strings_Repeat ⟨#[97, 47]⟩ 30 w1 (by decide) (by decide)
    have hrz : (⟨(Lib.repeatL (⟨#[97, 47]⟩ : ByteArray).data.toList 30).toArray⟩ : ByteArray).size = 60 := by decide +kernel
    generalize (⟨(Lib.repeatL (⟨#[97, 47]⟩ : ByteArray).data.toList 30).toArray⟩ : ByteArray) = R at *
    have e1 : (⟨#[47]⟩ : ByteArray).size = 1 := rfl
    have ha1 : ¬ 9223372036854775807 < (⟨#[47]⟩ : ByteArray).size + R.size := by omega
    go_wp2_with fail
    refine hr.mono ?_
    clear hr
    rintro e w2 ⟨rfl, hm2⟩
    have T2 := h1.new (Mod.of_below hm2)
    clear h1 hm2
    have hz : ((⟨#[47]⟩ : ByteArray) ++ R).size ≤ 100 := by rw [ByteArray.size_append]; omega
    go_wp2_with fail
    generalize (⟨#[47]⟩ : ByteArray) ++ R = U at *
    refine (some_any [⟨#[]⟩, ⟨#[97]⟩, ⟨#[47, 123, 105, 100]⟩, ⟨#[47, 123, 49, 125]⟩, ⟨#[47, 123, 97, 125, 47, 123, 97, 125]⟩, ⟨#[47, 123, 97, 42, 125, 47, 98]⟩, ⟨#[47, 97, 63]⟩, ⟨#[47, 37, 50]⟩, ⟨#[47, 37, 122, 122]⟩, ⟨#[47, 46, 46]⟩, ⟨#[47, 37, 50, 101]⟩, ⟨#[47, 123, 125]⟩, ⟨#[47, 123, 42, 125]⟩, ⟨#[47, 97, 123, 98]⟩, ⟨#[47, 97, 125]⟩, ⟨#[47, 123, 105, 110, 125]⟩, ⟨#[47, 123, 97, 42, 42, 125]⟩, ⟨#[47, 47]⟩, ⟨#[47, 97, 37, 50, 70, 98]⟩, U, ⟨#[47, 97, 32, 98]⟩, ⟨#[47, 123, 97, 125, 120]⟩] b _ w2.heap.size 22 _ (T2.alloc _).inv (by omega) (Blk.new _ _ _) rfl (by omega) (by omega)).mono ?_
    rintro e w4 ⟨t, rfl, ht, h4⟩
    have htz : t.size ≤ 100 := by
      simp only [List.mem_cons, List.not_mem_nil, or_false] at ht
      rcases ht with rfl | rfl | rfl | rfl | rfl | rfl | rfl | rfl | rfl | rfl | rfl | rfl | rfl | rfl | rfl | rfl | rfl | rfl | rfl | rfl | rfl | rfl
      all_goals first | exact hz | decide
    have T4 := (T2.alloc _).trans h4
    clear h4 ht hz
    go_wp2_with fail
    go_ret
    exact ⟨_, rfl, by omega, T4.more (by omega)⟩

end Go.Proofs.YtnbcfpjalgfikaaGreatDoor
