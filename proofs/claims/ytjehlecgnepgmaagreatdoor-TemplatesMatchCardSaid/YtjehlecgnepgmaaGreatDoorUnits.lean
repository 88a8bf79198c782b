/- The reference reads the units of a path (gateref2: only, units, bytesOf). Conditions: a text of modest size; the library's variable ErrSyntax holds an error or nil. -/
import Derived.Test.YtjehlecgnepgmaaGreatDoorHexBad
import Derived.Test.YtjehlecgnepgmaaGreatDoorMatLaw2
import Derived.Test.YtjehlecgnepgmaaGreatDoorRow
import Derived.Test.YtjehlecgnepgmaaGreatDoorTplM
import Derived.Test.YtjehlecgnepgmaaGreatDoorTplT1Grp
namespace Go.Proofs.YtjehlecgnepgmaaGreatDoor
open Go.RowKit
set_option linter.unusedVariables false
set_option linter.unusedSimpArgs false

/-- are all the bytes of l among cs? -/
def onlyB (cs l : List UInt8) : Bool := l.all fun c => decide (0 ≤ Lib.indexByte cs c)
set_option maxHeartbeats 1000000 in
theorem ref2_only (s cs : ByteArray) (w : World) (hs : s.size ≤ 900000) :
    Calls Tryz.prog 120 #[.string s, .string cs] w fun e w' => e = .returned (.bool (onlyB cs.data.toList s.data.toList)) ∧ w = w' := by
  go_enter Tryz.func120, Tryz.ntmps120
  go_wp2_with fail
  go_loop [8] (fun v => ∃ k : Nat, k ≤ s.size ∧ v = .int .i64 k ∧ Hid (onlyB cs.data.toList (s.data.toList.take k) = true)) (fun v => s.size - (intOf v).toNat)
  case atStart => exact ⟨0, Nat.zero_le _, rfl, Lib.hid rfl⟩
  case round =>
    obtain ⟨k, hk, rfl, HR⟩ := hrel
    by_cases hlt : k < s.size
    · have hkl : k < s.data.toList.length := hlt
      have hg : s.data.toList[k] = s[k] := rfl
      have hix := Tryz.strings_IndexByte cs (s[k].toNat : Int) w
      rw [byteBack] at hix
      have HT : Hid (onlyB cs.data.toList (s.data.toList.take (k + 1)) = decide (0 ≤ Lib.indexByte cs.data.toList s[k])) := Lib.hid (by have := HR.out; unfold onlyB at *; rw [all_take hkl, this, hg]; rfl)
      have HF : Hid (decide (0 ≤ Lib.indexByte cs.data.toList s[k]) = false → onlyB cs.data.toList s.data.toList = false) := Lib.hid (fun h => all_stop (p := fun c => decide (0 ≤ Lib.indexByte cs.data.toList c)) hkl (by rw [hg]; exact h))
      clear hg
      generalize Lib.indexByte cs.data.toList s[k] = r at *
      by_cases hb : (0 : Int) ≤ r
      · have HB : Hid (decide (0 ≤ r) = true) := Lib.hid (by simpa using hb)
        have hb' : ¬ r < 0 := by omega
        go_wp2_with (first | (refine hix.mono ?_; clear hix; rintro e w' ⟨rfl, hw⟩; rw [hw]; clear hw))
        exact ⟨⟨k + 1, by omega, by go_num, Lib.hid (HT.out.trans HB.out)⟩, by simp [intOf]; omega⟩
      · have HB : Hid (decide (0 ≤ r) = false) := Lib.hid (by simpa using hb)
        have hb' : r < 0 := by omega
        go_wp2_with (first | (refine hix.mono ?_; clear hix; rintro e w' ⟨rfl, hw⟩; rw [hw]; clear hw))
        go_ret
        exact ⟨ret_bool (HF.out HB.out).symm, rfl⟩
    · obtain rfl : k = s.size := by omega
      have hfull : s.data.toList.take s.size = s.data.toList := List.take_length
      rw [hfull] at HR
      clear hfull
      go_wp2_with fail
      go_ret
      exact ⟨ret_bool HR.out.symm, rfl⟩

def unitEnc (x : UInt8 × Bool) : Nat → Value
  | 0 => .int .u8 (x.1.toNat : Int)
  | _ => .bool x.2
theorem unitEnc_one (x : UInt8 × Bool) (j : Nat) (hj : j < 2) : (unitEnc x j).oneCell' = true := by
  match j, hj with
  | 0, _ => rfl
  | 1, _ => rfl
theorem einfo_unit : EInfo Tryz.prog 135 2 2 := EInfo.of (z := .agg #[.int .u8 0, .bool false]) (by kernel_rfl) rfl (by decide)
abbrev USl (w : World) (A : Option Addr) (n : Nat) (us : List (UInt8 × Bool)) : Prop := Sl w 135 2 unitEnc A n us
def RUnits (q : Option (List (UInt8 × Bool))) (w : World) (e : Ending) (w' : World) : Prop := ∃ A n c, e = .returned (.tuple #[.slice A n c, .bool q.isSome]) ∧ USl w' A n (q.getD []) ∧ New w w' ∧ n ≤ 900000
theorem RUnits.none {q : Option (List (UInt8 × Bool))} {w w' : World} (h : q = none) (hm : New w w') : RUnits q w (.returned (.tuple #[.slice none 0 0, .bool false])) w' :=
  ⟨.none, 0, 0, by rw [h]; rfl, by rw [h]; exact Sl.nil, hm, by omega⟩
def strLen : Value → Nat
  | .string b => b.size
  | _ => 0
/-- what has been read gives us; u is to be read -/
def UnitsTo (l : List UInt8) (u : List UInt8) (us : List (UInt8 × Bool)) : Prop := unitsL l = (unitsL u).map (us ++ ·) ∧ us.length + u.length ≤ l.length
theorem UnitsTo.start (l : List UInt8) : UnitsTo l l [] := ⟨by simp, by simp⟩
theorem UnitsTo.plain {l r : List UInt8} {a : UInt8} {us : List (UInt8 × Bool)} (h : UnitsTo l (a :: r) us) (ha : a ≠ 37) : UnitsTo l r (us ++ [(a, true)]) := by
  refine ⟨?_, by have := h.2; simp at this ⊢; omega⟩
  rw [h.1, unitsL_plain ha]
  cases unitsL r <;> simp
theorem UnitsTo.unit {l r : List UInt8} {b c : UInt8} {us : List (UInt8 × Bool)} (h : UnitsTo l (37 :: b :: c :: r) us) (hx : (isHexN b.toNat && isHexN c.toNat) = true) : UnitsTo l r (us ++ [(unitV b c, false)]) := by
  refine ⟨?_, by have := h.2; simp at this ⊢; omega⟩
  rw [h.1, unitsL_unit hx]
  cases unitsL r <;> simp
theorem UnitsTo.bad {l r : List UInt8} {b c : UInt8} {us : List (UInt8 × Bool)} (h : UnitsTo l (37 :: b :: c :: r) us) (hx : (isHexN b.toNat && isHexN c.toNat) = false) : unitsL l = none := by
  rw [h.1, unitsL, if_pos rfl, hx]; rfl
theorem UnitsTo.short {l u : List UInt8} {us : List (UInt8 × Bool)} (h : UnitsTo l u us) (h1 : u.length < 3) (h0 : 0 < u.length) (h2 : u[0] = 37) : unitsL l = none := by
  rw [h.1]
  match u, h1, h0, h2 with
  | [a], _, _, h2 => simp at h2; subst h2; simp [unitsL]
  | [a, b], _, _, h2 => simp at h2; subst h2; simp [unitsL]
theorem UnitsTo.done {l : List UInt8} {us : List (UInt8 × Bool)} (h : UnitsTo l [] us) : unitsL l = some us := by
  rw [h.1]; simp [unitsL]
theorem ext_tail (u : ByteArray) (i : Nat) : (u.extract i u.size).data.toList = u.data.toList.drop i := by
  rw [extract_data]
  have : u.data.toList.length = u.size := rfl
  rw [List.take_of_length_le (by rw [List.length_drop]; omega)]

set_option maxRecDepth 100000 in
set_option maxHeartbeats 1000000 in
theorem ref2_units (s : ByteArray) (w : World) (hs : s.size ≤ 300000) (he : ErrSyn w) :
    Calls Tryz.prog 119 #[.string s] w (RUnits (unitsL s.data.toList) w) := by
  have HE := Lib.hid he
  clear he
  go_enter Tryz.func119, Tryz.ntmps119
  go_wp2_with fail
  go_loopw [0, 4] (fun s' o wr => ∃ (u : ByteArray) (n c : Nat) (A : Option Addr) (us : List (UInt8 × Bool)), s' = .string u ∧ o = .slice A n c ∧ Hid (UnitsTo s.data.toList u.data.toList us) ∧ Hid (Own wr w.heap.size 135 2 unitEnc A n c us) ∧ Hid (New w wr)) (fun s' _ _ => strLen s')
  case atStart => exact ⟨s, 0, 0, none, [], rfl, rfl, Lib.hid (UnitsTo.start _), Lib.hid Own.nil, Lib.hid (Mod.refl _ _)⟩
  case round =>
    rename World => wX
    obtain ⟨u, n, c, A, us, rfl, rfl, HU, HO, HM⟩ := hrel
    have HOF : Hid (∀ g', blkOf A = some g' → w.heap.size ≤ g') := Lib.hid (fun g' e => HO.out.farS g' e)
    have hul : u.data.toList.length = u.size := rfl
    have hnl : n ≤ 300000 := by
      have h1 := HU.out.2
      have h2 := HO.out.1
      have h3 : s.data.toList.length = s.size := rfl
      omega
    have hu300 : u.size ≤ 300000 := by
      have h1 := HU.out.2
      have h3 : s.data.toList.length = s.size := rfl
      omega
    by_cases h0 : u.size = 0
    · have hnil : u.data.toList = [] := List.eq_nil_of_length_eq_zero (by omega)
      have hst : u.toList.isEmpty = true := by rw [ByteArray.toList_eq, hnil]; rfl
      have HN : Hid (unitsL s.data.toList = some us) := Lib.hid (by have := HU.out; rw [hnil] at this; exact this.done)
      clear hnil h0 hul
      go_wp2_with fail
      go_ret2
      exact ⟨A, n, c, by rw [HN.out]; rfl, by rw [HN.out]; exact HO.out.sl, HM.out, by omega⟩
    · have hpos : 0 < u.size := by omega
      have hst : u.toList.isEmpty = false := by
        rw [ByteArray.toList_eq]
        cases h : u.data.toList with
        | nil => rw [h] at hul; simp at hul; omega
        | cons a r => rfl
      have hpi : (0 : Int) < (u.size : Int) := by omega
      have hp1 : (1 : Int) ≤ (u.size : Int) := by omega
      clear h0
      obtain ⟨a, r, hur⟩ : ∃ a r, u.data.toList = a :: r := by
        cases h : u.data.toList with
        | nil => rw [h] at hul; simp at hul; omega
        | cons a r => exact ⟨a, r, rfl⟩
      have hg0 : u[0]'hpos = u.data.toList[0]'(by omega) := rfl
      have hu0 : u[0]'hpos = a := by rw [hg0]; simp only [hur, List.getElem_cons_zero]
      have HUR := Lib.hid hur
      clear hg0 hul hur
      by_cases ha : a = 37
      · have h37 : ((a.toNat : Int) != 37) = false := by rw [ha]; rfl
        have HA := Lib.hid ha
        clear ha
        by_cases h3 : u.size < 3
        · have h3' : (u.size : Int) < 3 := by omega
          have HN : Hid (unitsL s.data.toList = none) := Lib.hid (by
            have h1 := HUR.out
            have h2 : u.data.toList.length = u.size := rfl
            exact HU.out.short (by omega) (by omega) (by simp only [h1, List.getElem_cons_zero]; exact HA.out))
          go_wp2_with fail
          go_ret2
          exact RUnits.none HN.out HM.out
        · have h3' : ¬ (u.size : Int) < 3 := by omega
          have hi3 : (3 : Int) ≤ (u.size : Int) := by omega
          obtain ⟨b, c', r', hr⟩ : ∃ b c' r', r = b :: c' :: r' := by
            have h1 := HUR.out
            have h2 : u.data.toList.length = u.size := rfl
            match r, h1 with
            | [], h1 => rw [h1] at h2; simp at h2; omega
            | [x], h1 => rw [h1] at h2; simp at h2; omega
            | x :: y :: r', _ => exact ⟨x, y, r', rfl⟩
          subst hr
          have HU37 : Hid (UnitsTo s.data.toList (37 :: b :: c' :: r') us) := Lib.hid (by have := HU.out; rw [HUR.out, HA.out] at this; exact this)
          have hd : (u.extract 1 3).data.toList = [b, c'] := by rw [extract_data, HUR.out]; rfl
          have hz : (u.extract 1 3).size = 2 := by simp only [ByteArray.size_extract]; omega
          cases hx : (isHexN b.toNat && isHexN c'.toNat)
          · have HN := Lib.hid (HU37.out.bad hx)
            have hp := strconv_parseUint16_bad (u.extract 1 3) (by omega) (by omega) (by rw [hd]; simpa using hx) wX (HE.out.new HM.out)
            clear hd hz hx
            go_wp2_with fail
            refine hp.mono ?_
            clear hp
            rintro e w2 ⟨⟨tt, p, rfl⟩, hm2⟩
            have HM2 := Lib.hid (HM.out.trans hm2)
            clear hm2
            go_wp2_with fail
            go_ret2
            exact RUnits.none HN.out HM2.out
          · have HU1' := HU37.out.unit hx
            have hx2 := hx
            simp only [Bool.and_eq_true] at hx2
            have hp := strconv_parseUint16_8 (u.extract 1 3) (by omega) (by omega) (by
              rw [hd]; intro y hy; simp at hy; rcases hy with rfl | rfl
              · exact hx2.1
              · exact hx2.2) wX
            rw [hd] at hp
            have v1 := hexV_lt hx2.1
            have v2 := hexV_lt hx2.2
            have hv : hexNum [b, c'] = (unitV b c').toNat := by
              unfold unitV
              rw [UInt8.toNat_ofNat']
              simp [hexNum]
              omega
            rw [hv] at hp
            have hz256 := (unitV b c').toNat_lt
            have HU1 : Hid (UnitsTo s.data.toList (u.extract 3 u.size).data.toList (us ++ [(unitV b c', false)])) := Lib.hid (by rw [ext_tail, HUR.out]; exact HU1')
            clear HU1' hx hx2 hd hz v1 v2 hv HU37
            generalize unitV b c' = z at *
            have hz0 : (0 : Int) ≤ (z.toNat : Int) := by omega
            have hz1 : (z.toNat : Int) < 256 := by omega
            have hw8 : IntKind.u8.wrap (z.toNat : Int) = (z.toNat : Int) := by
              simp [IntKind.wrap, IntKind.signed, IntKind.bits]
              omega
            go_wp2_with fail
            refine hp.mono ?_
            clear hp
            rintro e w2 ⟨rfl, hm2⟩
            have HM2 : Hid (New w w2) := Lib.hid (HM.out.trans hm2)
            have HO2 := Lib.hid (HO.out.new hm2)
            clear hm2 HM HO
            have HM := HM2
            have HO := HO2
            clear HM2 HO2
            go_upto_region 10 with fail
            have hBq : w.heap.size ≤ (w2.drew.alloc (.cells #[.int .u8 ((z).toNat : Int), .bool false] 135)).heap.size := by have := HM.out.size; simp; omega
            have hmA : New w2 (w2.drew.alloc (.cells #[.int .u8 ((z).toNat : Int), .bool false] 135)) := (Mod.refl _ _).drew.alloc _
            have HOA := Lib.hid (HO.out.new hmA)
            have HMA : Hid (New w _) := Lib.hid (HM.out.trans hmA)
            have HBN := Lib.hid (Blk.new w2.drew 135 #[.int .u8 ((z).toNat : Int), .bool false])
            clear hmA
            refine wp_region_held_ord (fun _ => True) [4, 5] [0, 1, 2, 3, 6, 7, 4, 5, 8] (by kernel_rfl) (by kernel_rfl) (fun _ _ d _ _ h => by cases d <;> exact h) ?_ (fun hHeld => ?_)
            · exact trivial
            simp only [List.length_cons, List.length_nil, List.drop_succ_cons, List.drop_zero]
            refine heldO_take ?_ (by rfl) (by rfl) (by rfl) (fun w hSw => ?_) ?_
            rotate_left
            · (try dsimp only at hSw); (try simp only [List.getElem_toArray, List.getElem_cons_zero, List.getElem_cons_succ]); go_simp; any_goals (with_reducible rfl)
            simp only [Act.put, List.getElem_toArray, List.getElem_cons_zero, List.getElem_cons_succ, List.setIfInBounds_toArray, List.set_cons_zero, List.set_cons_succ]
            refine heldO_take ?_ (by rfl) (by rfl) (by rfl) (fun w hSw => ?_) ?_
            rotate_left
            · (try dsimp only at hSw); (try simp only [List.getElem_toArray, List.getElem_cons_zero, List.getElem_cons_succ]); go_simp; any_goals (with_reducible rfl)
            simp only [Act.put, List.getElem_toArray, List.getElem_cons_zero, List.getElem_cons_succ, List.setIfInBounds_toArray, List.set_cons_zero, List.set_cons_succ]
            refine heldO_take ?_ (by rfl) (by rfl) (by rfl) (fun w hSw => ?_) ?_
            rotate_left
            · (try dsimp only at hSw); (try simp only [List.getElem_toArray, List.getElem_cons_zero, List.getElem_cons_succ]); go_simp; any_goals (with_reducible rfl)
            simp only [Act.put, List.getElem_toArray, List.getElem_cons_zero, List.getElem_cons_succ, List.setIfInBounds_toArray, List.set_cons_zero, List.set_cons_succ]
            refine heldO_take ?_ (by rfl) (by rfl) (by rfl) (fun w hSw => ?_) ?_
            rotate_left
            · (try dsimp only at hSw); (try simp only [List.getElem_toArray, List.getElem_cons_zero, List.getElem_cons_succ]); go_simp; any_goals (with_reducible rfl)
            simp only [Act.put, List.getElem_toArray, List.getElem_cons_zero, List.getElem_cons_succ, List.setIfInBounds_toArray, List.set_cons_zero, List.set_cons_succ]
            refine heldO_take ?_ (by rfl) (by rfl) (by rfl) (fun w hSw => ?_) ?_
            rotate_left
            · (try dsimp only at hSw); (try simp only [List.getElem_toArray, List.getElem_cons_zero, List.getElem_cons_succ]); go_simp; any_goals (with_reducible rfl)
            simp only [Act.put, List.getElem_toArray, List.getElem_cons_zero, List.getElem_cons_succ, List.setIfInBounds_toArray, List.set_cons_zero, List.set_cons_succ]
            refine heldO_take ?_ (by rfl) (by rfl) (by rfl) (fun w hSw => ?_) ?_
            rotate_left
            · (try dsimp only at hSw); (try simp only [List.getElem_toArray, List.getElem_cons_zero, List.getElem_cons_succ]); go_simp; any_goals (with_reducible rfl)
            simp only [Act.put, List.getElem_toArray, List.getElem_cons_zero, List.getElem_cons_succ, List.setIfInBounds_toArray, List.set_cons_zero, List.set_cons_succ]
            refine heldO_step (by rfl) (by rfl) (by rfl) (fun K hK => ?_)
            go_simp
            refine hK.out _ _ trivial (fun _ => ?_)
            clear hK K
            try simp only [Act.put, List.setIfInBounds_toArray, List.set_cons_zero, List.set_cons_succ]
            refine heldO_step (by rfl) (by rfl) (by rfl) (fun K hK => ?_)
            refine wp_push (.tmp 31) (.tmp 35) _ rfl 2 Tryz.underlying131 einfo_unit rfl (by exact HOA.out) (z, false) w2.drew.heap.size rfl (by exact HBN.out) (fun j hj => unitEnc_one _ j hj) (by omega) (by omega) hBq ?_
            intro g8 cap8 w8 own8 hm8 hat8 hlt8
            have HO8 := Lib.hid own8
            have HM8 : Hid (New w w8) := Lib.hid (HMA.out.step hm8 (fun i hi e => by have := HOF.out i e; omega))
            clear own8 hm8
            refine hK.out _ _ trivial (fun _ => ?_)
            clear hK K
            try simp only [Act.put, List.setIfInBounds_toArray, List.set_cons_zero, List.set_cons_succ]
            refine heldO_take ?_ (by rfl) (by rfl) (by rfl) (fun w hSw => ?_) ?_
            rotate_left
            · (try dsimp only at hSw); (try simp only [List.getElem_toArray, List.getElem_cons_zero, List.getElem_cons_succ]); go_simp; any_goals (with_reducible rfl)
            simp only [Act.put, List.getElem_toArray, List.getElem_cons_zero, List.getElem_cons_succ, List.setIfInBounds_toArray, List.set_cons_zero, List.set_cons_succ]
            refine heldO_nil ?_
            clear HOA HMA HBN hBq HO HM
            go_wp2_with fail
            go_roundw
            case rel => exact ⟨_, n + 1, cap8, some ⟨g8, 0, none⟩, us ++ [(z, false)], rfl, rfl, HU1, HO8, HM8⟩
            case measure => simp only [strLen, ByteArray.size_extract]; omega
      · have h37 : ((a.toNat : Int) != 37) = true := by
          simp only [bne_iff_ne, ne_eq]
          intro h
          exact ha (UInt8.toNat_inj.1 (by have : (37 : UInt8).toNat = 37 := rfl; omega))
        have HU1 : Hid (UnitsTo s.data.toList (u.extract 1 u.size).data.toList (us ++ [(a, true)])) := Lib.hid (by
          rw [ext_tail, HUR.out]
          have := HU.out
          rw [HUR.out] at this
          exact this.plain ha)
        clear ha
        go_upto_region 4 with fail
        have hBq : w.heap.size ≤ (wX.drew.alloc (.cells #[.int .u8 ((a).toNat : Int), .bool true] 135)).heap.size := by have := HM.out.size; simp; omega
        have hmA : New wX (wX.drew.alloc (.cells #[.int .u8 ((a).toNat : Int), .bool true] 135)) := (Mod.refl _ _).drew.alloc _
        have HOA := Lib.hid (HO.out.new hmA)
        have HMA : Hid (New w _) := Lib.hid (HM.out.trans hmA)
        have HBN := Lib.hid (Blk.new wX.drew 135 #[.int .u8 ((a).toNat : Int), .bool true])
        clear hmA
        refine wp_region_held_ord (fun _ => True) [4, 5] [0, 1, 2, 3, 6, 7, 4, 5, 8] (by kernel_rfl) (by kernel_rfl) (fun _ _ d _ _ h => by cases d <;> exact h) ?_ (fun hHeld => ?_)
        · exact trivial
        simp only [List.length_cons, List.length_nil, List.drop_succ_cons, List.drop_zero]
        refine heldO_take ?_ (by rfl) (by rfl) (by rfl) (fun w hSw => ?_) ?_
        rotate_left
        · (try dsimp only at hSw); (try simp only [List.getElem_toArray, List.getElem_cons_zero, List.getElem_cons_succ]); go_simp; any_goals (with_reducible rfl)
        simp only [Act.put, List.getElem_toArray, List.getElem_cons_zero, List.getElem_cons_succ, List.setIfInBounds_toArray, List.set_cons_zero, List.set_cons_succ]
        refine heldO_take ?_ (by rfl) (by rfl) (by rfl) (fun w hSw => ?_) ?_
        rotate_left
        · (try dsimp only at hSw); (try simp only [List.getElem_toArray, List.getElem_cons_zero, List.getElem_cons_succ]); go_simp; any_goals (with_reducible rfl)
        simp only [Act.put, List.getElem_toArray, List.getElem_cons_zero, List.getElem_cons_succ, List.setIfInBounds_toArray, List.set_cons_zero, List.set_cons_succ]
        refine heldO_take ?_ (by rfl) (by rfl) (by rfl) (fun w hSw => ?_) ?_
        rotate_left
        · (try dsimp only at hSw); (try simp only [List.getElem_toArray, List.getElem_cons_zero, List.getElem_cons_succ]); go_simp; any_goals (with_reducible rfl)
        simp only [Act.put, List.getElem_toArray, List.getElem_cons_zero, List.getElem_cons_succ, List.setIfInBounds_toArray, List.set_cons_zero, List.set_cons_succ]
        refine heldO_take ?_ (by rfl) (by rfl) (by rfl) (fun w hSw => ?_) ?_
        rotate_left
        · (try dsimp only at hSw); (try simp only [List.getElem_toArray, List.getElem_cons_zero, List.getElem_cons_succ]); go_simp; any_goals (with_reducible rfl)
        simp only [Act.put, List.getElem_toArray, List.getElem_cons_zero, List.getElem_cons_succ, List.setIfInBounds_toArray, List.set_cons_zero, List.set_cons_succ]
        refine heldO_take ?_ (by rfl) (by rfl) (by rfl) (fun w hSw => ?_) ?_
        rotate_left
        · (try dsimp only at hSw); (try simp only [List.getElem_toArray, List.getElem_cons_zero, List.getElem_cons_succ]); go_simp; any_goals (with_reducible rfl)
        simp only [Act.put, List.getElem_toArray, List.getElem_cons_zero, List.getElem_cons_succ, List.setIfInBounds_toArray, List.set_cons_zero, List.set_cons_succ]
        refine heldO_take ?_ (by rfl) (by rfl) (by rfl) (fun w hSw => ?_) ?_
        rotate_left
        · (try dsimp only at hSw); (try simp only [List.getElem_toArray, List.getElem_cons_zero, List.getElem_cons_succ]); go_simp; any_goals (with_reducible rfl)
        simp only [Act.put, List.getElem_toArray, List.getElem_cons_zero, List.getElem_cons_succ, List.setIfInBounds_toArray, List.set_cons_zero, List.set_cons_succ]
        refine heldO_step (by rfl) (by rfl) (by rfl) (fun K hK => ?_)
        go_simp
        refine hK.out _ _ trivial (fun _ => ?_)
        clear hK K
        try simp only [Act.put, List.setIfInBounds_toArray, List.set_cons_zero, List.set_cons_succ]
        refine heldO_step (by rfl) (by rfl) (by rfl) (fun K hK => ?_)
        refine wp_push (.tmp 12) (.tmp 16) _ rfl 2 Tryz.underlying131 einfo_unit rfl (by exact HOA.out) (a, true) wX.drew.heap.size rfl (by exact HBN.out) (fun j hj => unitEnc_one _ j hj) (by omega) (by omega) hBq ?_
        intro g8 cap8 w8 own8 hm8 hat8 hlt8
        have HO8 := Lib.hid own8
        have HM8 : Hid (New w w8) := Lib.hid (HMA.out.step hm8 (fun i hi e => by have := HOF.out i e; omega))
        clear own8 hm8
        refine hK.out _ _ trivial (fun _ => ?_)
        clear hK K
        try simp only [Act.put, List.setIfInBounds_toArray, List.set_cons_zero, List.set_cons_succ]
        refine heldO_take ?_ (by rfl) (by rfl) (by rfl) (fun w hSw => ?_) ?_
        rotate_left
        · (try dsimp only at hSw); (try simp only [List.getElem_toArray, List.getElem_cons_zero, List.getElem_cons_succ]); go_simp; any_goals (with_reducible rfl)
        simp only [Act.put, List.getElem_toArray, List.getElem_cons_zero, List.getElem_cons_succ, List.setIfInBounds_toArray, List.set_cons_zero, List.set_cons_succ]
        refine heldO_nil ?_
        clear HOA HMA HBN hBq HO HM
        go_wp2_with fail
        go_roundw
        case rel => exact ⟨_, n + 1, cap8, some ⟨g8, 0, none⟩, us ++ [(a, true)], rfl, rfl, HU1, HO8, HM8⟩
        case measure => simp only [strLen, ByteArray.size_extract]; omega

end Go.Proofs.YtjehlecgnepgmaaGreatDoor
