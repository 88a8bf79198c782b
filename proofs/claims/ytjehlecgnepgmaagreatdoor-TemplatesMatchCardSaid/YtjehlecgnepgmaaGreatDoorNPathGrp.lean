/- Several texts in one. (1) A path in its normal form (package message: NormalPath). Conditions: a text of modest size; the library's variable on searching is an int. (2) Segments written as a path (route.pathOf, gateref1.joined, message.JoinPath). Conditions: texts of modest size. (3) The segments of a path (package message: Segments). Conditions: a text of modest size; the library's variable on searching is an int. -/
import Derived.Test.YtjehlecgnepgmaaGreatDoorNorm
import Derived.Test.YtjehlecgnepgmaaGreatDoorMatLaw2
import Derived.Test.YtjehlecgnepgmaaGreatDoorTplM
import Derived.Test.YtjehlecgnepgmaaGreatDoorTplT1Grp
import Derived.Test.YtjehlecgnepgmaaGreatDoorRow

namespace Go.Proofs.YtjehlecgnepgmaaGreatDoor
open Go.RowKit
set_option linter.unusedVariables false
set_option linter.unusedSimpArgs false

theorem const_eq (x : ByteArray) (l : List UInt8) : (x.toList == l) = decide (x = ⟨l.toArray⟩) := by
  rw [Bool.eq_iff_iff, ByteArray.toList_eq]
  simp only [beq_iff_eq, decide_eq_true_eq]
  constructor
  · intro h
    exact ByteArray.ext (by rw [← h])
  · rintro rfl
    rfl
theorem dotsF_at {segs : List ByteArray} {k : Nat} (h : k < segs.length) (st : List ByteArray) :
    dotsF (segs.drop k) st = if segs[k] = dot1 then dotsF (segs.drop (k + 1)) (if decide (k + 1 = segs.length) then st ++ [emptyB] else st)
      else if segs[k] = dot2 then dotsF (segs.drop (k + 1)) (if decide (k + 1 = segs.length) then st.dropLast ++ [emptyB] else st.dropLast) else dotsF (segs.drop (k + 1)) (st ++ [segs[k]]) := by
  rw [List.drop_eq_getElem_cons h, dotsF]
  have : (segs.drop (k + 1)).isEmpty = decide (k + 1 = segs.length) := by
    rw [Bool.eq_iff_iff, List.isEmpty_iff, List.drop_eq_nil_iff, decide_eq_true_eq]
    omega
  rw [this]
theorem pathBad_ok {l : List UInt8} (h : pathBad l = 0) : l.length ≤ 1000 ∧ ∃ r, l = 47 :: r := by
  unfold pathBad at h
  split at h
  · cases h
  · rename_i h1
    split at h
    · cases h
    · rename_i h2
      refine ⟨by omega, ?_⟩
      cases l with
      | nil => simp [Lib.hasPrefix, List.isPrefixOf] at h2
      | cons a r =>
        simp [Lib.hasPrefix, List.isPrefixOf] at h2
        exact ⟨r, by rw [h2]⟩
theorem pieces_count {t : ByteArray} {Z : Nat} (h : t.size ≤ Z) : (pieces t slB).length ≤ Z + 1 := by
  rw [pieces_length (show 1 ≤ (slB : ByteArray).size from Nat.le_refl _)]
  have := Lib.countB_le slB (Nat.le_refl _) t.size t (Nat.le_refl _)
  omega
theorem strCs_at {segs : List ByteArray} {k : Nat} (h : k < segs.length) : segs.getD k ByteArray.empty = segs[k] := by
  rw [List.getD_eq_getElem?_getD, List.getElem?_eq_getElem h]; rfl
theorem extract_tail (l : List UInt8) : (⟨(47 :: l).toArray⟩ : ByteArray).extract 1 (⟨(47 :: l).toArray⟩ : ByteArray).size = ⟨l.toArray⟩ := by
  have h : ((⟨(47 :: l).toArray⟩ : ByteArray).extract 1 (⟨(47 :: l).toArray⟩ : ByteArray).size).data.toList = l := by
    rw [extract_data]
    show ((47 :: l).drop 1).take (List.toArray (47 :: l)).size.pred = l
    simp
  exact ByteArray.ext (Array.toList_inj.mp (by rw [h]))

/-- the dots carried out, however far: what Join is given -/
def DotsTo (segs : List ByteArray) (k : Nat) (st : List ByteArray) : Prop := dotsF segs [] = dotsF (segs.drop k) st ∧ st.length ≤ k ∧ ∀ y ∈ st, y.size ≤ 3000
set_option maxRecDepth 100000 in
set_option maxHeartbeats 1500000 in
theorem msg_normalPath (s : ByteArray) (w : World) (hs : s.size ≤ 100000) (hx : MaxLn w) :
    Calls Tryz.prog 85 #[.string s] w (RTxt (pathN s) w) := by
  have hpf := msg_pathFault s w (by omega)
  have hsl : s.data.toList.length = s.size := rfl
  by_cases hp : pathBad s.data.toList = 0
  rotate_left
  · have HQ : Hid (pathN s = (pathBad s.data.toList, [])) := Lib.hid (by unfold pathN; rw [if_pos hp])
    generalize pathBad s.data.toList = pb at *
    have hp' : ((pb : Int) != 0) = true := by simpa using hp
    clear hp
    go_enter Tryz.func85, Tryz.ntmps85
    go_wp2_with fail
    refine hpf.mono ?_
    clear hpf
    rintro e w1 ⟨rfl, hm⟩
    have HM := Lib.hid hm
    clear hm
    go_wp2_with fail
    go_ret2
    exact RTxt.fault HQ.out HM.out
  have hQ : pathN s = match normL s.data.toList with
      | none => (9, [])
      | some t => (0, slashed (dotsF (pieces ⟨(t.drop 1).toArray⟩ slB) [])) := by
    unfold pathN
    rw [if_neg (fun h => h hp)]
    cases normL s.data.toList <;> rfl
  obtain ⟨hl, r, hr⟩ := pathBad_ok hp
  rw [hp] at hpf
  clear hp
  have hnu := fun W => msg_normalUnits s W (by omega)
  cases hN : normL s.data.toList with
  | none =>
    rw [hN] at hQ
    have HQ : Hid (pathN s = (9, [])) := Lib.hid hQ
    rw [normV_none hN] at hnu
    have HNU := Lib.hid hnu
    clear hQ hN hr hnu hsl
    go_enter Tryz.func85, Tryz.ntmps85
    go_wp2_with fail
    refine hpf.mono ?_
    clear hpf
    rintro e w1 ⟨rfl, hm⟩
    go_wp2_with fail
    refine (HNU.out w1).mono ?_
    clear HNU
    rintro e w2 ⟨rfl, hm2⟩
    have HM := Lib.hid (hm.trans hm2)
    clear hm hm2
    go_wp2_with fail
    go_ret2
    exact RTxt.fault HQ.out HM.out
  | some t =>
    have htl := normL_length hN
    obtain ⟨t', rfl⟩ := normL_head hr hN
    rw [hN] at hQ
    simp only [List.drop_succ_cons, List.drop_zero] at hQ
    rw [normV_some hN] at hnu
    have hext := extract_tail t'
    have hU : (⟨t'.toArray⟩ : ByteArray).size ≤ 3000 := by
      show t'.toArray.size ≤ 3000
      simp only [List.length_cons] at htl
      simp only [List.size_toArray]
      omega
    have hZs : (⟨(47 :: t').toArray⟩ : ByteArray).size = t'.length + 1 := by
      show (List.toArray (47 :: t')).size = _
      simp
    have hZ1 : 1 ≤ (⟨(47 :: t').toArray⟩ : ByteArray).size := by omega
    clear hZs
    generalize (⟨(47 :: t').toArray⟩ : ByteArray) = Z at *
    generalize (⟨t'.toArray⟩ : ByteArray) = U at *
    have HNU := Lib.hid hnu
    have HX := Lib.hid hx
    have HQ := Lib.hid hQ
    have hZi : (1 : Int) ≤ (Z.size : Int) := by omega
    have hne := pieces_ne (t := U) (sep := slB) (Nat.le_refl _)
    have hpc := pieces_count hU
    have hpl := fun x (hx : x ∈ pieces U slB) => Nat.le_trans (pieces_le hx) hU
    have hsp := fun W (h : New w W) => split_any U 47 W (by omega) (HX.out.new h)
    have HSP := Lib.hid hsp
    clear hQ hN hr hnu hx hsp htl
    go_enter Tryz.func85, Tryz.ntmps85
    go_wp2_with fail
    refine hpf.mono ?_
    clear hpf
    rintro e w1 ⟨rfl, hm⟩
    go_wp2_with fail
    refine (HNU.out w1).mono ?_
    clear HNU
    rintro e w2 ⟨rfl, hm2⟩
    have hm02 := hm.trans hm2
    have hsp := HSP.out w2 hm02
    clear hm hm2 HSP
    go_wp2_with fail
    refine hsp.mono ?_
    clear hsp
    rintro e w3 ⟨rfl, rfl⟩
    have hmL : New w2 (w2.alloc (.cells (strCs (pieces U slB)) 9)) := (Mod.refl _ _).alloc _
    have hL := Blk.new w2 9 (strCs (pieces U slB))
    have HLW : Hid (w.heap.size ≤ w2.heap.size) := Lib.hid hm02.size
    have hz3 : w2.heap.size < (w2.alloc (.cells (strCs (pieces U slB)) 9)).heap.size := by simp
    have HM := Lib.hid (hm02.trans hmL)
    have HL := Lib.hid hL
    have HPL := Lib.hid hpl
    have HNE := Lib.hid hne
    clear hmL hL hm02 hext hpl hne
    generalize pieces U slB = segs at *
    generalize w2.alloc (.cells (strCs segs) 9) = w4 at *
    generalize w2.heap.size = L at *
    go_wp2_with fail
    go_loopw [6, 27] (fun o i wr => ∃ (k n c : Nat) (A : Option Addr) (st : List ByteArray), k ≤ segs.length ∧ i = .int .i64 k ∧ o = .slice A n c ∧ Hid (DotsTo segs k st) ∧ n ≤ k ∧ Hid (Own wr (L + 1) 9 1 sEnc A n c st) ∧ Hid (Blk wr L 9 (strCs segs)) ∧ Hid (New w wr)) (fun _ i _ => segs.length - (intOf i).toNat)
    case atStart => exact ⟨0, 0, 0, none, [], Nat.zero_le _, rfl, rfl, Lib.hid ⟨rfl, Nat.le_refl _, by simp⟩, Nat.le_refl _, Lib.hid Own.nil, HL, HM⟩
    case round =>
      clear HM HL
      rename World => wr
      obtain ⟨k, n, c, A, st, hk, rfl, rfl, HD, hnk, HO, HL, HM⟩ := hrel
      have HOF : Hid (∀ g', blkOf A = some g' → L + 1 ≤ g') := Lib.hid (fun g' e => HO.out.farS g' e)
      have hLr := HL.out.lt
      by_cases hlt : k < segs.length
      · have hce := strs_at HL.out k hlt
        rw [strCs_at hlt] at hce
        have hat := dotsF_at hlt st
        rw [← HD.out.1] at hat
        have hxz := HPL.out _ (List.getElem_mem hlt)
        have hb1 : (0 : Int) ≤ k := by omega
        have hb2 : (k : Int) < segs.length := by omega
        generalize segs[k] = x at *
        have e1 := const_eq x [46]
        have e2 := const_eq x [46, 46]
        by_cases hx1 : x = dot1
        · rw [if_pos hx1] at hat
          rw [decide_eq_true hx1] at e1
          by_cases hla : k + 1 = segs.length
          · have hla' : ((k : Int) == (segs.length : Int) - 1) = true := by simp; omega
            rw [if_pos (by simpa using hla)] at hat
            have HD1 : Hid (DotsTo segs (k + 1) (st ++ [emptyB])) := Lib.hid ⟨hat, by have := HD.out.2.1; simp; omega, fun y hy => by
              rcases List.mem_append.1 hy with h | h
              · exact HD.out.2.2 y h
              · simp at h; subst h; decide⟩
            clear hat hx1 e2 hla
            have hBq : L + 1 ≤ (wr.alloc (.cells #[.string (⟨#[]⟩ : ByteArray)] 9)).heap.size := by simp; omega
            have HOA := HO.out.alloc (.cells #[.string (⟨#[]⟩ : ByteArray)] 9)
            have hBn := Blk.new wr 9 #[.string (⟨#[]⟩ : ByteArray)]
            go_wp2_with (at_builtin; refine wpList_push rfl _ _ _ rfl 16 Tryz.underlying56 einfo_str rfl HOA (⟨#[]⟩ : ByteArray) wr.heap.size rfl hBn (fun j hj => sEnc_one _ j hj) (by omega) (by omega) hBq ?_; intro g8 cap8 w8 own8 hm8 hat8 hlt8)
            have HO8 := Lib.hid own8
            have HL8 := Lib.hid ((HL.out.new2 ((Mod.refl _ _).alloc (.cells #[.string (⟨#[]⟩ : ByteArray)] 9))).mod hm8 (fun e => by have := HOF.out L e; omega))
            have HM8 : Hid (New w w8) := Lib.hid ((HM.out.alloc (.cells #[.string (⟨#[]⟩ : ByteArray)] 9)).step hm8 (fun i hi e => by have := HOF.out i e; have := HLW.out; omega))
            clear own8 hm8
            go_roundw
            case rel => exact ⟨k + 1, _, cap8, some ⟨g8, 0, none⟩, _, by omega, by go_num, rfl, HD1, by omega, HO8, HL8, HM8⟩
            case measure => simp [intOf]; omega
          · have hla' : ((k : Int) == (segs.length : Int) - 1) = false := by simp; omega
            rw [if_neg (by simpa using hla)] at hat
            have HD1 : Hid (DotsTo segs (k + 1) st) := Lib.hid ⟨hat, by have := HD.out.2.1; omega, HD.out.2.2⟩
            clear hat hx1 e2 hla
            go_wp2_with fail
            go_roundw
            case rel => exact ⟨k + 1, n, c, A, st, by omega, by go_num, rfl, HD1, by omega, HO, HL, HM⟩
            case measure => simp [intOf]; omega
        · rw [if_neg hx1] at hat
          rw [decide_eq_false hx1] at e1
          by_cases hx2 : x = dot2
          · rw [if_pos hx2] at hat
            rw [decide_eq_true hx2] at e2
            clear hx1 hx2
            rcases HO.out.blk with ⟨rfl, rfl, rfl⟩ | ⟨g, rfl, hBg, htb⟩
            · have hst0 : st = [] := List.eq_nil_of_length_eq_zero HO.out.1
              subst hst0
              have hm0 : max (-1 : Int) 0 = 0 := by decide
              by_cases hla : k + 1 = segs.length
              · have hla' : ((k : Int) == (segs.length : Int) - 1) = true := by simp; omega
                rw [if_pos (by simpa using hla)] at hat
                have HD1 : Hid (DotsTo segs (k + 1) ([] ++ [emptyB])) := Lib.hid ⟨hat, by simp, fun y hy => by simp at hy; subst hy; decide⟩
                clear hla hat
                have hBq : L + 1 ≤ (wr.alloc (.cells #[.string (⟨#[]⟩ : ByteArray)] 9)).heap.size := by simp; omega
                have HOA := HO.out.alloc (.cells #[.string (⟨#[]⟩ : ByteArray)] 9)
                have hBn := Blk.new wr 9 #[.string (⟨#[]⟩ : ByteArray)]
                go_wp2_with (at_builtin; refine wpList_push rfl _ _ _ rfl 16 Tryz.underlying56 einfo_str rfl HOA (⟨#[]⟩ : ByteArray) wr.heap.size rfl hBn (fun j hj => sEnc_one _ j hj) (by omega) (by omega) hBq ?_; intro g8 cap8 w8 own8 hm8 hat8 hlt8)
                have HO8 := Lib.hid own8
                have HL8 := Lib.hid ((HL.out.new2 ((Mod.refl _ _).alloc (.cells #[.string (⟨#[]⟩ : ByteArray)] 9))).mod hm8 (fun e => by have := HOF.out L e; omega))
                have HM8 : Hid (New w w8) := Lib.hid ((HM.out.alloc (.cells #[.string (⟨#[]⟩ : ByteArray)] 9)).step hm8 (fun i hi e => by have := HOF.out i e; have := HLW.out; omega))
                clear own8 hm8
                go_roundw
                case rel => exact ⟨k + 1, _, cap8, some ⟨g8, 0, none⟩, _, by omega, by go_num, rfl, HD1, by omega, HO8, HL8, HM8⟩
                case measure => simp [intOf]; omega
              · have hla' : ((k : Int) == (segs.length : Int) - 1) = false := by simp; omega
                rw [if_neg (by simpa using hla)] at hat
                have HD1 : Hid (DotsTo segs (k + 1) []) := Lib.hid ⟨hat, by simp, by simp⟩
                clear hla hat
                go_wp2_with fail
                go_roundw
                case rel => exact ⟨k + 1, 0, 0, none, [], by omega, by go_num, rfl, HD1, by omega, HO, HL, HM⟩
                case measure => simp [intOf]; omega
            · have hmx : max ((n : Int) - 1) 0 = ((n - 1 : Nat) : Int) := by omega
              obtain ⟨n1, hn1⟩ : ∃ n1 : Nat, n1 = n - 1 := ⟨_, rfl⟩
              rw [← hn1] at hmx
              have hn1l : n1 ≤ n := by omega
              have hc1 : n1 ≤ c := by have := HO.out.row; obtain ⟨cur, _, _, h5, _⟩ := this; omega
              have htk : st.take n1 = st.dropLast := by rw [List.dropLast_eq_take, HO.out.1, hn1]
              have HO1 := Lib.hid (HO.out.cut hn1l)
              rw [htk] at HO1
              have HSZ : Hid (∀ y ∈ st.dropLast, y.size ≤ 3000) := Lib.hid (fun y hy => HD.out.2.2 y (List.dropLast_subset st hy))
              have HLN : Hid (st.dropLast.length ≤ k) := Lib.hid (by have := HD.out.2.1; rw [List.length_dropLast]; omega)
              clear hn1 htk HO
              have HO := HO1
              clear HO1
              by_cases hla : k + 1 = segs.length
              · have hla' : ((k : Int) == (segs.length : Int) - 1) = true := by simp; omega
                rw [if_pos (by simpa using hla)] at hat
                have HD1 : Hid (DotsTo segs (k + 1) (st.dropLast ++ [emptyB])) := Lib.hid ⟨hat, by have := HLN.out; rw [List.length_append, List.length_singleton]; omega, fun y hy => by
                  rcases List.mem_append.1 hy with h | h
                  · exact HSZ.out y h
                  · simp at h; subst h; decide⟩
                clear hla hat
                have hBq : L + 1 ≤ (wr.alloc (.cells #[.string (⟨#[]⟩ : ByteArray)] 9)).heap.size := by simp; omega
                have HOA := HO.out.alloc (.cells #[.string (⟨#[]⟩ : ByteArray)] 9)
                have hBn := Blk.new wr 9 #[.string (⟨#[]⟩ : ByteArray)]
                go_wp2_with (at_builtin; refine wpList_push rfl _ _ _ rfl 16 Tryz.underlying56 einfo_str rfl HOA (⟨#[]⟩ : ByteArray) wr.heap.size rfl hBn (fun j hj => sEnc_one _ j hj) (by omega) (by omega) hBq ?_; intro g8 cap8 w8 own8 hm8 hat8 hlt8)
                have HO8 := Lib.hid own8
                have HL8 := Lib.hid ((HL.out.new2 ((Mod.refl _ _).alloc (.cells #[.string (⟨#[]⟩ : ByteArray)] 9))).mod hm8 (fun e => by have := HOF.out L e; omega))
                have HM8 : Hid (New w w8) := Lib.hid ((HM.out.alloc (.cells #[.string (⟨#[]⟩ : ByteArray)] 9)).step hm8 (fun i hi e => by have := HOF.out i e; have := HLW.out; omega))
                clear own8 hm8
                go_roundw
                case rel => exact ⟨k + 1, _, cap8, some ⟨g8, 0, none⟩, _, by omega, by go_num, rfl, HD1, by omega, HO8, HL8, HM8⟩
                case measure => simp [intOf]; omega
              · have hla' : ((k : Int) == (segs.length : Int) - 1) = false := by simp; omega
                rw [if_neg (by simpa using hla)] at hat
                have HD1 : Hid (DotsTo segs (k + 1) st.dropLast) := Lib.hid ⟨hat, by have := HLN.out; omega, HSZ.out⟩
                clear hla hat
                go_wp2_with fail
                go_roundw
                case rel => exact ⟨k + 1, n1, c, some ⟨g, 0, none⟩, st.dropLast, by omega, by go_num, rfl, HD1, by omega, HO, HL, HM⟩
                case measure => simp [intOf]; omega
          · rw [if_neg hx2] at hat
            rw [decide_eq_false hx2] at e2
            have HD1 : Hid (DotsTo segs (k + 1) (st ++ [x])) := Lib.hid ⟨hat, by have := HD.out.2.1; simp; omega, fun y hy => by
              rcases List.mem_append.1 hy with h | h
              · exact HD.out.2.2 y h
              · simp at h; subst h; exact hxz⟩
            clear hat hx1 hx2
            have hBq : L + 1 ≤ (wr.alloc (.cells #[.string x] 9)).heap.size := by simp; omega
            have HOA := HO.out.alloc (.cells #[.string x] 9)
            have hBn := Blk.new wr 9 #[.string x]
            go_wp2_with (at_builtin; refine wpList_push rfl _ _ _ rfl 16 Tryz.underlying56 einfo_str rfl HOA x wr.heap.size rfl hBn (fun j hj => sEnc_one _ j hj) (by omega) (by omega) hBq ?_; intro g8 cap8 w8 own8 hm8 hat8 hlt8)
            have HO8 := Lib.hid own8
            have HL8 := Lib.hid ((HL.out.new2 ((Mod.refl _ _).alloc (.cells #[.string x] 9))).mod hm8 (fun e => by have := HOF.out L e; omega))
            have HM8 : Hid (New w w8) := Lib.hid ((HM.out.alloc (.cells #[.string x] 9)).step hm8 (fun i hi e => by have := HOF.out i e; have := HLW.out; omega))
            clear own8 hm8
            go_roundw
            case rel => exact ⟨k + 1, _, cap8, some ⟨g8, 0, none⟩, _, by omega, by go_num, rfl, HD1, by omega, HO8, HL8, HM8⟩
            case measure => simp [intOf]; omega
      · obtain rfl : k = segs.length := by omega
        have HQ1 : Hid (pathN s = (0, slashed st)) := Lib.hid (by rw [HQ.out, HD.out.1, List.drop_length]; rfl)
        have hn3 : n ≤ 3001 := by omega
        by_cases h0 : n = 0
        · subst h0
          have hst0 : st = [] := List.eq_nil_of_length_eq_zero HO.out.1
          subst hst0
          have hj0 := Tryz.strings_Join_none A c ⟨#[47]⟩ wr
          go_wp2_with (first | (refine hj0.mono ?_; clear hj0; rintro e w3 ⟨rfl, hw⟩; rw [hw]; clear hw))
          go_ret2
          exact ⟨by rw [HQ1.out]; rfl, HM.out⟩
        · rcases HO.out.blk with ⟨_, h1, _⟩ | ⟨g', rfl, hB, htb⟩
          · exact absurd h1 h0
          · obtain ⟨g2, o2, hA, htb2, hc⟩ := HO.out.sl.2 (by omega)
            injection hA with hA
            injection hA with q1 q2 q3
            subst q1 q2
            have hyl := HO.out.1
            have hle : (Lib.join (st.map (·.data.toList)) [47]).length ≤ n * 3001 := by
              have := join_le [47] 3000 (st.map (·.data.toList)) (fun x hx => by
                obtain ⟨y, hy, rfl⟩ := List.mem_map.1 hx
                exact HD.out.2.2 y hy)
              rw [List.length_map, hyl] at this
              exact this
            have hmul : n * 3001 ≤ 3001 * 3001 := Nat.mul_le_mul (by omega) (by omega)
            have hcap : n ≤ c := by
              obtain ⟨_, _, _, _, h5, _⟩ := HO.out.form (by omega)
              exact h5
            have hjn := Tryz.strings_Join g' 0 c st ⟨#[47]⟩ wr (fun i x hx => by
              have hi : i < st.length := by
                rcases Nat.lt_or_ge i st.length with h | h
                · exact h
                · rw [List.getElem?_eq_none h] at hx; cases hx
              rw [List.getElem?_eq_getElem hi] at hx
              injection hx with hx
              subst hx
              have := hc i hi 0 (by decide)
              rw [show 0 + i * 1 + 0 = 0 + i by omega] at this
              exact this) htb.lt (by omega) (by omega) (Nat.le_trans hle (by omega))
            rw [hyl, show (⟨#[47]⟩ : ByteArray).data.toList = [47] from rfl] at hjn
            have hJz : (⟨(Lib.join (st.map (·.data.toList)) [47]).toArray⟩ : ByteArray).size ≤ 10000000 := by show (List.toArray _).size ≤ _; rw [List.size_toArray]; omega
            have hJl : (⟨(Lib.join (st.map (·.data.toList)) [47]).toArray⟩ : ByteArray).data.toList = Lib.join (st.map (·.data.toList)) [47] := rfl
            have HF : Hid ((⟨#[47]⟩ : ByteArray) ++ ⟨(Lib.join (st.map (·.data.toList)) [47]).toArray⟩ = ⟨(slashed st).toArray⟩) := Lib.hid (by
              rw [← mkList ((⟨#[47]⟩ : ByteArray) ++ ⟨(Lib.join (st.map (·.data.toList)) [47]).toArray⟩), cat_list]
              rfl)
            clear hJl hle hmul
            generalize (⟨(Lib.join (st.map (·.data.toList)) [47]).toArray⟩ : ByteArray) = J at *
            have e1 : (⟨#[47]⟩ : ByteArray).size = 1 := rfl
            have hadd : ¬ 9223372036854775807 < (⟨#[47]⟩ : ByteArray).size + J.size := by omega
            have HJN := Lib.hid hjn
            clear hc htb htb2 hjn hyl
            go_wp2_with fail
            refine HJN.out.mono ?_
            clear HJN
            rintro e w3 ⟨rfl, hm3⟩
            have HM3 := Lib.hid (HM.out.trans (Mod.of_below hm3))
            clear hm3 HM
            go_wp2_with fail
            go_ret2
            exact ⟨by rw [HQ1.out, ← HF.out]; rfl, HM3.out⟩

end Go.Proofs.YtjehlecgnepgmaaGreatDoor

namespace Go.Proofs.YtjehlecgnepgmaaGreatDoor
open Go.RowKit
set_option linter.unusedVariables false
set_option linter.unusedSimpArgs false

abbrev SSl (w : World) (A : Option Addr) (n : Nat) (l : List ByteArray) : Prop := Sl w 9 1 sEnc A n l
theorem pathT_take {l : List ByteArray} {k : Nat} (h : k < l.length) : pathT (l.take (k + 1)) = pathT (l.take k) ++ (47 :: segL l[k].data.toList) := by
  unfold pathT
  rw [List.take_succ_eq_append_getElem h, List.flatMap_append]
  simp
theorem pathT_le (l : List ByteArray) (k : Nat) : (pathT (l.take k)).length ≤ (pathT l).length := by
  have : pathT l = pathT (l.take k) ++ pathT (l.drop k) := by
    unfold pathT
    rw [← List.flatMap_append, List.take_append_drop]
  rw [this, List.length_append]
  omega
theorem pathT_ge (l : List ByteArray) : l.length ≤ (pathT l).length := by
  induction l with
  | nil => simp
  | cons x l ih => unfold pathT at ih ⊢; rw [List.flatMap_cons, List.length_append, List.length_cons, List.length_cons]; omega
/-- of modest size: what is written, and each segment -/
structure PFit (l : List ByteArray) : Prop where
  t : (pathT l).length ≤ 100000
  x : ∀ x ∈ l, x.size ≤ 30000

set_option maxRecDepth 100000 in
set_option maxHeartbeats 1500000 in
theorem route_pathOf (A : Option Addr) (n c : Nat) (l : List ByteArray) (w : World) (hs : SSl w A n l) (hf : PFit l) :
    Calls Tryz.prog 87 #[.slice A n c] w fun e w' => e = .returned (.string ⟨(pathT l).toArray⟩) ∧ New w w' := by
  have HL := Lib.hid hs.1
  have hn : n ≤ 100000 := by have h1 := pathT_ge l; have h2 := hf.t; have h3 := hs.1; omega
  have hb0 := Blk.new w 69 #[.pointer none, .slice none 0 0]
  have hm0 : New w (w.alloc (.cells #[.pointer none, .slice none 0 0] 69)) := (Mod.refl _ _).alloc _
  have HS := Lib.hid hs
  have HF := Lib.hid hf
  clear hs hf
  go_enter Tryz.func87, Tryz.ntmps87
  go_upto_region 2 with (fail)
  generalize w.alloc (.cells #[.pointer none, .slice none 0 0] 69) = w1 at *
  generalize hbe : w.heap.size = B at *
  have HB := Lib.hid (Bw.fresh hb0 (Nat.le_refl _))
  have HM := Lib.hid hm0
  have HBE := Lib.hid hbe
  clear hb0 hm0 hbe
  go_wp2_with fail
  go_loopw [8] (fun i wr => ∃ k : Nat, k ≤ n ∧ i = .int .i64 k ∧ Hid (Bw 69 B B (pathT (l.take k)) wr) ∧ Hid (New w wr)) (fun i _ => n - (intOf i).toNat)
  case atStart => exact ⟨0, Nat.zero_le _, rfl, HB, HM⟩
  case round =>
    clear HB HM
    rename World => wr
    obtain ⟨k, hk, rfl, HB, HM⟩ := hrel
    by_cases hlt : k < n
    · have hkl : k < l.length := by have := HL.out; omega
      obtain ⟨g, o, hA, ht, hc⟩ := (HS.out.new HM.out).2 (by omega)
      subst hA
      have a0 := hc k hkl 0 (by omega)
      have hst := pathT_take hkl
      have hle := pathT_le l (k + 1)
      rw [hst] at hle
      have hft := HF.out.t
      have hxz := HF.out.x _ (List.getElem_mem hkl)
      have hgl := ht.lt
      have hb1 : (0 : Int) ≤ k := by omega
      have hb2 : (k : Int) < n := by omega
      simp only [sEnc, Nat.mul_one, Nat.add_zero] at a0
      clear hc ht
      generalize l[k] = x at *
      have hsl := segL_length x.data.toList
      have hxl : x.data.toList.length = x.size := rfl
      have hHT : Hid ((⟨(segL x.data.toList).toArray⟩ : ByteArray).data.toList = segL x.data.toList) := Lib.hid rfl
      have hTs : (⟨(segL x.data.toList).toArray⟩ : ByteArray).size = (segL x.data.toList).length := by show (List.toArray _).size = _; simp
      rw [List.length_append, List.length_cons] at hle
      have hsg := fun W => msg_segment x W (by omega)
      generalize (⟨(segL x.data.toList).toArray⟩ : ByteArray) = T at *
      have e1 : (⟨#[47]⟩ : ByteArray).size = 1 := rfl
      have hadd : ¬ 9223372036854775807 < (⟨#[47]⟩ : ByteArray).size + T.size := by omega
      have hsg := hsg wr
      have hTs' : T.size ≤ 100000 := by omega
      have HTS := Lib.hid hTs
      have HST := Lib.hid hst
      have HLE := Lib.hid hle
      clear hTs hst hle hsl hxl hft
      go_upto_region 5 with fail
      go_wp2_with fail
      refine hsg.mono ?_
      clear hsg
      rintro e w4 ⟨rfl, hm4⟩
      have HM4 : Hid (New w w4) := Lib.hid (HM.out.trans hm4)
      have HB4 := Lib.hid (HB.out.new hm4)
      clear hm4 HM HB
      have HM := HM4
      have HB := HB4
      clear HM4 HB4
      go_wp2_with fail
      have hTs := HTS.out
      have hst := HST.out
      have hle := HLE.out
      have hft := HF.out.t
      obtain ⟨U, hU⟩ : ∃ U : ByteArray, U = (⟨#[47]⟩ : ByteArray) ++ T := ⟨_, rfl⟩
      have HUL : Hid (U.data.toList = 47 :: segL x.data.toList) := Lib.hid (by rw [hU, cat_list, hHT.out]; rfl)
      rw [← hU]
      have hUz : U.size = (segL x.data.toList).length + 1 := by rw [hU, ByteArray.size_append]; show 1 + T.size = _; omega
      have hwr := bw_string buT_self B B (pathT (l.take k)) U _ HB.out (by omega)
      clear hU hUz
      refine hwr.mono ?_
      clear hwr
      rintro e w5 ⟨rfl, hb5, hm5, -⟩
      have HM5 := Lib.hid (HM.out.from hm5 (Nat.le_of_eq HBE.out))
      have HB5 : Hid (Bw 69 B B (pathT (l.take (k + 1))) w5) := Lib.hid (by rw [hst, ← HUL.out]; exact hb5)
      clear hb5 hm5 HB HM hst hle hTs
      go_wp2_with fail
      go_roundw
      case rel => exact ⟨k + 1, by omega, by go_num, HB5, HM5⟩
      case measure => simp [intOf]; omega
    · obtain rfl : k = n := by omega
      have HT : Hid (l.take k = l) := Lib.hid (List.take_of_length_le (by have := HL.out; omega))
      have hst := bw_any B B _ wr HB.out
      go_wp2_with (first | (refine hst.mono ?_; clear hst; rintro e w5 ⟨rfl, hm5⟩; have HM5 := Lib.hid (HM.out.from hm5 (Nat.le_of_eq HBE.out)); clear hm5))
      go_ret
      exact ⟨by rw [HT.out]; rfl, HM5.out⟩

set_option maxRecDepth 100000 in
set_option maxHeartbeats 1500000 in
theorem ref1_joined (A : Option Addr) (n c : Nat) (l : List ByteArray) (w : World) (hs : SSl w A n l) (hf : PFit l) :
    Calls Tryz.prog 90 #[.slice A n c] w fun e w' => e = .returned (.string ⟨(pathT l).toArray⟩) ∧ New w w' := by
  have HL := Lib.hid hs.1
  have hn : n ≤ 100000 := by have h1 := pathT_ge l; have h2 := hf.t; have h3 := hs.1; omega
  have HS := Lib.hid hs
  have HF := Lib.hid hf
  clear hs hf
  go_enter Tryz.func90, Tryz.ntmps90
  go_wp2_with fail
  go_loopw [3, 8] (fun o i wr => ∃ (k : Nat) (out : ByteArray), k ≤ n ∧ i = .int .i64 k ∧ o = .string out ∧ Hid (out.data.toList = pathT (l.take k)) ∧ Hid (New w wr)) (fun _ i _ => n - (intOf i).toNat)
  case atStart => exact ⟨0, ⟨#[]⟩, Nat.zero_le _, rfl, rfl, Lib.hid rfl, Lib.hid (Mod.refl _ _)⟩
  case round =>
    rename World => wr
    obtain ⟨k, out, hk, rfl, rfl, HO, HM⟩ := hrel
    by_cases hlt : k < n
    · have hkl : k < l.length := by have := HL.out; omega
      obtain ⟨g, o, hA, ht, hc⟩ := (HS.out.new HM.out).2 (by omega)
      subst hA
      have a0 := hc k hkl 0 (by omega)
      have hst := pathT_take hkl
      have hle := pathT_le l (k + 1)
      rw [hst] at hle
      have hft := HF.out.t
      have hxz := HF.out.x _ (List.getElem_mem hkl)
      have hgl := ht.lt
      have hb1 : (0 : Int) ≤ k := by omega
      have hb2 : (k : Int) < n := by omega
      simp only [sEnc, Nat.mul_one, Nat.add_zero] at a0
      clear hc ht
      generalize l[k] = x at *
      have hsl := segL_length x.data.toList
      have hxl : x.data.toList.length = x.size := rfl
      have hHT : Hid ((⟨(segL x.data.toList).toArray⟩ : ByteArray).data.toList = segL x.data.toList) := Lib.hid rfl
      have hTs : (⟨(segL x.data.toList).toArray⟩ : ByteArray).size = (segL x.data.toList).length := by show (List.toArray _).size = _; simp
      rw [List.length_append, List.length_cons] at hle
      have hsg := fun W => ref_segmentText x W (by omega)
      generalize (⟨(segL x.data.toList).toArray⟩ : ByteArray) = T at *
      have e1 : (⟨#[47]⟩ : ByteArray).size = 1 := rfl
      have hadd : ¬ 9223372036854775807 < (⟨#[47]⟩ : ByteArray).size + T.size := by omega
      have hoz : out.size = (pathT (l.take k)).length := by rw [← HO.out]; rfl
      have hadd2 : ¬ 9223372036854775807 < out.size + ((⟨#[47]⟩ : ByteArray) ++ T).size := by rw [ByteArray.size_append]; omega
      have HO1 : Hid ((out ++ ((⟨#[47]⟩ : ByteArray) ++ T)).data.toList = pathT (l.take (k + 1))) := Lib.hid (by rw [cat_list, cat_list, HO.out, hst, hHT.out]; rfl)
      have hsg := hsg wr
      clear hTs hst hle hsl hxl hft hoz HO
      go_upto_region 5 with fail
      go_wp2_with fail
      refine hsg.mono ?_
      clear hsg
      rintro e w4 ⟨rfl, hm4⟩
      have HM4 : Hid (New w w4) := Lib.hid (HM.out.trans hm4)
      clear hm4 HM
      go_wp2_with fail
      go_roundw
      case rel => exact ⟨k + 1, _, by omega, by go_num, rfl, HO1, HM4⟩
      case measure => simp [intOf]; omega
    · obtain rfl : k = n := by omega
      have HT : Hid (out = ⟨(pathT l).toArray⟩) := Lib.hid (by
        have h := HO.out
        rw [List.take_of_length_le (by have := HL.out; omega)] at h
        rw [← h, mkList])
      go_wp2_with fail
      go_ret
      exact ⟨by rw [← HT.out]; rfl, HM.out⟩

end Go.Proofs.YtjehlecgnepgmaaGreatDoor

namespace Go.Proofs.YtjehlecgnepgmaaGreatDoor
open Go.RowKit
set_option linter.unusedVariables false
set_option linter.unusedSimpArgs false

/-- an error and strings handed back -/
def RSegs (q : Int × List ByteArray) (w : World) (e : Ending) (w' : World) : Prop := ∃ A n c, e = .returned (.tuple #[.slice A n c, .int .i64 q.1]) ∧ SSl w' A n q.2 ∧ New w w' ∧ n ≤ c
theorem RSegs.fault {q : Int × List ByteArray} {w w' : World} {x : Int} (h : q = (x, [])) (hm : New w w') : RSegs q w (.returned (.tuple #[.slice none 0 0, .int .i64 x])) w' :=
  ⟨none, 0, 0, by rw [h], by rw [h]; exact Sl.nil, hm, Nat.le_refl _⟩
theorem pathN_small {s : ByteArray} (h : (pathN s).1 = 0) : s.size ≤ 1000 := by
  unfold pathN at h
  split at h
  · rename_i h1; exact absurd h h1
  · rename_i h1
    exact (pathBad_ok (Decidable.not_not.1 h1)).1
theorem segs_ok {s : ByteArray} (h : (segsOf s).1 = 0) : (segsOf s).2.length ≤ 100 ∧ wtL (segsOf s).2 ≤ 3002 := by
  unfold segsOf at h ⊢
  split at h
  · rename_i h1; exact absurd h h1
  · rename_i h1
    rw [if_neg h1]
    have h0 := Decidable.not_not.1 h1
    obtain ⟨t, ht, hl⟩ := pathN_ok h0 (pathN_small h0)
    split at h
    · cases h
    · rename_i h2
      rw [if_neg h2]
      refine ⟨by rw [List.length_map]; omega, ?_⟩
      simp only
      rw [ht, List.drop_succ_cons, List.drop_zero]
      have h3 := decB_wt (pieces ⟨t.toArray⟩ slB)
      have h4 := pieces_wt _ (⟨t.toArray⟩ : ByteArray) (Nat.le_refl _)
      have h5 : (⟨t.toArray⟩ : ByteArray).size = t.length := by show (List.toArray _).size = _; simp
      omega
theorem PFit.of_wt {l : List ByteArray} {z : Nat} (h : wtL l ≤ z) (hz : z ≤ 30000) : PFit l := ⟨by have := pathT_wt l; omega, fun x hx => by have := wtL_mem hx; omega⟩

/-- the first k are decoded -/
def mixL (segs : List ByteArray) (k : Nat) : List ByteArray := (segs.take k).map decB ++ segs.drop k
theorem mixL_zero (segs : List ByteArray) : mixL segs 0 = segs := by simp [mixL]
theorem mixL_all (segs : List ByteArray) : mixL segs segs.length = segs.map decB := by simp [mixL]
theorem mixL_length (segs : List ByteArray) (k : Nat) (h : k ≤ segs.length) : (mixL segs k).length = segs.length := by
  simp only [mixL, List.length_append, List.length_map, List.length_take, List.length_drop]; omega
theorem mixL_get {segs : List ByteArray} {k : Nat} (h : k < segs.length) : (mixL segs k).getD k ByteArray.empty = segs[k] := by
  unfold mixL
  rw [List.getD_eq_getElem?_getD, List.getElem?_append_right (by rw [List.length_map, List.length_take]; omega), List.length_map, List.length_take, Nat.min_eq_left (by omega), Nat.sub_self, List.getElem?_drop, Nat.add_zero, List.getElem?_eq_getElem h]
  rfl
theorem mixL_set {segs : List ByteArray} {k : Nat} (h : k < segs.length) : (mixL segs k).set k (decB segs[k]) = mixL segs (k + 1) := by
  unfold mixL
  have hl : ((segs.take k).map decB).length = k := by rw [List.length_map, List.length_take]; omega
  rw [List.set_append_right _ _ (by omega), hl, Nat.sub_self, List.drop_eq_getElem_cons h, List.set_cons_zero, List.take_succ_eq_append_getElem h, List.map_append]
  simp
theorem strCs_set {segs : List ByteArray} {k : Nat} (h : k < segs.length) : (strCs (mixL segs k)).setIfInBounds k (.string (decB segs[k])) = strCs (mixL segs (k + 1)) := by
  unfold strCs
  rw [List.setIfInBounds_toArray, ← mixL_set h, List.map_set]
theorem decV_eq (x : ByteArray) : decV x.data.toList = .tuple #[.string (decB x), .bool (decL x.data.toList).isSome] := by
  unfold decV decB
  cases decL x.data.toList <;> rfl
set_option maxRecDepth 100000 in
set_option maxHeartbeats 1500000 in
theorem msg_segments (s : ByteArray) (w : World) (hs : s.size ≤ 100000) (hx : MaxLn w) :
    Calls Tryz.prog 45 #[.string s] w (RSegs (segsOf s) w) := by
  have hp := msg_normalPath s w hs hx
  by_cases h0 : (pathN s).1 = 0
  rotate_left
  · have HQ : Hid (segsOf s = ((pathN s).1, [])) := Lib.hid (by unfold segsOf; rw [if_pos h0])
    generalize pathN s = q at *
    obtain ⟨q1, q2⟩ := q
    simp only at h0 HQ
    have h0' : ((q1 : Int) != 0) = true := by simpa using h0
    clear h0
    go_enter Tryz.func45, Tryz.ntmps45
    go_wp2_with fail
    refine hp.mono ?_
    clear hp
    rintro e w1 ⟨rfl, hm⟩
    have HM := Lib.hid hm
    clear hm
    simp only
    go_wp2_with fail
    go_ret2
    exact RSegs.fault HQ.out HM.out
  obtain ⟨t, ht, htl⟩ := pathN_ok h0 (pathN_small h0)
  have hQ : segsOf s = if 100 < (pieces ⟨t.toArray⟩ slB).length then (2, []) else (0, (pieces ⟨t.toArray⟩ slB).map decB) := by
    unfold segsOf
    rw [if_neg (fun h => h h0), ht]
    rfl
  unfold RTxt at hp
  rw [h0, ht] at hp
  have hext := extract_tail t
  have hU : (⟨t.toArray⟩ : ByteArray).size ≤ 3001 := by
    show t.toArray.size ≤ 3001
    simp only [List.size_toArray]
    omega
  have hZ1 : 1 ≤ (⟨(47 :: t).toArray⟩ : ByteArray).size := by
    show 1 ≤ (List.toArray (47 :: t)).size
    simp
  clear h0 ht htl
  generalize (⟨(47 :: t).toArray⟩ : ByteArray) = Z at *
  generalize (⟨t.toArray⟩ : ByteArray) = U at *
  have hZi : (1 : Int) ≤ (Z.size : Int) := by omega
  have hpc := pieces_count hU
  have hpl := fun x (hx : x ∈ pieces U slB) => Nat.le_trans (pieces_le hx) hU
  have HX := Lib.hid hx
  have hsp := fun W (h : New w W) => split_any U 47 W (by omega) (HX.out.new h)
  have HSP := Lib.hid hsp
  have HPL := Lib.hid hpl
  have HQ := Lib.hid hQ
  clear hsp hpl hQ hx
  go_enter Tryz.func45, Tryz.ntmps45
  go_wp2_with fail
  refine hp.mono ?_
  clear hp
  rintro e w2 ⟨rfl, hm2⟩
  have hsp := HSP.out w2 hm2
  clear HSP
  go_wp2_with fail
  refine hsp.mono ?_
  clear hsp
  rintro e w3 ⟨rfl, rfl⟩
  have hmL : New w2 (w2.alloc (.cells (strCs (pieces U slB)) 9)) := (Mod.refl _ _).alloc _
  have hL := Blk.new w2 9 (strCs (pieces U slB))
  have HLW : Hid (w.heap.size ≤ w2.heap.size) := Lib.hid hm2.size
  have HM := Lib.hid (hm2.trans hmL)
  have HL := Lib.hid hL
  clear hmL hL hm2 hext
  generalize pieces U slB = segs at *
  generalize w2.alloc (.cells (strCs segs) 9) = w4 at *
  generalize w2.heap.size = L at *
  by_cases h100 : 100 < segs.length
  · have h100' : (100 : Int) < (segs.length : Int) := by omega
    have HQ1 : Hid (segsOf s = (2, [])) := Lib.hid (by rw [HQ.out, if_pos h100])
    go_wp2_with fail
    go_ret2
    exact RSegs.fault HQ1.out HM.out
  · have h100' : ¬ (100 : Int) < (segs.length : Int) := by omega
    have HQ1 : Hid (segsOf s = (0, segs.map decB)) := Lib.hid (by rw [HQ.out, if_neg h100])
    have HL0 : Hid (Blk w4 L 9 (strCs (mixL segs 0))) := Lib.hid (by rw [mixL_zero]; exact HL.out)
    clear HQ HL
    go_wp2_with fail
    go_loopw [25] (fun i wr => ∃ k : Nat, k ≤ segs.length ∧ i = .int .i64 k ∧ Hid (Blk wr L 9 (strCs (mixL segs k))) ∧ Hid (New w wr)) (fun i _ => segs.length - (intOf i).toNat)
    case atStart => exact ⟨0, Nat.zero_le _, rfl, HL0, HM⟩
    case round =>
      clear HL0 HM
      rename World => wr
      obtain ⟨k, hk, rfl, HL, HM⟩ := hrel
      have hLr := HL.out.lt
      by_cases hlt : k < segs.length
      · have hce := strs_at HL.out k (by rw [mixL_length _ _ hk]; exact hlt)
        rw [mixL_get hlt] at hce
        have hst := strCs_set hlt
        have hxz := HPL.out _ (List.getElem_mem hlt)
        have hb1 : (0 : Int) ≤ k := by omega
        have hb2 : (k : Int) < segs.length := by omega
        generalize segs[k] = x at *
        have hdc := msg_decoded x wr (by omega)
        rw [decV_eq] at hdc
        have HST := Lib.hid hst
        clear hst
        generalize decB x = y at *
        go_wp2_with fail
        refine hdc.mono ?_
        clear hdc
        rintro e w5 ⟨rfl, hm5⟩
        have HL5 := Lib.hid (HL.out.new2 hm5)
        have HM5 := Lib.hid (HM.out.trans hm5)
        have hc5 : w5.cell? ⟨L, k, none⟩ = some (.string x) := by rw [← hce]; exact hm5.cell (p := ⟨L, k, none⟩) hLr (fun e => e)
        have hf5 := HL5.out.frozen k
        have hl5 := HL5.out.lt
        have hs5 := HL5.out.set k (.string y)
        rw [HST.out] at hs5
        have HS5 := Lib.hid hs5
        have HM6 : Hid (New w (w5.setCell ⟨L, k, none⟩ (.string y))) := Lib.hid (HM5.out.setCell (p := ⟨L, k, none⟩) (.inr HLW.out) _)
        clear hm5 HL HM hs5 hce
        go_wp2_with fail
        go_roundw
        case rel => exact ⟨k + 1, by omega, by go_num, HS5, HM6⟩
        case measure => simp [intOf]; omega
      · obtain rfl : k = segs.length := by omega
        have HS : Hid (SSl wr (some ⟨L, 0, none⟩) segs.length (segs.map decB)) := Lib.hid (by
          have h := HL.out
          rw [mixL_all] at h
          refine Sl.of_blk h (by simp) (fun i hi j hj => ?_)
          obtain rfl : j = 0 := by omega
          unfold strCs
          simp [sEnc] at hi ⊢
          exact ⟨_, List.getElem?_eq_getElem hi, rfl⟩)
        go_wp2_with fail
        go_ret2
        exact ⟨some ⟨L, 0, none⟩, segs.length, segs.length, by rw [HQ1.out]; rfl, by rw [HQ1.out]; exact HS.out, HM.out, Nat.le_refl _⟩

end Go.Proofs.YtjehlecgnepgmaaGreatDoor
