/- Several texts in one. (1) The reference's normal form of a path (gateref2.PathOf). Conditions: a text of modest size; the library's variables lie as they should. (2) The reference's segments of a path (gateref2.SegmentsOf). Conditions: a text of modest size; the library's variables lie as they should. -/
import Derived.Test.YtjehlecgnepgmaaGreatDoorPathOf1
import Derived.Test.YtjehlecgnepgmaaGreatDoorNPathGrp
import Derived.Outline

namespace Go.Proofs.YtjehlecgnepgmaaGreatDoor
open Go.RowKit Go.Shelf
set_option linter.unusedVariables false
set_option linter.unusedSimpArgs false

attribute [local go_sem] Oper.semAt_some

abbrev plainB2 : ByteArray := ⟨#[97, 98, 99, 100, 101, 102, 103, 104, 105, 106, 107, 108, 109, 110, 111, 112, 113, 114, 115, 116, 117, 118, 119, 120, 121, 122, 65, 66, 67, 68, 69, 70, 71, 72, 73, 74, 75, 76, 77, 78, 79, 80, 81, 82, 83, 84, 85, 86, 87, 88, 89, 90, 48, 49, 50, 51, 52, 53, 54, 55, 56, 57, 45, 46, 95, 126]⟩
theorem ascii_enc (c : UInt8) : c.toNat < 128 → Utf8.encode (c.toNat : Int) = ⟨#[c]⟩ := by
  revert c
  apply byteOf
  decide +kernel
theorem only_free (c : UInt8) : c.toNat < 128 → onlyB plainB2.data.toList [c] = freeN c.toNat := by
  revert c
  apply byteOf
  decide +kernel
theorem high_free (c : UInt8) : ¬ c.toNat < 128 → freeN c.toNat = false := by
  revert c
  apply byteOf
  decide +kernel
theorem enc_size (n : Int) : (Utf8.encode n).size ≤ 4 := by
  unfold Utf8.encode
  simp only
  repeat' split
  all_goals (first | decide | (show _ ≤ 4; simp [ByteArray.size]))
/-- a row of one byte as a string -/
theorem one_byte (w : World) (a : UInt8) :
    (convert 67 9 (.slice (some ⟨w.heap.size, 0, none⟩) 1 1)).run Tryz.prog (w.alloc (.cells #[.int .u8 (a.toNat : Int)] 5)) = .ok (.string ⟨#[a]⟩) (w.alloc (.cells #[.int .u8 (a.toNat : Int)] 5)) := by
  have := run_convert_bytes_arg (P := Tryz.prog) (w.alloc (.cells #[.int .u8 (a.toNat : Int)] 5)) 67 5 Tryz.underlying67 Tryz.underlying5 w.heap.size 0 1 1 [(a.toNat : Int)] rfl (fun i hi => by
    rw [Nat.zero_add, (Blk.new w 5 #[.int .u8 (a.toNat : Int)]).cell]
    obtain rfl : i = 0 := by omega
    rfl) 9 Tryz.underlying9
  have e : strOfNums [(a.toNat : Int)] = ⟨#[a]⟩ := by
    unfold strOfNums
    simp only [List.map_cons, List.map_nil, Int.toNat_natCast, UInt8.ofNat_toNat]
  rw [e] at this
  exact this
theorem flatN_take (us : List (UInt8 × Bool)) {k : Nat} (h : k < us.length) : (us.take (k + 1)).flatMap normC = (us.take k).flatMap normC ++ normC us[k] := by
  rw [List.take_succ_eq_append_getElem h, List.flatMap_append]
  simp
theorem bodyM_ret {n : Nat} {P : Program} {fn : Func} {R : Ending → World → Prop} {a : Act} {w : World} (h : bodyPost P fn R .ret a w) : bodyPostM Fence.wide n P fn R .ret a w := by
  obtain ⟨h1, h2⟩ := h
  show LeavesInM Fence.wide n P fn a.tmps R a.defers .returning w
  rw [h1]
  exact h2

theorem dotsF_size {Z : Nat} : ∀ (segs st : List ByteArray), (∀ x ∈ segs, x.size ≤ Z) → (∀ x ∈ st, x.size ≤ Z) → ∀ y ∈ dotsF segs st, y.size ≤ Z
  | [], st, _, h => by rw [dotsF]; exact h
  | x :: r, st, hx, h => by
    have hr := fun y hy => hx y (List.mem_cons_of_mem x hy)
    have hE : ∀ st : List ByteArray, (∀ x ∈ st, x.size ≤ Z) → ∀ x ∈ st ++ [emptyB], x.size ≤ Z := fun st h y hy => by
      rcases List.mem_append.1 hy with h' | h'
      · exact h y h'
      · simp at h'; subst h'; exact Nat.zero_le _
    have hD : ∀ x ∈ st.dropLast, x.size ≤ Z := fun y hy => h y ((List.dropLast_sublist st).subset hy)
    rw [dotsF]
    split
    · refine dotsF_size r _ hr ?_
      split
      · exact hE _ h
      · exact h
    · split
      · refine dotsF_size r _ hr ?_
        split
        · exact hE _ hD
        · exact hD
      · refine dotsF_size r _ hr (fun y hy => ?_)
        rcases List.mem_append.1 hy with h' | h'
        · exact h y h'
        · simp at h'; subst h'; exact hx _ (by simp)

set_option maxRecDepth 100000 in
set_option maxHeartbeats 800000 in
theorem ref2_pathOf (s : ByteArray) (w : World) (hs : s.size ≤ 100000) (hx : MaxLn w) (he : ErrSyn w) :
    Calls Tryz.prog 88 #[.string s] w (RTxt (pathN s) w) := by
  have hpf := ref2_pathForm s w (by omega)
  have hun := fun W (h : New w W) => ref2_units s W (by omega) (he.new h)
  have HUN := Lib.hid hun
  have HX := Lib.hid hx
  clear hun hx he
  refine callsIn_wide.1 (callsIn_of_wp_marks (n := 9) Tryz.func88 rfl trivial (wpIn_wide.2 ?_) rfl)
  simp only [Tryz.ntmps88, List.size_toArray, List.length_cons, List.length_nil, Nat.reduceAdd, Nat.reduceSub, Array.replicate_succ, Array.replicate_zero, List.push_toArray, List.append_toArray, List.nil_append, List.cons_append]
  by_cases hp : pathBad s.data.toList = 0
  rotate_left
  · have HQ : Hid (pathN s = (pathBad s.data.toList, [])) := Lib.hid (by unfold pathN; rw [if_pos hp])
    have h3 : pathBad s.data.toList = 3 := by
      unfold pathBad at hp ⊢
      split
      · rfl
      · split
        · rfl
        · split
          · rfl
          · split
            · rfl
            · rename_i a b c d
              rw [if_neg a, if_neg b, if_neg c, if_neg d] at hp
              exact absurd rfl hp
    rw [h3] at HQ
    rw [decide_eq_false hp] at hpf
    clear hp h3
    go_wp2_with fail
    refine hpf.mono ?_
    clear hpf
    rintro e w1 ⟨rfl, hm⟩
    have HM := Lib.hid hm
    clear hm
    go_wp2_with fail
    refine bodyM_ret ?_
    go_ret2
    exact RTxt.fault HQ.out HM.out
  rw [decide_eq_true hp] at hpf
  obtain ⟨hl, r, hr⟩ := pathBad_ok hp
  have hQ : pathN s = match normL s.data.toList with
      | none => (9, [])
      | some t => (0, slashed (dotsF (pieces ⟨(t.drop 1).toArray⟩ slB) [])) := by
    unfold pathN
    rw [if_neg (fun h => h hp)]
    cases normL s.data.toList <;> rfl
  have HR := Lib.hid hr
  have hss : s.size ≤ 1000 := hl
  clear hp hr hl
  cases hu : unitsL s.data.toList with
  | none =>
    have hn : normL s.data.toList = none := by unfold normL; rw [hu]; rfl
    rw [hn] at hQ
    have HQ : Hid (pathN s = (9, [])) := Lib.hid hQ
    rw [hu] at HUN
    clear hn hQ hu
    go_wp2_with fail
    refine hpf.mono ?_
    clear hpf
    rintro e w1 ⟨rfl, hm⟩
    go_wp2_with fail
    refine (HUN.out w1 hm).mono ?_
    clear HUN
    rintro e w2 ⟨A, n, c, rfl, hsl, hm2, hn9⟩
    have HM := Lib.hid (hm.trans hm2)
    clear hm hm2 hsl
    simp only [Option.isSome_none]
    go_wp2_with fail
    refine bodyM_ret ?_
    go_ret2
    exact RTxt.fault HQ.out HM.out
  | some us =>
    have hn : normL s.data.toList = some (us.flatMap normC) := by unfold normL; rw [hu]; rfl
    have hnl := normL_length hn
    obtain ⟨t', ht'⟩ := normL_head HR.out hn
    rw [hn] at hQ
    have HQ : Hid (pathN s = (0, slashed (dotsF (pieces ⟨((us.flatMap normC).drop 1).toArray⟩ slB) []))) := Lib.hid hQ
    rw [hu] at HUN
    have HH := Lib.hid ht'
    have hsl0 : s.data.toList.length = s.size := rfl
    have hul := unitsL_length _ _ us (Nat.le_refl _) hu
    have hu1 : us.length ≤ 1000 := by omega
    clear hn hQ hu HR ht' hul
    go_wp2_with fail
    refine hpf.mono ?_
    clear hpf
    rintro e w1 ⟨rfl, hm⟩
    go_wp2_with fail
    refine (HUN.out w1 hm).mono ?_
    clear HUN
    rintro e w2 ⟨A, n, c, rfl, hsl, hm2, hn9⟩
    simp only [Option.isSome_some, Option.getD_some] at hsl ⊢
    have HM2 := Lib.hid (hm.trans hm2)
    have HSL := Lib.hid hsl
    have hnl2 : us.length = n := hsl.1
    have HNL := Lib.hid hnl2
    have hn1 : n ≤ 1000 := by omega
    have HW2 : Hid (New w2 w2) := Lib.hid (Mod.refl _ _)
    clear hm hm2 hsl hnl2
    go_wp2_with fail
    go_loopw [6, 26] (fun o i wr => ∃ (k : Nat) (T : ByteArray), k ≤ n ∧ i = .int .i64 k ∧ o = .string T ∧ Hid (T.data.toList = (us.take k).flatMap normC) ∧ Hid (New w2 wr)) (fun _ i _ => n - (intOf i).toNat)
    case atStart => exact ⟨0, ⟨#[]⟩, Nat.zero_le _, rfl, rfl, Lib.hid rfl, HW2⟩
    case round =>
      clear HW2
      rename World => wr
      obtain ⟨k, T, hk, rfl, rfl, HT, HW⟩ := hrel
      by_cases hlt : k < n
      · have hkl : k < us.length := by have := HNL.out; omega
        obtain ⟨g, o, hA, ht, hc⟩ := (HSL.out.new HW.out).2 (by omega)
        subst hA
        have a0 := hc k hkl 0 (by omega)
        have a1 := hc k hkl 1 (by omega)
        have hgl := ht.lt
        have htk := flatN_take us hkl
        have hTz : T.size ≤ 3000 := by
          have h1 : T.data.toList.length = T.size := rfl
          have h2 := flat_norm_length (us.take k)
          rw [HT.out] at h1
          have h3 : (us.take k).length ≤ k := by rw [List.length_take]; omega
          omega
        have hb1 : (0 : Int) ≤ k := by omega
        have hb2 : (k : Int) < n := by omega
        clear hc ht
        generalize us[k] = x at *
        obtain ⟨xc, xp⟩ := x
        simp only [unitEnc, Nat.add_zero] at a0 a1
        have HTK := Lib.hid htk
        have hbx := Blk.new wr 135 #[.int .u8 (xc.toNat : Int), .bool xp]
        have hmx : New wr (wr.alloc (.cells #[.int .u8 (xc.toNat : Int), .bool xp] 135)) := (Mod.refl _ _).alloc _
        have HWA := Lib.hid (HW.out.trans hmx)
        have hx256 := xc.toNat_lt
        have hwr := wrap32 xc
        clear htk hmx HW
        go_upto_region 10 with fail
        have p0 := hbx.cell 0
        have p1 := hbx.cell 1
        have pl := hbx.lt
        simp only [List.getElem?_toArray, List.getElem?_cons_zero, List.getElem?_cons_succ] at p0 p1
        clear hbx a0 a1
        generalize wr.alloc (.cells #[.int .u8 (xc.toNat : Int), .bool xp] 135) = wA at *
        generalize wr.heap.size = xb at *
        have hob := one_byte wA xc
        have hcd := fun W => ref2_coded xc W
        obtain ⟨z, hz⟩ : ∃ z : Int, z = (xc.toNat : Int) := ⟨_, rfl⟩
        have z0 : 0 ≤ z := by omega
        have z1 : z < 256 := by omega
        rw [← hz] at p0 hwr hob hcd
        have s1 : (⟨#[xc]⟩ : ByteArray).size = 1 := rfl
        have s3 : (⟨#[37, upHex (xc.toNat / 16), upHex (xc.toNat % 16)]⟩ : ByteArray).size = 3 := rfl
        cases xp
        · have hen := enc_size z
          have hon := fun W => ref2_only (Utf8.encode z) plainB2 W (by omega)
          by_cases h128 : xc.toNat < 128
          · have hae : Utf8.encode z = ⟨#[xc]⟩ := by rw [hz]; exact ascii_enc xc h128
            rw [hae, show (⟨#[xc]⟩ : ByteArray).data.toList = [xc] from rfl, only_free xc h128] at hon
            have h128i : z < 128 := by omega
            cases hf : freeN xc.toNat <;> rw [hf] at hon
            · have HV : normC (xc, false) = [37, upHex (xc.toNat / 16), upHex (xc.toNat % 16)] := by unfold normC pctC; simp [hf]
              clear hf h128 hen hz hx256
              have HT1 : Hid ((T ++ (⟨#[37, upHex (xc.toNat / 16), upHex (xc.toNat % 16)]⟩ : ByteArray)).data.toList = (us.take (k + 1)).flatMap normC) := Lib.hid (by rw [cat_list, HT.out, HTK.out, HV])
              clear HV HT hob s1
              generalize (⟨#[37, upHex (xc.toNat / 16), upHex (xc.toNat % 16)]⟩ : ByteArray) = V at *
              have hadd : ¬ 9223372036854775807 < T.size + V.size := by omega
              go_wp2_with (first | (refine (hon _).mono ?_; clear hon; rintro e w' ⟨rfl, rfl⟩) | (refine (hcd _).mono ?_; clear hcd; rintro e w' ⟨rfl, rfl⟩))
              go_roundw
              case rel => exact ⟨k + 1, _, by omega, by go_num, rfl, HT1, HWA⟩
              case measure => simp [intOf]; omega
            · have HV : normC (xc, false) = [xc] := by unfold normC; simp [hf]
              clear hf h128 hen hz hx256
              have HT1 : Hid ((T ++ (⟨#[xc]⟩ : ByteArray)).data.toList = (us.take (k + 1)).flatMap normC) := Lib.hid (by rw [cat_list, HT.out, HTK.out, HV])
              have hadd : ¬ 9223372036854775807 < T.size + (⟨#[xc]⟩ : ByteArray).size := by omega
              clear HV HT s3 hcd
              go_wp2_with (first | (refine (hon _).mono ?_; clear hon; rintro e w' ⟨rfl, rfl⟩) | fail)
              go_roundw
              case rel => exact ⟨k + 1, _, by omega, by go_num, rfl, HT1, Lib.hid (HWA.out.alloc _)⟩
              case measure => simp [intOf]; omega
          · have hf := high_free xc h128
            have HV : normC (xc, false) = [37, upHex (xc.toNat / 16), upHex (xc.toNat % 16)] := by unfold normC pctC; simp [hf]
            have h128i : ¬ z < 128 := by omega
            clear hf h128 hen hz hx256
            generalize hU : Utf8.encode z = U at *
            generalize onlyB plainB2.data.toList U.data.toList = q at *
            cases q
            · have HT1 : Hid ((T ++ (⟨#[37, upHex (xc.toNat / 16), upHex (xc.toNat % 16)]⟩ : ByteArray)).data.toList = (us.take (k + 1)).flatMap normC) := Lib.hid (by rw [cat_list, HT.out, HTK.out, HV])
              clear HV HT hob s1
              generalize (⟨#[37, upHex (xc.toNat / 16), upHex (xc.toNat % 16)]⟩ : ByteArray) = V at *
              have hadd : ¬ 9223372036854775807 < T.size + V.size := by omega
              go_wp2_with (first | (refine (hon _).mono ?_; clear hon; rintro e w' ⟨rfl, rfl⟩) | (refine (hcd _).mono ?_; clear hcd; rintro e w' ⟨rfl, rfl⟩))
              go_roundw
              case rel => exact ⟨k + 1, _, by omega, by go_num, rfl, HT1, HWA⟩
              case measure => simp [intOf]; omega
            · have HT1 : Hid ((T ++ (⟨#[37, upHex (xc.toNat / 16), upHex (xc.toNat % 16)]⟩ : ByteArray)).data.toList = (us.take (k + 1)).flatMap normC) := Lib.hid (by rw [cat_list, HT.out, HTK.out, HV])
              clear HV HT hob s1
              generalize (⟨#[37, upHex (xc.toNat / 16), upHex (xc.toNat % 16)]⟩ : ByteArray) = V at *
              have hadd : ¬ 9223372036854775807 < T.size + V.size := by omega
              go_wp2_with (first | (refine (hon _).mono ?_; clear hon; rintro e w' ⟨rfl, rfl⟩) | (refine (hcd _).mono ?_; clear hcd; rintro e w' ⟨rfl, rfl⟩))
              go_roundw
              case rel => exact ⟨k + 1, _, by omega, by go_num, rfl, HT1, HWA⟩
              case measure => simp [intOf]; omega
        · have HV : normC (xc, true) = [xc] := rfl
          clear hz hx256 hwr hcd s3
          have HT1 : Hid ((T ++ (⟨#[xc]⟩ : ByteArray)).data.toList = (us.take (k + 1)).flatMap normC) := Lib.hid (by rw [cat_list, HT.out, HTK.out, HV])
          have hadd : ¬ 9223372036854775807 < T.size + (⟨#[xc]⟩ : ByteArray).size := by omega
          clear HV HT
          go_upto_region 11 with fail
          go_wp2_with fail
          go_roundw
          case rel => exact ⟨k + 1, _, by omega, by go_num, rfl, HT1, Lib.hid (HWA.out.alloc _)⟩
          case measure => simp [intOf]; omega
      · obtain rfl : k = n := by omega
        have hUS : us.take k = us := List.take_of_length_le (by have := HNL.out; omega)
        have hT := HT.out
        rw [hUS, HH.out] at hT
        obtain rfl : T = ⟨(47 :: t').toArray⟩ := ByteArray.ext (by rw [← hT])
        have hQ := HQ.out
        rw [HH.out, List.drop_succ_cons, List.drop_zero] at hQ
        have HQ2 := Lib.hid hQ
        have hext := extract_tail t'
        have htl : t'.length + 1 ≤ 3000 := by
          have h2 := flat_norm_length us
          rw [HH.out, List.length_cons] at h2
          omega
        have hU : (⟨t'.toArray⟩ : ByteArray).size ≤ 3000 := by
          show t'.toArray.size ≤ 3000
          simp only [List.size_toArray]
          omega
        have hZs : (⟨(47 :: t').toArray⟩ : ByteArray).size = t'.length + 1 := by
          show (List.toArray (47 :: t')).size = _
          simp
        have hZ1 : 1 ≤ (⟨(47 :: t').toArray⟩ : ByteArray).size := by omega
        clear hZs hQ hT hUS HT HQ HH hlt
        generalize (⟨(47 :: t').toArray⟩ : ByteArray) = Z at *
        generalize (⟨t'.toArray⟩ : ByteArray) = U at *
        have hZi : (1 : Int) ≤ (Z.size : Int) := by omega
        have hne := pieces_ne (t := U) (sep := slB) (Nat.le_refl _)
        have hpc := pieces_count hU
        have hpl := fun x (hx : x ∈ pieces U slB) => Nat.le_trans (pieces_le hx) hU
        have hwr0 := HM2.out.trans HW.out
        have hsp := split_any U 47 wr (by omega) (HX.out.new hwr0)
        go_upto_region 14 with fail
        go_wp2_with (first | (refine hsp.mono ?_; clear hsp; rintro e w3 ⟨rfl, rfl⟩) | fail)
        clear HSL hn9 hext hU hZi hZ1
        generalize hw5 : (((wr.alloc (.cells (strCs (pieces U slB)) 9)).alloc (.cells #[.slice (some ⟨wr.heap.size, 0, none⟩) (pieces U slB).length (pieces U slB).length] 56)).alloc (.cells #[.slice none 0 0] 56)).alloc (.cells #[.int .i64 0] 3) = w5 at *
        obtain ⟨hL, hlb, hob, hkb, hm5, hz5⟩ := boxes4 hw5
        have hwL := hwr0.size
        have hw05 := hwr0.trans hm5
        clear hw5 hm5
        generalize hsg : pieces U slB = segs at *
        generalize wr.heap.size = L at *
        generalize hkbe : L + 1 + 1 + 1 = kb at *
        generalize hobe : L + 1 + 1 = ob at *
        generalize hlbe : L + 1 = lb at *
        refine (backward_any _ _ _ _).mono ?_
        rintro e w6 ⟨rfl, rfl⟩
        have hBs := Blk.new w5 56 #[.slice (some ⟨L, 0, none⟩) segs.length segs.length]
        have h56 : New w5 (w5.alloc (.cells #[.slice (some ⟨L, 0, none⟩) segs.length segs.length] 56)) := (Mod.refl _ _).alloc _
        have hz6 : (w5.alloc (.cells #[.slice (some ⟨L, 0, none⟩) segs.length segs.length] 56)).heap.size = w5.heap.size + 1 := by simp
        have hL6 := hL.new2 h56
        have hlb6 := hlb.new2 h56
        have hob6 := hob.new2 h56
        have hkb6 := hkb.new2 h56
        have hw06 := hw05.trans h56
        clear hL hlb hob hkb hw05 h56
        generalize w5.alloc (.cells #[.slice (some ⟨L, 0, none⟩) segs.length segs.length] 56) = w6 at *
        generalize w5.heap.size = Bs at *
        have HZ5 := Lib.hid hz5
        have HZ6 := Lib.hid hz6
        clear hz5 hz6
        go_wp2_with fail
        have hz5 := HZ5.out
        have hz6 := HZ6.out
        clear HZ5 HZ6
        have hN : PNum w.heap.size L lb ob kb Bs (Bs + 1) := ⟨hwL, by omega, by omega, by omega, by omega, by omega⟩
        have h0 : PInv w L lb ob kb (Bs + 1) segs.length [] w6 := ⟨none, 0, 0, hlb6, hob6, hkb6, Own.nil, hw06, by omega⟩
        refine' wpIn_wide.1 (wpIn_rangeFunc_ownG (F := Fence.wide) (n := 9) rfl (by decide) (gf := 147) (lb := #[.pointer (some ⟨Bs, 0, none⟩)]) rfl trivial (enters_of Tryz.func147 (by kernel_rfl) rfl)
          (back_stops Fence.wide 8 trivial rfl (by omega) Bs L 0 segs.length segs.length segs (by omega) w6 hBs.lt hL6.lt (hBs.cell 0) (fun j hj => ?_)) (fun h k => Kept2.trans h k) (kept2_b hL6.lt hBs.lt) (Below.refl _ _) (fun _ => rfl)
          (PInv w L lb ob kb (Bs + 1) segs.length) (fun _ _ _ => False) (PInv.own hw06.size) (fun _ _ _ _ _ hs _ _ => hs) h0 _ ?assign ?body ?done ?stop)
        · have := strs_at hL6 j hj
          rw [Nat.zero_add, this, List.getD_eq_getElem?_getD]
          rfl
        case assign =>
          intro l x W K hK
          gi_wp2
          exact hK
        case body =>
          clear hz5 hz6 hL6 hBs h0 hkbe hobe hlbe hwL hwr0 hw06 hlb6 hob6 hkb6 hsg
          rintro l pre ⟨x1, x2⟩ W ⟨A9, n9, c9, h1, h2, h3, h4, h5, h6⟩ hlt
          have hfs := foldB_snoc segs.length pre (x1, x2)
          have hfl := foldB_le segs.length pre
          generalize foldB segs.length pre = st at *
          obtain ⟨out, skip⟩ := st
          simp only at h3 h4 hfl
          unfold stepB at hfs
          simp only at hfs
          have hol : out.length = n9 := h4.1
          have hn9 : n9 ≤ 3001 := by omega
          have hk9 : skip ≤ 3001 := by omega
          have g1 := h1.cell 0
          have g2 := h2.cell 0
          have g3 := h3.cell 0
          have r1 := h1.frozen 0
          have r2 := h2.frozen 0
          have r3 := h3.frozen 0
          simp only [List.getElem?_toArray, List.getElem?_cons_zero] at g1 g2 g3
          have e1 := const_eq x2 [46]
          have e2 := const_eq x2 [46, 46]
          have HFS := Lib.hid hfs
          clear hfs
          have HN2 := Lib.hid hN
          have H1 := Lib.hid h1
          have H2 := Lib.hid h2
          have H3 := Lib.hid h3
          have H4 := Lib.hid h4
          have H5 := Lib.hid h5
          have H6 := Lib.hid h6
          have hWz : Bs + 1 ≤ W.heap.size := h6
          have hb1 := h1.lt
          have hb2 := h2.lt
          have hb3 := h3.lt
          have hne1 : ob ≠ kb := by have := hN; unfold PNum at this; omega
          have hne2 : ob ≠ lb := by have := hN; unfold PNum at this; omega
          have hne3 : kb ≠ lb := by have := hN; unfold PNum at this; omega
          clear h1 h2 h3 h4 h5 h6 hN
          by_cases hd1 : x2 = dot1
          · rw [decide_eq_true hd1] at e1
            have hd2 : ¬ x2 = dot2 := by rw [hd1]; decide
            rw [decide_eq_false hd2] at e2
            by_cases hla : x1 + 1 = segs.length
            · have hla' : ((x1 : Int) == (segs.length : Int) - 1) = true := by simp; omega
              have HF : Hid (foldB segs.length (pre ++ [(x1, x2)]) = (out ++ [emptyB], skip)) := Lib.hid (by rw [HFS.out, if_pos (Or.inl hd1), if_pos hla, if_neg hd2])
              clear hd1 hd2 hla HFS
              have HOA := Lib.hid (H4.out.alloc (.cells #[.string (⟨#[]⟩ : ByteArray)] 9))
              have HBN := Lib.hid (Blk.new W 9 #[.string (⟨#[]⟩ : ByteArray)])
              have hBq : Bs + 1 ≤ (W.alloc (.cells #[.string (⟨#[]⟩ : ByteArray)] 9)).heap.size := by simp; omega
              gi_wp2_with (gi_at_builtin; refine wpListIn_push rfl _ _ _ rfl 16 Tryz.underlying56 einfo_str rfl HOA.out (⟨#[]⟩ : ByteArray) W.heap.size rfl HBN.out (fun j hj => sEnc_one _ j hj) (by omega) (by omega) hBq ?_; intro g8 cap8 w8 own8 hg8; obtain ⟨hob8, hlb9, hob9, hkb9, own9, hm9⟩ := push_box HN2.out H1.out H2.out H3.out H4.out H6.out hg8 own8; have c8 := hob8.cell 0; have f8 := hob8.frozen 0; have k9 := hkb9.cell 0; have kf9 := hkb9.frozen 0; simp only [List.getElem?_toArray, List.getElem?_cons_zero] at c8 k9; have HL9 := Lib.hid hlb9; have HO9 := Lib.hid hob9; have HK9 := Lib.hid hkb9; have HW9 := Lib.hid own9; have HM9 := Lib.hid hm9; clear own8 hg8 hob8 hlb9 hob9 hkb9 own9 hm9)
              exact round_out HN2.out H2.out H3.out H4.out H5.out H6.out HF.out HM9.out HL9.out HO9.out HK9.out HW9.out
            · have hla' : ((x1 : Int) == (segs.length : Int) - 1) = false := by simp; omega
              have HF : Hid (foldB segs.length (pre ++ [(x1, x2)]) = (out, skip)) := Lib.hid (by rw [HFS.out, if_pos (Or.inl hd1), if_neg hla, if_neg hd2])
              clear hd1 hd2 hla HFS
              gi_wp2
              exact round_out HN2.out H2.out H3.out H4.out H5.out H6.out HF.out (Mod.refl _ _) H1.out H2.out H3.out H4.out
          · rw [decide_eq_false hd1] at e1
            by_cases hd2 : x2 = dot2
            · rw [decide_eq_true hd2] at e2
              by_cases hla : x1 + 1 = segs.length
              · have hla' : ((x1 : Int) == (segs.length : Int) - 1) = true := by simp; omega
                have HF : Hid (foldB segs.length (pre ++ [(x1, x2)]) = (out ++ [emptyB], skip + 1)) := Lib.hid (by rw [HFS.out, if_pos (Or.inr hd2), if_pos hla, if_pos hd2])
                clear hd1 hd2 hla HFS
                have HOA := Lib.hid (H4.out.alloc (.cells #[.string (⟨#[]⟩ : ByteArray)] 9))
                have HBN := Lib.hid (Blk.new W 9 #[.string (⟨#[]⟩ : ByteArray)])
                have hBq : Bs + 1 ≤ (W.alloc (.cells #[.string (⟨#[]⟩ : ByteArray)] 9)).heap.size := by simp; omega
                gi_wp2_with (gi_at_builtin; refine wpListIn_push rfl _ _ _ rfl 16 Tryz.underlying56 einfo_str rfl HOA.out (⟨#[]⟩ : ByteArray) W.heap.size rfl HBN.out (fun j hj => sEnc_one _ j hj) (by omega) (by omega) hBq ?_; intro g8 cap8 w8 own8 hg8; obtain ⟨hob8, hlb9, hob9, hkb9, own9, hm9⟩ := push_box HN2.out H1.out H2.out H3.out H4.out H6.out hg8 own8; have c8 := hob8.cell 0; have f8 := hob8.frozen 0; have k9 := hkb9.cell 0; have kf9 := hkb9.frozen 0; simp only [List.getElem?_toArray, List.getElem?_cons_zero] at c8 k9; have HL9 := Lib.hid hlb9; have HO9 := Lib.hid hob9; have HK9 := Lib.hid hkb9; have HW9 := Lib.hid own9; have HM9 := Lib.hid hm9; clear own8 hg8 hob8 hlb9 hob9 hkb9 own9 hm9)
                have p9 := put_kb (A' := A9) HN2.out HL9.out HO9.out _ HK9.out HW9.out (.int .i64 ((skip : Int) + 1))
                exact round_out HN2.out H2.out H3.out H4.out H5.out H6.out HF.out (HM9.out.trans p9.2.2.2.2) p9.1 p9.2.1 p9.2.2.1 p9.2.2.2.1
              · have hla' : ((x1 : Int) == (segs.length : Int) - 1) = false := by simp; omega
                have HF : Hid (foldB segs.length (pre ++ [(x1, x2)]) = (out, skip + 1)) := Lib.hid (by rw [HFS.out, if_pos (Or.inr hd2), if_neg hla, if_pos hd2])
                clear hd1 hd2 hla HFS
                gi_wp2
                have p9 := put_kb (A' := A9) HN2.out H1.out H2.out _ H3.out H4.out (.int .i64 ((skip : Int) + 1))
                exact round_out HN2.out H2.out H3.out H4.out H5.out H6.out HF.out p9.2.2.2.2 p9.1 p9.2.1 p9.2.2.1 p9.2.2.2.1
            · rw [decide_eq_false hd2] at e2
              by_cases hs0 : 0 < skip
              · have HF : Hid (foldB segs.length (pre ++ [(x1, x2)]) = (out, skip - 1)) := Lib.hid (by rw [HFS.out, if_neg (fun h => h.elim hd1 hd2), if_pos hs0])
                obtain ⟨sk, rfl⟩ : ∃ sk, skip = sk + 1 := ⟨skip - 1, by omega⟩
                have hs1 : (0 : Int) < ((sk + 1 : Nat) : Int) := by omega
                have hwk : ((sk + 1 : Nat) : Int) - 1 = (sk : Int) := by omega
                clear hd1 hd2 HFS
                gi_wp2
                have p9 := put_kb (A' := A9) HN2.out H1.out H2.out _ H3.out H4.out (.int .i64 (sk : Int))
                exact round_out HN2.out H2.out H3.out H4.out H5.out H6.out HF.out p9.2.2.2.2 p9.1 p9.2.1 p9.2.2.1 p9.2.2.2.1
              · obtain rfl : skip = 0 := by omega
                have HF : Hid (foldB segs.length (pre ++ [(x1, x2)]) = (out ++ [x2], 0)) := Lib.hid (by rw [HFS.out, if_neg (fun h => h.elim hd1 hd2), if_neg hs0])
                clear hd1 hd2 HFS
                have HOA := Lib.hid (H4.out.alloc (.cells #[.string x2] 9))
                have HBN := Lib.hid (Blk.new W 9 #[.string x2])
                have hBq : Bs + 1 ≤ (W.alloc (.cells #[.string x2] 9)).heap.size := by simp; omega
                gi_wp2_with (gi_at_builtin; refine wpListIn_push rfl _ _ _ rfl 16 Tryz.underlying56 einfo_str rfl HOA.out x2 W.heap.size rfl HBN.out (fun j hj => sEnc_one _ j hj) (by omega) (by omega) hBq ?_; intro g8 cap8 w8 own8 hg8; obtain ⟨hob8, hlb9, hob9, hkb9, own9, hm9⟩ := push_box HN2.out H1.out H2.out H3.out H4.out H6.out hg8 own8; have c8 := hob8.cell 0; have f8 := hob8.frozen 0; have k9 := hkb9.cell 0; have kf9 := hkb9.frozen 0; simp only [List.getElem?_toArray, List.getElem?_cons_zero] at c8 k9; have HL9 := Lib.hid hlb9; have HO9 := Lib.hid hob9; have HK9 := Lib.hid hkb9; have HW9 := Lib.hid own9; have HM9 := Lib.hid hm9; clear own8 hg8 hob8 hlb9 hob9 hkb9 own9 hm9)
                exact round_out HN2.out H2.out H3.out H4.out H5.out H6.out HF.out HM9.out HL9.out HO9.out HK9.out HW9.out
        case done =>
          clear h0
          rintro D ys W hD rfl ⟨A9, n9, c9, h1, h2, h3, h4, h5, h6⟩ hK
          have hsn : segs ≠ [] := hne
          rw [foldB_all hsn] at h4
          have hds := dots_same hsn
          have hQ := HQ2.out
          have hle := (foldB_le segs.length (upto (backF segs.length segs) segs.length)).1
          rw [foldB_all hsn, upto_length] at hle
          have hDlt := heap_lt hK
          have hsz := dotsF_size (Z := 3000) segs [] hpl (by simp)
          rw [← hds] at hQ hsz
          clear h1 h3 hds hsn
          generalize (dotsB segs.reverse true 0 []).1 = out at *
          have hol : out.length = n9 := h4.1
          have g2 := h2.cell 0
          have r2 := h2.frozen 0
          simp only [List.getElem?_toArray, List.getElem?_cons_zero] at g2
          have hob := h2.lt
          have HQ := Lib.hid hQ
          have HK := Lib.hid hK
          have H2 := Lib.hid h2
          have H4 := Lib.hid h4
          have H5 := Lib.hid h5
          have HD := Lib.hid hD
          have HS := Lib.hid hsz
          have HWL := Lib.hid hw06.size
          clear hK h2 h4 h5 hD hsz hQ hpl hne hw06 hz5 hz6 hwL hBs hL6 hlb6 hob6 hkb6
          by_cases hn0 : n9 = 0
          · subst hn0
            obtain rfl : out = [] := List.eq_nil_of_length_eq_zero hol
            have hrv := Tryz.slices_Reverse_string_empty A9 c9 W
            have hj0 := Tryz.strings_Join_none A9 c9 ⟨#[47]⟩ W
            go_wp2_with (first | (refine hrv.mono ?_; clear hrv; rintro e w3 ⟨rfl, hw⟩; rw [hw]; clear hw) | (refine hj0.mono ?_; clear hj0; rintro e w3 ⟨rfl, hw⟩; rw [hw]; clear hw))
            refine ⟨by simp, .inl ⟨_, _, rfl, run_takeDeferred HK.out, _, results_tmp2 rfl _ _ _, ?_⟩⟩
            exact ⟨by rw [HQ.out]; rfl, (H5.out).grown (grownBy_putObj' W D _) (fun q e => by injection e with e; subst e; exact .inr (Nat.le_trans HWL.out HD.out))⟩
          · rcases H4.out.blk with ⟨_, h1, _⟩ | ⟨g', rfl, hB, htb⟩
            · exact absurd h1 hn0
            · have HRV := Lib.hid (rev_any H4.out)
              have hcap : n9 ≤ c9 := H4.out.ncap
              have hne9 : ob ≠ g' := by have := hN; unfold PNum at this; omega
              have hDg : D ≠ g' := by
                rintro rfl
                obtain ⟨cs, fr, hg⟩ := htb
                rw [HK.out] at hg
                injection hg with hg
                cases hg
              have hgl := htb.lt
              have HB := Lib.hid hB
              clear htb hB
              go_wp2_with fail
              refine HRV.out.mono ?_
              clear HRV
              rintro e w3 ⟨rfl, hm3, hc3⟩
              have g3 := (H2.out.mod hm3 hne9).cell 0
              simp only [List.getElem?_toArray, List.getElem?_cons_zero] at g3
              have hK3 : w3.heap[D]? = some (.deferred (some [])) := (hm3.block D hDlt hDg).trans HK.out
              have HK3 := Lib.hid hK3
              have HM3 := Lib.hid ((H5.out).step hm3 (fun i hi e => by have := HB.out; have := HWL.out; have := hN; unfold PNum at this; omega))
              have hD3 : D < w3.heap.size := heap_lt hK3
              have hyl : out.reverse.length = n9 := by simpa using hol
              have hle2 : (Lib.join (out.reverse.map (·.data.toList)) [47]).length ≤ n9 * 3001 := by
                have := join_le [47] 3000 (out.reverse.map (·.data.toList)) (fun x hx => by
                  obtain ⟨y, hy, rfl⟩ := List.mem_map.1 hx
                  exact HS.out y hy)
                rw [List.length_map, hyl] at this
                exact this
              have hmul : n9 * 3001 ≤ 3001 * 3001 := Nat.mul_le_mul (by omega) (by omega)
              have hjn := Tryz.strings_Join g' 0 c9 out.reverse ⟨#[47]⟩ w3 hc3 (Nat.lt_of_lt_of_le hgl hm3.size) (by omega) (by omega) (Nat.le_trans hle2 (by omega))
              rw [hyl, show (⟨#[47]⟩ : ByteArray).data.toList = [47] from rfl] at hjn
              have hJz : (⟨(Lib.join (out.reverse.map (·.data.toList)) [47]).toArray⟩ : ByteArray).size ≤ 10000000 := by show (List.toArray _).size ≤ _; rw [List.size_toArray]; omega
              have hJl : (⟨(Lib.join (out.reverse.map (·.data.toList)) [47]).toArray⟩ : ByteArray).data.toList = Lib.join (out.reverse.map (·.data.toList)) [47] := rfl
              have HF : Hid ((⟨#[47]⟩ : ByteArray) ++ ⟨(Lib.join (out.reverse.map (·.data.toList)) [47]).toArray⟩ = ⟨(slashed out.reverse).toArray⟩) := Lib.hid (by
                rw [← mkList ((⟨#[47]⟩ : ByteArray) ++ ⟨(Lib.join (out.reverse.map (·.data.toList)) [47]).toArray⟩), cat_list]
                rfl)
              clear hJl hle2 hmul
              generalize (⟨(Lib.join (out.reverse.map (·.data.toList)) [47]).toArray⟩ : ByteArray) = J at *
              have s1 : (⟨#[47]⟩ : ByteArray).size = 1 := rfl
              have hadd : ¬ 9223372036854775807 < (⟨#[47]⟩ : ByteArray).size + J.size := by omega
              have HJN := Lib.hid hjn
              clear hc3 hjn hyl hm3 hK3
              go_wp2_with fail
              refine HJN.out.mono ?_
              clear HJN
              rintro e w4 ⟨rfl, hm4⟩
              have hmm4 : New w3 w4 := Mod.of_below hm4
              have HM4 := Lib.hid (HM3.out.trans hmm4)
              have HK4 : Hid (w4.heap[D]? = some (.deferred (some []))) := Lib.hid ((hmm4.block D hD3 (fun e => e)).trans HK3.out)
              clear hm4 hmm4
              go_wp2_with fail
              refine ⟨by simp, .inl ⟨_, _, rfl, run_takeDeferred HK4.out, _, results_tmp2 rfl _ _ _, ?_⟩⟩
              exact ⟨by rw [HQ.out]; show _ = Ending.returned (.tuple #[.string ⟨(slashed out.reverse).toArray⟩, .int .i64 0]); rw [← HF.out]; rfl, (HM4.out).grown (grownBy_putObj' w4 D _) (fun q e => by injection e with e; subst e; exact .inr (Nat.le_trans HWL.out HD.out))⟩
        case stop =>
          rintro D c pre W _ _ h _
          exact h.elim

end Go.Proofs.YtjehlecgnepgmaaGreatDoor

namespace Go.Proofs.YtjehlecgnepgmaaGreatDoor
open Go.RowKit
set_option linter.unusedVariables false
set_option linter.unusedSimpArgs false

set_option maxRecDepth 100000 in
set_option maxHeartbeats 1500000 in
theorem ref2_segmentsOf (s : ByteArray) (w : World) (hs : s.size ≤ 100000) (hx : MaxLn w) (he : ErrSyn w) :
    Calls Tryz.prog 47 #[.string s] w (RSegs (segsOf s) w) := by
  have hp := ref2_pathOf s w hs hx he
  by_cases h0 : (pathN s).1 = 0
  rotate_left
  · have HQ : Hid (segsOf s = ((pathN s).1, [])) := Lib.hid (by unfold segsOf; rw [if_pos h0])
    generalize pathN s = q at *
    obtain ⟨q1, q2⟩ := q
    simp only at h0 HQ
    have h0' : ((q1 : Int) != 0) = true := by simpa using h0
    clear h0
    go_enter Tryz.func47, Tryz.ntmps47
    go_wp2_with fail
    refine hp.mono ?_
    clear hp
    rintro e w1 ⟨rfl, hm⟩
    have HM := Lib.hid hm
    clear hm
    simp only
    go_wp2_with fail
    go_ret2
    exact RSegs.fault HQ.out HM.out
  obtain ⟨t, ht, htl⟩ := pathN_ok h0 (pathN_small h0)
  have hQ : segsOf s = if 100 < (pieces ⟨t.toArray⟩ slB).length then (2, []) else (0, (pieces ⟨t.toArray⟩ slB).map decB) := by
    unfold segsOf
    rw [if_neg (fun h => h h0), ht]
    rfl
  unfold RTxt at hp
  rw [h0, ht] at hp
  have hext := extract_tail t
  have hU : (⟨t.toArray⟩ : ByteArray).size ≤ 3001 := by
    show t.toArray.size ≤ 3001
    simp only [List.size_toArray]
    omega
  have hZ1 : 1 ≤ (⟨(47 :: t).toArray⟩ : ByteArray).size := by
    show 1 ≤ (List.toArray (47 :: t)).size
    simp
  clear h0 ht htl
  generalize (⟨(47 :: t).toArray⟩ : ByteArray) = Z at *
  generalize (⟨t.toArray⟩ : ByteArray) = U at *
  have hZi : (1 : Int) ≤ (Z.size : Int) := by omega
  have hpc := pieces_count hU
  have hpl := fun x (hx : x ∈ pieces U slB) => Nat.le_trans (pieces_le hx) hU
  have HX := Lib.hid hx
  have HE := Lib.hid he
  have hsp := fun W (h : New w W) => split_any U 47 W (by omega) (HX.out.new h)
  have HSP := Lib.hid hsp
  have HPL := Lib.hid hpl
  have HQ := Lib.hid hQ
  clear hsp hpl hQ hx he
  go_enter Tryz.func47, Tryz.ntmps47
  go_wp2_with fail
  refine hp.mono ?_
  clear hp
  rintro e w2 ⟨rfl, hm2⟩
  have hsp := HSP.out w2 hm2
  clear HSP
  go_wp2_with fail
  refine hsp.mono ?_
  clear hsp
  rintro e w3 ⟨rfl, rfl⟩
  have hmL : New w2 (w2.alloc (.cells (strCs (pieces U slB)) 9)) := (Mod.refl _ _).alloc _
  have hL := Blk.new w2 9 (strCs (pieces U slB))
  have HLW : Hid (w.heap.size ≤ w2.heap.size) := Lib.hid hm2.size
  have HM := Lib.hid (hm2.trans hmL)
  have HL := Lib.hid hL
  have hz3 : w2.heap.size < (w2.alloc (.cells (strCs (pieces U slB)) 9)).heap.size := by simp
  clear hmL hL hm2 hext
  generalize pieces U slB = segs at *
  generalize w2.alloc (.cells (strCs segs) 9) = w4 at *
  generalize w2.heap.size = L at *
  go_wp2_with fail
  go_loopw [6, 21] (fun o i wr => ∃ (k c : Nat) (A : Option Addr), k ≤ segs.length ∧ i = .int .i64 k ∧ o = .slice A k c ∧ Hid (Own wr (L + 1) 9 1 sEnc A k c ((segs.take k).map decB)) ∧ Hid (Blk wr L 9 (strCs segs)) ∧ Hid (New w wr)) (fun _ i _ => segs.length - (intOf i).toNat)
  case atStart => exact ⟨0, 0, none, Nat.zero_le _, rfl, rfl, Lib.hid (by simpa using Own.nil), HL, HM⟩
  case round =>
    clear HM HL
    rename World => wr
    obtain ⟨k, c, A, hk, rfl, rfl, HO, HL, HM⟩ := hrel
    have hLr := HL.out.lt
    by_cases hlt : k < segs.length
    · have hce := strs_at HL.out k hlt
      rw [strCs_at hlt] at hce
      have hxz := HPL.out _ (List.getElem_mem hlt)
      have hb1 : (0 : Int) ≤ k := by omega
      have hb2 : (k : Int) < segs.length := by omega
      have htk : (segs.take (k + 1)).map decB = (segs.take k).map decB ++ [decB segs[k]] := by
        rw [List.take_succ_eq_append_getElem hlt, List.map_append]
        rfl
      have HTK := Lib.hid htk
      clear htk
      generalize segs[k] = x at *
      have hbo := ref2_bytesOf x wr (by omega) (HE.out.new HM.out)
      go_wp2_with fail
      refine hbo.mono ?_
      clear hbo hce
      rintro e w5 ⟨rfl, hm5⟩
      have HO5 := Lib.hid (HO.out.new hm5)
      have HL5 := Lib.hid (HL.out.new2 hm5)
      have HM5 := Lib.hid (HM.out.trans hm5)
      have hL5 := HL5.out.lt
      clear HO HL HM hm5
      have hBq : L + 1 ≤ (w5.alloc (.cells #[.string (decB x)] 9)).heap.size := by simp; omega
      have HOA := HO5.out.alloc (.cells #[.string (decB x)] 9)
      have hBn := Blk.new w5 9 #[.string (decB x)]
      have HOF : Hid (∀ g', blkOf A = some g' → L + 1 ≤ g') := Lib.hid (fun g' e => HO5.out.farP g' e)
      go_wp2_with (at_builtin; refine wpList_push rfl _ _ _ rfl 16 Tryz.underlying56 einfo_str rfl HOA (decB x) w5.heap.size rfl hBn (fun j hj => sEnc_one _ j hj) (by omega) (by omega) hBq ?_; intro g8 cap8 w8 own8 hm8 hat8 hlt8)
      have HO8 : Hid (Own w8 (L + 1) 9 1 sEnc (some ⟨g8, 0, none⟩) (k + 1) cap8 ((segs.take (k + 1)).map decB)) := Lib.hid (by rw [HTK.out]; exact own8)
      have HL8 := Lib.hid ((HL5.out.new2 ((Mod.refl _ _).alloc (.cells #[.string (decB x)] 9))).mod hm8 (fun e => by have := HOF.out L e; omega))
      have HM8 : Hid (New w w8) := Lib.hid ((HM5.out.alloc (.cells #[.string (decB x)] 9)).step hm8 (fun i hi e => by have := HOF.out i e; have := HLW.out; omega))
      clear own8 hm8
      go_roundw
      case rel => exact ⟨k + 1, cap8, some ⟨g8, 0, none⟩, by omega, by go_num, rfl, HO8, HL8, HM8⟩
      case measure => simp [intOf]; omega
    · obtain rfl : k = segs.length := by omega
      have hfull : (segs.take segs.length).map decB = segs.map decB := by rw [List.take_length]
      have ho := HO.out
      rw [hfull] at ho
      have HO2 := Lib.hid ho
      clear ho hfull HO hlt
      by_cases h100 : 100 < segs.length
      · have h100' : (100 : Int) < (segs.length : Int) := by omega
        have HQ1 : Hid (segsOf s = (2, [])) := Lib.hid (by rw [HQ.out, if_pos h100])
        clear HQ
        go_wp2_with fail
        go_ret2
        exact RSegs.fault HQ1.out HM.out
      · have h100' : ¬ (100 : Int) < (segs.length : Int) := by omega
        have HQ1 : Hid (segsOf s = (0, segs.map decB)) := Lib.hid (by rw [HQ.out, if_neg h100])
        clear HQ
        go_wp2_with fail
        go_ret2
        exact ⟨A, segs.length, c, by rw [HQ1.out]; rfl, by rw [HQ1.out]; exact HO2.out.sl, HM.out, HO2.out.ncap⟩

end Go.Proofs.YtjehlecgnepgmaaGreatDoor
