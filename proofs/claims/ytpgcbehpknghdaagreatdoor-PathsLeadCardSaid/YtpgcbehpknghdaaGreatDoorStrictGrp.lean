/- Several texts in one. (1) Words in quotes just as they are written (value.strict). Conditions: a text of modest size, a place within it. (2) Reading a step of a path, the plain law: what the program's and the reference's own questions come to. No conditions. (3) A step of a path is read (value.readStep). Conditions: a text of modest size, a place within it. -/
import Derived.Test.YtpgcbehpknghdaaGreatDoorWrdsLawGrp
import Derived.Test.YtpgcbehpknghdaaGreatDoorPthLaw
import Derived.Test.YtpgcbehpknghdaaGreatDoorValQ
import Derived.Deep.RegionHeld3
import Derived.Test.YtpgcbehpknghdaaGreatDoorWordLawGrp
import Derived.Test.YtpgcbehpknghdaaGreatDoorChgMemGrp

namespace Go.Proofs.YtpgcbehpknghdaaGreatDoor
open Go.RowKit
set_option linter.unusedVariables false
set_option linter.unusedSimpArgs false

/-- words in quotes that begin a text just as quoting writes them, and how many bytes they have -/
def strictL (r : List UInt8) : Option (List UInt8 × Nat) :=
  if r.head? = some 34 then match wordsOf (r.drop 1) with
    | none => none
    | some (w, n) => if quoteL w = r.take (n + 1) then some (w, n + 1) else none
  else none
set_option maxRecDepth 100000 in
set_option maxHeartbeats 700000 in
theorem val_strict (s : ByteArray) (i : Nat) (w : World) (hs : s.size ≤ 15000) (hi : i ≤ s.size) :
    Calls Tryz.prog 71 #[.string s, .int .i64 i] w (RWords (strictL (s.data.toList.drop i)) i w) := by
  have hlen : s.data.toList.length = s.size := rfl
  by_cases h0 : i = s.size
  · have h0' : (s.size : Int) ≤ (i : Int) := by omega
    have HE : Hid (strictL (s.data.toList.drop i) = none) := Lib.hid (by rw [List.drop_of_length_le (by omega)]; rfl)
    clear hi h0 hlen
    go_enter Tryz.func71, Tryz.ntmps71
    go_wp2_with fail
    go_ret3
    exact RWords.none HE.out (Mod.refl _ _)
  · have hlt : i < s.size := by omega
    have hd0 : decide ((s.size : Int) ≤ (i : Int)) = false := by simp; omega
    have hii : (i : Int) < (s.size : Int) := by omega
    have hi0 : (0 : Int) ≤ i := by omega
    obtain ⟨c, hci⟩ : ∃ c, s[i]'hlt = c := ⟨_, rfl⟩
    have hgi : s.data.toList[i]'(by omega) = c := hci
    have hdrop : s.data.toList.drop i = s.data.toList[i]'(by omega) :: s.data.toList.drop (i + 1) := List.drop_eq_getElem_cons _
    rw [hgi] at hdrop
    by_cases hc : c = 34
    rotate_left
    · have hcn : ((c.toNat : Int) != 34) = true := by
        simp only [bne_iff_ne, ne_eq]
        intro h
        exact hc (UInt8.toNat_inj.1 (by have : (34 : UInt8).toNat = 34 := rfl; omega))
      have HE : Hid (strictL (s.data.toList.drop i) = none) := Lib.hid (by
        rw [hdrop, strictL, if_neg]
        simp only [List.head?_cons, Option.some.injEq]
        exact hc)
      clear hdrop hgi hlen h0 hi hc
      go_enter Tryz.func71, Tryz.ntmps71
      go_wp2_with fail
      go_ret3
      exact RWords.none HE.out (Mod.refl _ _)
    · subst hc
      have hwd := val_words s i w (by omega) hlt
      have hE : strictL (s.data.toList.drop i) = match wordsOf (s.data.toList.drop (i + 1)) with
          | none => none
          | some (w, n) => if quoteL w = (s.data.toList.drop i).take (n + 1) then some (w, n + 1) else none := by
        rw [hdrop]
        unfold strictL
        exact if_pos rfl
      have hle := fun l k (h : wordsOf (s.data.toList.drop (i + 1)) = some (l, k)) => (wordsL_le _ [] 0 (s.data.toList.drop (i + 1)) l k h).2
      have HLE : Hid (∀ l k, wordsOf (s.data.toList.drop (i + 1)) = some (l, k) → i + 1 + k ≤ s.size) := Lib.hid (fun l k h => by
        have h1 := hle l k h
        rw [List.length_drop] at h1
        omega)
      have HSZ : Hid (∀ l k, wordsOf (s.data.toList.drop (i + 1)) = some (l, k) → l.length ≤ 4 * (k + 1)) := Lib.hid (fun l k h => wordsL_size _ [] 0 _ l k (by simp) h)
      have hexd := fun n => extract_data s i n
      generalize hq : wordsOf (s.data.toList.drop (i + 1)) = q at *
      have HE := Lib.hid hE
      have HX := Lib.hid hexd
      clear hdrop hgi hlen h0 hi hE hle hexd hq
      go_enter Tryz.func71, Tryz.ntmps71
      go_wp2_with fail
      refine hwd.mono ?_
      clear hwd
      rintro e w2 ⟨x, m, b, rfl, hm2, ⟨rfl, rfl⟩ | ⟨l, k, rfl, rfl, rfl, rfl⟩⟩
      · have HM2 := Lib.hid hm2
        clear hm2
        go_upto_region 4 with fail
        refine wp_region_held_drew (S := fun _ => True) (by kernel_rfl) trivial (fun _ => ?_)
        refine wpAnyH_take (i := 0) (v := ?_) rfl (by kernel_rfl) (by kernel_rfl) (by kernel_rfl) (fun _ _ _ h => h) (Or.inl ⟨by rfl, fun W hSw => ?_⟩) trivial ?_
        rotate_left
        · (try simp only [List.getElem_toArray, List.getElem_cons_zero, List.getElem_cons_succ]); go_simp; any_goals (with_reducible rfl)
        (try simp only [Act.put, List.getElem_toArray, List.getElem_cons_zero, List.getElem_cons_succ, List.setIfInBounds_toArray, List.set_cons_zero, List.set_cons_succ])
        refine wpAnyH_take (i := 1) (v := ?_) rfl (by kernel_rfl) (by kernel_rfl) (by kernel_rfl) (fun _ _ _ h => h) (Or.inl ⟨by rfl, fun W hSw => ?_⟩) trivial ?_
        rotate_left
        · (try simp only [List.getElem_toArray, List.getElem_cons_zero, List.getElem_cons_succ]); go_simp; any_goals (with_reducible rfl)
        (try simp only [Act.put, List.getElem_toArray, List.getElem_cons_zero, List.getElem_cons_succ, List.setIfInBounds_toArray, List.set_cons_zero, List.set_cons_succ])
        refine wpAnyH_take (i := 2) (v := ?_) rfl (by kernel_rfl) (by kernel_rfl) (by kernel_rfl) (fun _ _ _ h => h) (Or.inl ⟨by rfl, fun W hSw => ?_⟩) trivial ?_
        rotate_left
        · (try simp only [List.getElem_toArray, List.getElem_cons_zero, List.getElem_cons_succ]); go_simp; any_goals (with_reducible rfl)
        (try simp only [Act.put, List.getElem_toArray, List.getElem_cons_zero, List.getElem_cons_succ, List.setIfInBounds_toArray, List.set_cons_zero, List.set_cons_succ])
        refine wpAnyH_take (i := 3) (v := ?_) rfl (by kernel_rfl) (by kernel_rfl) (by kernel_rfl) (fun _ _ _ h => h) (Or.inl ⟨by rfl, fun W hSw => ?_⟩) trivial ?_
        rotate_left
        · (try simp only [List.getElem_toArray, List.getElem_cons_zero, List.getElem_cons_succ]); go_simp; any_goals (with_reducible rfl)
        (try simp only [Act.put, List.getElem_toArray, List.getElem_cons_zero, List.getElem_cons_succ, List.setIfInBounds_toArray, List.set_cons_zero, List.set_cons_succ])
        refine wpAnyH_take (i := 4) (v := undef) rfl (by kernel_rfl) (by kernel_rfl) (by kernel_rfl) (fun _ _ _ h => h) (Or.inr ⟨by rfl, rfl⟩) trivial ?_
        (try simp only [Act.put, List.getElem_toArray, List.getElem_cons_zero, List.getElem_cons_succ, List.setIfInBounds_toArray, List.set_cons_zero, List.set_cons_succ])
        refine wpAnyH_take (i := 5) (v := undef) rfl (by kernel_rfl) (by kernel_rfl) (by kernel_rfl) (fun _ _ _ h => h) (Or.inr ⟨by rfl, rfl⟩) trivial ?_
        (try simp only [Act.put, List.getElem_toArray, List.getElem_cons_zero, List.getElem_cons_succ, List.setIfInBounds_toArray, List.set_cons_zero, List.set_cons_succ])
        refine wpAnyH_take (i := 6) (v := undef) rfl (by kernel_rfl) (by kernel_rfl) (by kernel_rfl) (fun _ _ _ h => h) (Or.inr ⟨by rfl, rfl⟩) trivial ?_
        (try simp only [Act.put, List.getElem_toArray, List.getElem_cons_zero, List.getElem_cons_succ, List.setIfInBounds_toArray, List.set_cons_zero, List.set_cons_succ])
        refine wpAnyH_take (i := 7) (v := undef) rfl (by kernel_rfl) (by kernel_rfl) (by kernel_rfl) (fun _ _ _ h => h) (Or.inr ⟨by rfl, rfl⟩) trivial ?_
        (try simp only [Act.put, List.getElem_toArray, List.getElem_cons_zero, List.getElem_cons_succ, List.setIfInBounds_toArray, List.set_cons_zero, List.set_cons_succ])
        refine wpAnyH_take (i := 8) (v := undef) rfl (by kernel_rfl) (by kernel_rfl) (by kernel_rfl) (fun _ _ _ h => h) (Or.inr ⟨by rfl, rfl⟩) trivial ?_
        (try simp only [Act.put, List.getElem_toArray, List.getElem_cons_zero, List.getElem_cons_succ, List.setIfInBounds_toArray, List.set_cons_zero, List.set_cons_succ])
        refine wpAnyH_take (i := 9) (v := undef) rfl (by kernel_rfl) (by kernel_rfl) (by kernel_rfl) (fun _ _ _ h => h) (Or.inr ⟨by rfl, rfl⟩) trivial ?_
        (try simp only [Act.put, List.getElem_toArray, List.getElem_cons_zero, List.getElem_cons_succ, List.setIfInBounds_toArray, List.set_cons_zero, List.set_cons_succ])
        refine wpAnyH_take (i := 10) (v := undef) rfl (by kernel_rfl) (by kernel_rfl) (by kernel_rfl) (fun _ _ _ h => h) (Or.inr ⟨by rfl, rfl⟩) trivial ?_
        (try simp only [Act.put, List.getElem_toArray, List.getElem_cons_zero, List.getElem_cons_succ, List.setIfInBounds_toArray, List.set_cons_zero, List.set_cons_succ])
        refine wpAnyH_take (i := 11) (v := ?_) rfl (by kernel_rfl) (by kernel_rfl) (by kernel_rfl) (fun _ _ _ h => h) (Or.inl ⟨by rfl, fun W hSw => ?_⟩) trivial ?_
        rotate_left
        · (try simp only [List.getElem_toArray, List.getElem_cons_zero, List.getElem_cons_succ]); go_simp; any_goals (with_reducible rfl)
        (try simp only [Act.put, List.getElem_toArray, List.getElem_cons_zero, List.getElem_cons_succ, List.setIfInBounds_toArray, List.set_cons_zero, List.set_cons_succ])
        refine wpAnyH_take (i := 12) (v := ?_) rfl (by kernel_rfl) (by kernel_rfl) (by kernel_rfl) (fun _ _ _ h => h) (Or.inl ⟨by rfl, fun W hSw => ?_⟩) trivial ?_
        rotate_left
        · (try simp only [List.getElem_toArray, List.getElem_cons_zero, List.getElem_cons_succ]); go_simp; any_goals (with_reducible rfl)
        (try simp only [Act.put, List.getElem_toArray, List.getElem_cons_zero, List.getElem_cons_succ, List.setIfInBounds_toArray, List.set_cons_zero, List.set_cons_succ])
        refine wpAnyH_take (i := 13) (v := ?_) rfl (by kernel_rfl) (by kernel_rfl) (by kernel_rfl) (fun _ _ _ h => h) (Or.inl ⟨by rfl, fun W hSw => ?_⟩) trivial ?_
        rotate_left
        · (try simp only [List.getElem_toArray, List.getElem_cons_zero, List.getElem_cons_succ]); go_simp; any_goals (with_reducible rfl)
        (try simp only [Act.put, List.getElem_toArray, List.getElem_cons_zero, List.getElem_cons_succ, List.setIfInBounds_toArray, List.set_cons_zero, List.set_cons_succ])
        refine wpAnyH_take (i := 14) (v := ?_) rfl (by kernel_rfl) (by kernel_rfl) (by kernel_rfl) (fun _ _ _ h => h) (Or.inl ⟨by rfl, fun W hSw => ?_⟩) trivial ?_
        rotate_left
        · (try simp only [List.getElem_toArray, List.getElem_cons_zero, List.getElem_cons_succ]); go_simp; any_goals (with_reducible rfl)
        (try simp only [Act.put, List.getElem_toArray, List.getElem_cons_zero, List.getElem_cons_succ, List.setIfInBounds_toArray, List.set_cons_zero, List.set_cons_succ])
        refine wpAnyH_done (by kernel_rfl) ?_ _
        go_wp2_with fail
        go_ret3
        exact RWords.none HE.out (HM2.out.drew)
      · have hle := HLE.out l k rfl
        have hsz := HSZ.out l k rfl
        have hxl : (⟨l.toArray⟩ : ByteArray).data.toList = l := by simp
        have hxs : (⟨l.toArray⟩ : ByteArray).size = l.length := by show (List.toArray _).size = _; simp
        have hqv := fun W => quote_v ⟨l.toArray⟩ W (by omega)
        rw [hxl] at hqv
        have hcmp : ((⟨(quoteL l).toArray⟩ : ByteArray).toList == (s.extract i (i + 1 + k)).toList) = decide (quoteL l = (s.data.toList.drop i).take (k + 1)) := by
          rw [ByteArray.toList_eq, ByteArray.toList_eq, HX.out, show i + 1 + k - i = k + 1 by omega, Bool.eq_iff_iff, beq_iff_eq, decide_eq_true_eq]
        have HR : Hid (strictL (s.data.toList.drop i) = if quoteL l = (s.data.toList.drop i).take (k + 1) then some (l, k + 1) else none) := Lib.hid HE.out
        have HM2 := Lib.hid hm2
        have hb1 : (i : Int) ≤ ((i + 1 + k : Nat) : Int) := by omega
        have hb2 : ((i + 1 + k : Nat) : Int) ≤ (s.size : Int) := by omega
        have hb3 : (0 : Int) ≤ ((i + 1 + k : Nat) : Int) := by omega
        obtain ⟨T, hT⟩ : ∃ T : ByteArray, T = ⟨(quoteL l).toArray⟩ := ⟨_, rfl⟩
        rw [← hT] at hcmp
        have HQV : Hid (∀ W : World, Calls Tryz.prog 66 #[.string ⟨l.toArray⟩] W fun e w' => e = .returned (.string T) ∧ New W w') := Lib.hid (by rw [hT]; exact hqv)
        generalize hend : i + 1 + k = en at *
        have HEN := Lib.hid hend
        obtain ⟨X, hX⟩ : ∃ X : ByteArray, X = ⟨l.toArray⟩ := ⟨_, rfl⟩
        rw [← hX] at HQV ⊢
        have HXL := Lib.hid hX
        clear hm2 hqv hT hend hxl hxs HE HLE HSZ hX
        by_cases hp : quoteL l = (s.data.toList.drop i).take (k + 1)
        · rw [decide_eq_true hp] at hcmp
          have HE1 : Hid (strictL (s.data.toList.drop i) = some (l, k + 1)) := Lib.hid (by rw [HR.out, if_pos hp])
          clear hp HR
          go_upto_region 4 with fail
          refine wp_region_held_drew (S := fun _ => True) (by kernel_rfl) trivial (fun _ => ?_)
          refine wpAnyH_take (i := 0) (v := ?_) rfl (by kernel_rfl) (by kernel_rfl) (by kernel_rfl) (fun _ _ _ h => h) (Or.inl ⟨by rfl, fun W hSw => ?_⟩) trivial ?_
          rotate_left
          · (try simp only [List.getElem_toArray, List.getElem_cons_zero, List.getElem_cons_succ]); go_simp; any_goals (with_reducible rfl)
          (try simp only [Act.put, List.getElem_toArray, List.getElem_cons_zero, List.getElem_cons_succ, List.setIfInBounds_toArray, List.set_cons_zero, List.set_cons_succ])
          refine wpAnyH_take (i := 1) (v := ?_) rfl (by kernel_rfl) (by kernel_rfl) (by kernel_rfl) (fun _ _ _ h => h) (Or.inl ⟨by rfl, fun W hSw => ?_⟩) trivial ?_
          rotate_left
          · (try simp only [List.getElem_toArray, List.getElem_cons_zero, List.getElem_cons_succ]); go_simp; any_goals (with_reducible rfl)
          (try simp only [Act.put, List.getElem_toArray, List.getElem_cons_zero, List.getElem_cons_succ, List.setIfInBounds_toArray, List.set_cons_zero, List.set_cons_succ])
          refine wpAnyH_take (i := 2) (v := ?_) rfl (by kernel_rfl) (by kernel_rfl) (by kernel_rfl) (fun _ _ _ h => h) (Or.inl ⟨by rfl, fun W hSw => ?_⟩) trivial ?_
          rotate_left
          · (try simp only [List.getElem_toArray, List.getElem_cons_zero, List.getElem_cons_succ]); go_simp; any_goals (with_reducible rfl)
          (try simp only [Act.put, List.getElem_toArray, List.getElem_cons_zero, List.getElem_cons_succ, List.setIfInBounds_toArray, List.set_cons_zero, List.set_cons_succ])
          refine wpAnyH_take (i := 3) (v := ?_) rfl (by kernel_rfl) (by kernel_rfl) (by kernel_rfl) (fun _ _ _ h => h) (Or.inl ⟨by rfl, fun W hSw => ?_⟩) trivial ?_
          rotate_left
          · (try simp only [List.getElem_toArray, List.getElem_cons_zero, List.getElem_cons_succ]); go_simp; any_goals (with_reducible rfl)
          (try simp only [Act.put, List.getElem_toArray, List.getElem_cons_zero, List.getElem_cons_succ, List.setIfInBounds_toArray, List.set_cons_zero, List.set_cons_succ])
          refine wpAnyH_take (i := 4) (v := ?_) rfl (by kernel_rfl) (by kernel_rfl) (by kernel_rfl) (fun _ _ _ h => h) (Or.inl ⟨by rfl, fun W hSw => ?_⟩) trivial ?_
          rotate_left
          · (try simp only [List.getElem_toArray, List.getElem_cons_zero, List.getElem_cons_succ]); go_simp; any_goals (with_reducible rfl)
          (try simp only [Act.put, List.getElem_toArray, List.getElem_cons_zero, List.getElem_cons_succ, List.setIfInBounds_toArray, List.set_cons_zero, List.set_cons_succ])
          refine wpAnyH_take (i := 6) (v := ?_) rfl (by kernel_rfl) (by kernel_rfl) (by kernel_rfl) (fun _ _ _ h => h) (Or.inl ⟨by rfl, fun W hSw => ?_⟩) trivial ?_
          rotate_left
          · (try simp only [List.getElem_toArray, List.getElem_cons_zero, List.getElem_cons_succ]); go_simp; any_goals (with_reducible rfl)
          (try simp only [Act.put, List.getElem_toArray, List.getElem_cons_zero, List.getElem_cons_succ, List.setIfInBounds_toArray, List.set_cons_zero, List.set_cons_succ])
          refine wpAnyH_take (i := 7) (v := ?_) rfl (by kernel_rfl) (by kernel_rfl) (by kernel_rfl) (fun _ _ _ h => h) (Or.inl ⟨by rfl, fun W hSw => ?_⟩) trivial ?_
          rotate_left
          · (try simp only [List.getElem_toArray, List.getElem_cons_zero, List.getElem_cons_succ]); go_simp; any_goals (with_reducible rfl)
          (try simp only [Act.put, List.getElem_toArray, List.getElem_cons_zero, List.getElem_cons_succ, List.setIfInBounds_toArray, List.set_cons_zero, List.set_cons_succ])
          refine wpAnyH_take (i := 8) (v := ?_) rfl (by kernel_rfl) (by kernel_rfl) (by kernel_rfl) (fun _ _ _ h => h) (Or.inl ⟨by rfl, fun W hSw => ?_⟩) trivial ?_
          rotate_left
          · (try simp only [List.getElem_toArray, List.getElem_cons_zero, List.getElem_cons_succ]); go_simp; any_goals (with_reducible rfl)
          (try simp only [Act.put, List.getElem_toArray, List.getElem_cons_zero, List.getElem_cons_succ, List.setIfInBounds_toArray, List.set_cons_zero, List.set_cons_succ])
          refine wpAnyH_take (i := 9) (v := ?_) rfl (by kernel_rfl) (by kernel_rfl) (by kernel_rfl) (fun _ _ _ h => h) (Or.inl ⟨by rfl, fun W hSw => ?_⟩) trivial ?_
          rotate_left
          · (try simp only [List.getElem_toArray, List.getElem_cons_zero, List.getElem_cons_succ]); go_simp; any_goals (with_reducible rfl)
          (try simp only [Act.put, List.getElem_toArray, List.getElem_cons_zero, List.getElem_cons_succ, List.setIfInBounds_toArray, List.set_cons_zero, List.set_cons_succ])
          refine wpAnyH_ready (rs := [5]) (by kernel_rfl) (by simp) ?_
          refine AllReadyH.cons rfl (fun K hK => ?_) AllReadyH.nil
          rw [if_pos (by rfl)]
          (try simp only [List.getElem_toArray, List.getElem_cons_zero, List.getElem_cons_succ])
          go_simp
          refine (HQV.out _).mono ?_
          rintro e w4 ⟨rfl, hm4⟩
          have HM4 := Lib.hid hm4
          clear hm4
          go_wp2_with fail
          refine hK.out _ _ trivial (fun _ => ?_)
          clear hK K
          (try simp only [Act.put, List.getElem_toArray, List.getElem_cons_zero, List.getElem_cons_succ, List.setIfInBounds_toArray, List.set_cons_zero, List.set_cons_succ])
          refine wpAnyH_take (i := 10) (v := ?_) rfl (by kernel_rfl) (by kernel_rfl) (by kernel_rfl) (fun _ _ _ h => h) (Or.inl ⟨by rfl, fun W hSw => ?_⟩) trivial ?_
          rotate_left
          · (try simp only [List.getElem_toArray, List.getElem_cons_zero, List.getElem_cons_succ]); go_simp; any_goals (with_reducible rfl)
          (try simp only [Act.put, List.getElem_toArray, List.getElem_cons_zero, List.getElem_cons_succ, List.setIfInBounds_toArray, List.set_cons_zero, List.set_cons_succ])
          refine wpAnyH_take (i := 11) (v := ?_) rfl (by kernel_rfl) (by kernel_rfl) (by kernel_rfl) (fun _ _ _ h => h) (Or.inl ⟨by rfl, fun W hSw => ?_⟩) trivial ?_
          rotate_left
          · (try simp only [List.getElem_toArray, List.getElem_cons_zero, List.getElem_cons_succ]); go_simp; any_goals (with_reducible rfl)
          (try simp only [Act.put, List.getElem_toArray, List.getElem_cons_zero, List.getElem_cons_succ, List.setIfInBounds_toArray, List.set_cons_zero, List.set_cons_succ])
          refine wpAnyH_take (i := 12) (v := ?_) rfl (by kernel_rfl) (by kernel_rfl) (by kernel_rfl) (fun _ _ _ h => h) (Or.inl ⟨by rfl, fun W hSw => ?_⟩) trivial ?_
          rotate_left
          · (try simp only [List.getElem_toArray, List.getElem_cons_zero, List.getElem_cons_succ]); go_simp; any_goals (with_reducible rfl)
          (try simp only [Act.put, List.getElem_toArray, List.getElem_cons_zero, List.getElem_cons_succ, List.setIfInBounds_toArray, List.set_cons_zero, List.set_cons_succ])
          refine wpAnyH_take (i := 13) (v := ?_) rfl (by kernel_rfl) (by kernel_rfl) (by kernel_rfl) (fun _ _ _ h => h) (Or.inl ⟨by rfl, fun W hSw => ?_⟩) trivial ?_
          rotate_left
          · (try simp only [List.getElem_toArray, List.getElem_cons_zero, List.getElem_cons_succ]); go_simp; any_goals (with_reducible rfl)
          (try simp only [Act.put, List.getElem_toArray, List.getElem_cons_zero, List.getElem_cons_succ, List.setIfInBounds_toArray, List.set_cons_zero, List.set_cons_succ])
          refine wpAnyH_take (i := 14) (v := ?_) rfl (by kernel_rfl) (by kernel_rfl) (by kernel_rfl) (fun _ _ _ h => h) (Or.inl ⟨by rfl, fun W hSw => ?_⟩) trivial ?_
          rotate_left
          · (try simp only [List.getElem_toArray, List.getElem_cons_zero, List.getElem_cons_succ]); go_simp; any_goals (with_reducible rfl)
          (try simp only [Act.put, List.getElem_toArray, List.getElem_cons_zero, List.getElem_cons_succ, List.setIfInBounds_toArray, List.set_cons_zero, List.set_cons_succ])
          refine wpAnyH_done (by kernel_rfl) ?_ _
          go_wp2_with fail
          go_ret3
          exact ⟨_, _, _, rfl, HM2.out.trans (((Mod.refl (fun _ => False) w2).drew).trans HM4.out), .inr ⟨l, k + 1, HE1.out, rfl, HXL.out, by have := HEN.out; omega⟩⟩
        · rw [decide_eq_false hp] at hcmp
          have HE1 : Hid (strictL (s.data.toList.drop i) = none) := Lib.hid (by rw [HR.out, if_neg hp])
          clear hp HR
          go_upto_region 4 with fail
          refine wp_region_held_drew (S := fun _ => True) (by kernel_rfl) trivial (fun _ => ?_)
          refine wpAnyH_take (i := 0) (v := ?_) rfl (by kernel_rfl) (by kernel_rfl) (by kernel_rfl) (fun _ _ _ h => h) (Or.inl ⟨by rfl, fun W hSw => ?_⟩) trivial ?_
          rotate_left
          · (try simp only [List.getElem_toArray, List.getElem_cons_zero, List.getElem_cons_succ]); go_simp; any_goals (with_reducible rfl)
          (try simp only [Act.put, List.getElem_toArray, List.getElem_cons_zero, List.getElem_cons_succ, List.setIfInBounds_toArray, List.set_cons_zero, List.set_cons_succ])
          refine wpAnyH_take (i := 1) (v := ?_) rfl (by kernel_rfl) (by kernel_rfl) (by kernel_rfl) (fun _ _ _ h => h) (Or.inl ⟨by rfl, fun W hSw => ?_⟩) trivial ?_
          rotate_left
          · (try simp only [List.getElem_toArray, List.getElem_cons_zero, List.getElem_cons_succ]); go_simp; any_goals (with_reducible rfl)
          (try simp only [Act.put, List.getElem_toArray, List.getElem_cons_zero, List.getElem_cons_succ, List.setIfInBounds_toArray, List.set_cons_zero, List.set_cons_succ])
          refine wpAnyH_take (i := 2) (v := ?_) rfl (by kernel_rfl) (by kernel_rfl) (by kernel_rfl) (fun _ _ _ h => h) (Or.inl ⟨by rfl, fun W hSw => ?_⟩) trivial ?_
          rotate_left
          · (try simp only [List.getElem_toArray, List.getElem_cons_zero, List.getElem_cons_succ]); go_simp; any_goals (with_reducible rfl)
          (try simp only [Act.put, List.getElem_toArray, List.getElem_cons_zero, List.getElem_cons_succ, List.setIfInBounds_toArray, List.set_cons_zero, List.set_cons_succ])
          refine wpAnyH_take (i := 3) (v := ?_) rfl (by kernel_rfl) (by kernel_rfl) (by kernel_rfl) (fun _ _ _ h => h) (Or.inl ⟨by rfl, fun W hSw => ?_⟩) trivial ?_
          rotate_left
          · (try simp only [List.getElem_toArray, List.getElem_cons_zero, List.getElem_cons_succ]); go_simp; any_goals (with_reducible rfl)
          (try simp only [Act.put, List.getElem_toArray, List.getElem_cons_zero, List.getElem_cons_succ, List.setIfInBounds_toArray, List.set_cons_zero, List.set_cons_succ])
          refine wpAnyH_take (i := 4) (v := ?_) rfl (by kernel_rfl) (by kernel_rfl) (by kernel_rfl) (fun _ _ _ h => h) (Or.inl ⟨by rfl, fun W hSw => ?_⟩) trivial ?_
          rotate_left
          · (try simp only [List.getElem_toArray, List.getElem_cons_zero, List.getElem_cons_succ]); go_simp; any_goals (with_reducible rfl)
          (try simp only [Act.put, List.getElem_toArray, List.getElem_cons_zero, List.getElem_cons_succ, List.setIfInBounds_toArray, List.set_cons_zero, List.set_cons_succ])
          refine wpAnyH_take (i := 6) (v := ?_) rfl (by kernel_rfl) (by kernel_rfl) (by kernel_rfl) (fun _ _ _ h => h) (Or.inl ⟨by rfl, fun W hSw => ?_⟩) trivial ?_
          rotate_left
          · (try simp only [List.getElem_toArray, List.getElem_cons_zero, List.getElem_cons_succ]); go_simp; any_goals (with_reducible rfl)
          (try simp only [Act.put, List.getElem_toArray, List.getElem_cons_zero, List.getElem_cons_succ, List.setIfInBounds_toArray, List.set_cons_zero, List.set_cons_succ])
          refine wpAnyH_take (i := 7) (v := ?_) rfl (by kernel_rfl) (by kernel_rfl) (by kernel_rfl) (fun _ _ _ h => h) (Or.inl ⟨by rfl, fun W hSw => ?_⟩) trivial ?_
          rotate_left
          · (try simp only [List.getElem_toArray, List.getElem_cons_zero, List.getElem_cons_succ]); go_simp; any_goals (with_reducible rfl)
          (try simp only [Act.put, List.getElem_toArray, List.getElem_cons_zero, List.getElem_cons_succ, List.setIfInBounds_toArray, List.set_cons_zero, List.set_cons_succ])
          refine wpAnyH_take (i := 8) (v := ?_) rfl (by kernel_rfl) (by kernel_rfl) (by kernel_rfl) (fun _ _ _ h => h) (Or.inl ⟨by rfl, fun W hSw => ?_⟩) trivial ?_
          rotate_left
          · (try simp only [List.getElem_toArray, List.getElem_cons_zero, List.getElem_cons_succ]); go_simp; any_goals (with_reducible rfl)
          (try simp only [Act.put, List.getElem_toArray, List.getElem_cons_zero, List.getElem_cons_succ, List.setIfInBounds_toArray, List.set_cons_zero, List.set_cons_succ])
          refine wpAnyH_take (i := 9) (v := ?_) rfl (by kernel_rfl) (by kernel_rfl) (by kernel_rfl) (fun _ _ _ h => h) (Or.inl ⟨by rfl, fun W hSw => ?_⟩) trivial ?_
          rotate_left
          · (try simp only [List.getElem_toArray, List.getElem_cons_zero, List.getElem_cons_succ]); go_simp; any_goals (with_reducible rfl)
          (try simp only [Act.put, List.getElem_toArray, List.getElem_cons_zero, List.getElem_cons_succ, List.setIfInBounds_toArray, List.set_cons_zero, List.set_cons_succ])
          refine wpAnyH_ready (rs := [5]) (by kernel_rfl) (by simp) ?_
          refine AllReadyH.cons rfl (fun K hK => ?_) AllReadyH.nil
          rw [if_pos (by rfl)]
          (try simp only [List.getElem_toArray, List.getElem_cons_zero, List.getElem_cons_succ])
          go_simp
          refine (HQV.out _).mono ?_
          rintro e w4 ⟨rfl, hm4⟩
          have HM4 := Lib.hid hm4
          clear hm4
          go_wp2_with fail
          refine hK.out _ _ trivial (fun _ => ?_)
          clear hK K
          (try simp only [Act.put, List.getElem_toArray, List.getElem_cons_zero, List.getElem_cons_succ, List.setIfInBounds_toArray, List.set_cons_zero, List.set_cons_succ])
          refine wpAnyH_take (i := 10) (v := ?_) rfl (by kernel_rfl) (by kernel_rfl) (by kernel_rfl) (fun _ _ _ h => h) (Or.inl ⟨by rfl, fun W hSw => ?_⟩) trivial ?_
          rotate_left
          · (try simp only [List.getElem_toArray, List.getElem_cons_zero, List.getElem_cons_succ]); go_simp; any_goals (with_reducible rfl)
          (try simp only [Act.put, List.getElem_toArray, List.getElem_cons_zero, List.getElem_cons_succ, List.setIfInBounds_toArray, List.set_cons_zero, List.set_cons_succ])
          refine wpAnyH_take (i := 11) (v := ?_) rfl (by kernel_rfl) (by kernel_rfl) (by kernel_rfl) (fun _ _ _ h => h) (Or.inl ⟨by rfl, fun W hSw => ?_⟩) trivial ?_
          rotate_left
          · (try simp only [List.getElem_toArray, List.getElem_cons_zero, List.getElem_cons_succ]); go_simp; any_goals (with_reducible rfl)
          (try simp only [Act.put, List.getElem_toArray, List.getElem_cons_zero, List.getElem_cons_succ, List.setIfInBounds_toArray, List.set_cons_zero, List.set_cons_succ])
          refine wpAnyH_take (i := 12) (v := ?_) rfl (by kernel_rfl) (by kernel_rfl) (by kernel_rfl) (fun _ _ _ h => h) (Or.inl ⟨by rfl, fun W hSw => ?_⟩) trivial ?_
          rotate_left
          · (try simp only [List.getElem_toArray, List.getElem_cons_zero, List.getElem_cons_succ]); go_simp; any_goals (with_reducible rfl)
          (try simp only [Act.put, List.getElem_toArray, List.getElem_cons_zero, List.getElem_cons_succ, List.setIfInBounds_toArray, List.set_cons_zero, List.set_cons_succ])
          refine wpAnyH_take (i := 13) (v := ?_) rfl (by kernel_rfl) (by kernel_rfl) (by kernel_rfl) (fun _ _ _ h => h) (Or.inl ⟨by rfl, fun W hSw => ?_⟩) trivial ?_
          rotate_left
          · (try simp only [List.getElem_toArray, List.getElem_cons_zero, List.getElem_cons_succ]); go_simp; any_goals (with_reducible rfl)
          (try simp only [Act.put, List.getElem_toArray, List.getElem_cons_zero, List.getElem_cons_succ, List.setIfInBounds_toArray, List.set_cons_zero, List.set_cons_succ])
          refine wpAnyH_take (i := 14) (v := ?_) rfl (by kernel_rfl) (by kernel_rfl) (by kernel_rfl) (fun _ _ _ h => h) (Or.inl ⟨by rfl, fun W hSw => ?_⟩) trivial ?_
          rotate_left
          · (try simp only [List.getElem_toArray, List.getElem_cons_zero, List.getElem_cons_succ]); go_simp; any_goals (with_reducible rfl)
          (try simp only [Act.put, List.getElem_toArray, List.getElem_cons_zero, List.getElem_cons_succ, List.setIfInBounds_toArray, List.set_cons_zero, List.set_cons_succ])
          refine wpAnyH_done (by kernel_rfl) ?_ _
          go_wp2_with fail
          go_ret3
          exact RWords.none HE1.out (HM2.out.trans (((Mod.refl (fun _ => False) w2).drew).trans HM4.out))

end Go.Proofs.YtpgcbehpknghdaaGreatDoor

namespace Go.Proofs.YtpgcbehpknghdaaGreatDoor
open Go.RowKit
set_option linter.unusedVariables false
set_option linter.unusedSimpArgs false

theorem tw_eq (p : UInt8 → Bool) : ∀ (r : List UInt8) (m : Nat), m ≤ r.length → (∀ j (h : j < r.length), j < m → p r[j] = true) → (∀ h : m < r.length, p r[m] = false) → r.takeWhile p = r.take m
  | [], m, _, _, _ => by simp
  | c :: r, 0, _, _, h2 => by
    have := h2 (by simp)
    simp only [List.getElem_cons_zero] at this
    rw [List.takeWhile_cons, this]
    rfl
  | c :: r, m + 1, h0, h1, h2 => by
    have hc := h1 0 (by simp) (by omega)
    simp only [List.getElem_cons_zero] at hc
    rw [List.takeWhile_cons, hc, List.take_succ_cons]
    simp only [if_true]
    rw [tw_eq p r m (by simpa using h0) (fun j h hj => by have := h1 (j + 1) (by simpa using h) (by omega); simpa using this) (fun h => by have := h2 (by simpa using h); simpa using this)]
theorem tw_all (p : UInt8 → Bool) : ∀ l : List UInt8, (l.takeWhile p).all p = true
  | [] => rfl
  | c :: l => by
    rw [List.takeWhile_cons]
    by_cases h : p c = true
    · rw [if_pos h, List.all_cons, h, tw_all p l]; rfl
    · rw [if_neg h]; rfl
/-- where a row of letters, digits and _ ends that begins with no digit -/
theorem plain_head {s : ByteArray} {i k : Nat} (hik : i ≤ k) (hks : k ≤ s.size) (h1 : ∀ j, i ≤ j → j < k → rowAt s.data.toList i j = true) (h2 : k < s.size → rowAt s.data.toList i k = false) :
    (plainRow (wrdHead (s.data.toList.drop i)) = true ∧ i < k ∧ wrdHead (s.data.toList.drop i) = (s.data.toList.drop i).take (k - i)) ∨ (plainRow (wrdHead (s.data.toList.drop i)) = false ∧ k = i) := by
  have hl : s.data.toList.length = s.size := rfl
  have hg : ∀ j (h : j < s.data.toList.length), s.data.toList.getD j 0 = s.data.toList[j] := fun j h => by simp [List.getD_eq_getElem?_getD, List.getElem?_eq_getElem h]
  by_cases hs : i = s.size
  · right
    rw [List.drop_of_length_le (by omega)]
    exact ⟨rfl, by omega⟩
  · have hlt : i < s.data.toList.length := by omega
    have hd : s.data.toList.drop i = s.data.toList[i] :: s.data.toList.drop (i + 1) := List.drop_eq_getElem_cons _
    by_cases hr : rowAt s.data.toList i i = true
    · left
      have hik2 : i < k := by
        rcases Nat.lt_or_ge i k with h | h
        · exact h
        · have e : k = i := by omega
          have := h2 (by omega)
          rw [e, hr] at this
          cases this
      have hw : wrdHead (s.data.toList.drop i) = (s.data.toList.drop i).take (k - i) := by
        unfold wrdHead
        refine tw_eq _ _ _ (by rw [List.length_drop]; omega) (fun j h hj => ?_) (fun h => ?_)
        · rw [List.length_drop] at h
          have := h1 (i + j) (by omega) (by omega)
          unfold rowAt at this
          rw [hg _ (by omega)] at this
          rw [Bool.and_eq_true] at this
          rw [List.getElem_drop]
          exact this.1
        · rw [List.length_drop] at h
          have := h2 (by omega)
          unfold rowAt at this
          rw [hg _ (by omega)] at this
          rw [List.getElem_drop]
          have ek : i + (k - i) = k := by omega
          simp only [ek]
          have hne : decide (k = i) = false := decide_eq_false (by omega)
          rw [hne] at this
          simpa using this
      refine ⟨?_, hik2, hw⟩
      unfold rowAt at hr
      rw [hg _ hlt] at hr
      have hd0 : decide (i = i) = true := decide_eq_true rfl
      rw [hd0, Bool.true_and, Bool.and_eq_true] at hr
      have hh : wrdHead (s.data.toList.drop i) = s.data.toList[i] :: (s.data.toList.drop (i + 1)).takeWhile (fun c => isWrdN c.toNat) := by
        unfold wrdHead
        rw [hd, List.takeWhile_cons, hr.1]
        rfl
      unfold plainRow
      rw [hh]
      simp only [ne_eq, reduceCtorEq, not_false_eq_true, decide_true, Bool.true_and, List.head?_cons, Option.map_some, Option.getD_some, Bool.and_eq_true, List.all_cons]
      refine ⟨⟨hr.1, ?_⟩, hr.2⟩
      exact tw_all _ _
    · right
      have hr' : rowAt s.data.toList i i = false := by simpa using hr
      have hki : k = i := by
        rcases Nat.lt_or_ge i k with h | h
        · have := h1 i (Nat.le_refl _) h
          rw [hr'] at this
          cases this
        · omega
      refine ⟨?_, hki⟩
      unfold rowAt at hr'
      rw [hg _ hlt] at hr'
      have hd0 : decide (i = i) = true := decide_eq_true rfl
      rw [hd0, Bool.true_and] at hr'
      unfold plainRow wrdHead
      rw [hd, List.takeWhile_cons]
      by_cases hw : isWrdN s.data.toList[i].toNat = true
      · rw [hw] at hr'
        rw [if_pos hw]
        simp only [Bool.true_and, Bool.not_eq_false'] at hr'
        simp only [List.head?_cons, Option.map_some, Option.getD_some, hr', Bool.not_true, Bool.and_false]
      · rw [if_neg hw]
        rfl
theorem idx_cons (c b : UInt8) (r : List UInt8) : Lib.indexByte (c :: r) b = if c = b then 0 else if Lib.indexByte r b < 0 then -1 else Lib.indexByte r b + 1 := by
  have hge := Lib.indexByte_ge r b
  rw [Lib.indexByte]
  by_cases h : c = b
  · rw [if_pos (by simpa using h), if_pos h]
  · rw [if_neg (by simpa using h), if_neg h]
    by_cases h2 : Lib.indexByte r b < 0
    · rw [if_pos (by rw [beq_iff_eq]; omega), if_pos h2]
    · rw [if_neg (by rw [beq_iff_eq]; omega), if_neg h2]
/-- words just as they are written, behind a bracket -/
theorem step_strict {r w : List UInt8} {m : Nat} (h : strictL r = some (w, m)) : 1 ≤ m ∧ m ≤ r.length ∧ stepRd (91 :: r) = if plainRow w = false ∧ r[m]? = some 93 then some (⟨true, numB w, 0⟩, m + 2) else none := by
  unfold strictL at h
  split at h
  · rename_i h0
    cases hq : wordsOf (r.drop 1) with
    | none => rw [hq] at h; cases h
    | some q =>
      obtain ⟨w', n⟩ := q
      rw [hq] at h
      simp only at h
      split at h
      · rename_i hp
        injection h with h
        injection h with e1 e2
        subst e1 e2
        obtain ⟨hle, hiff⟩ := quote_ends h0 hq
        refine ⟨by omega, hle, ?_⟩
        rw [stepRd, if_neg (by decide), if_neg (by decide), if_pos h0, hq]
        simp only
        by_cases hc : plainRow w' = false ∧ r[n + 1]? = some 93
        · rw [if_pos ⟨hc.1, hiff.2 ⟨hp, hc.2⟩⟩, if_pos hc]
        · rw [if_neg (fun hh => hc ⟨hh.1, (hiff.1 hh.2).2⟩), if_neg hc]
      · cases h
  · cases h
theorem step_loose {r : List UInt8} (h : strictL r = none) (h0 : r.head? = some 34) : stepRd (91 :: r) = none := by
  unfold strictL at h
  rw [if_pos h0] at h
  rw [stepRd, if_neg (by decide), if_neg (by decide), if_pos h0]
  cases hq : wordsOf (r.drop 1) with
  | none => rfl
  | some q =>
    obtain ⟨w', n⟩ := q
    rw [hq] at h
    simp only at h ⊢
    split at h
    · cases h
    · rename_i hp
      rw [if_neg]
      exact fun hh => hp ((quote_ends h0 hq).2.1 hh.2).1
theorem num_no {l : List UInt8} (h : l.head? = some 34 ∨ l = []) : numOk 9 (numB l) = false := by
  rcases h with h | rfl
  · cases l with
    | nil => cases h
    | cons c r =>
      injection h with h
      subst h
      have e : (numB (34 :: r)).data.toList = 34 :: r := by simp [numB]
      have hd : numD (numB (34 :: r)) = 34 :: r := by
        unfold numD
        rw [e]
        rfl
      unfold numOk
      rw [hd]
      have : isDig 34 = false := by decide
      simp [this]
  · rfl
theorem step_num {r : List UInt8} (h0 : r.head? ≠ some 34) : stepRd (91 :: r) = if Lib.indexByte r 93 < 0 then none else
    if numOk 9 (numB (r.take (Lib.indexByte r 93).toNat)) = false ∨ numV (numB (r.take (Lib.indexByte r 93).toNat)) < 0 then none
    else some (⟨false, ⟨#[]⟩, numV (numB (r.take (Lib.indexByte r 93).toNat))⟩, (Lib.indexByte r 93).toNat + 2) := by
  rw [stepRd, if_neg (by decide), if_neg (by decide), if_neg h0]
  by_cases h1 : Lib.indexByte r 93 < 0
  · rw [if_pos (by omega), if_pos h1]
  · rw [if_neg h1]
    by_cases h2 : Lib.indexByte r 93 = 0
    · rw [h2]
      rw [if_pos (by decide), if_pos (.inl (num_no (.inr (by simp))))]
    · rw [if_neg (by omega)]

end Go.Proofs.YtpgcbehpknghdaaGreatDoor

namespace Go.Proofs.YtpgcbehpknghdaaGreatDoor
open Go.RowKit
set_option linter.unusedVariables false
set_option linter.unusedSimpArgs false

set_option maxHeartbeats 700000 in
theorem kit_small (s : ByteArray) (w : World) (hs : s.size ≤ 1000000) : Calls Tryz.prog 73 #[.string s] w (RNum 9 s w) := by
  have hn := kit_number 9 (by omega) s w hs
  unfold RNum at *
  generalize numOk 9 s = b at *
  go_enter Tryz.func73, Tryz.ntmps73
  go_wp2_with fail
  refine hn.mono ?_
  clear hn
  rintro e w2 ⟨v, rfl, hv, hm⟩
  have HV := Lib.hid hv
  have HM := Lib.hid hm
  clear hv hm
  go_wp2_with fail
  go_ret2
  exact ⟨v, rfl, HV.out, HM.out⟩
theorem strict_size {r w : List UInt8} {m : Nat} (h : strictL r = some (w, m)) : w.length ≤ 4 * m := by
  unfold strictL at h
  split at h
  · cases hq : wordsOf (r.drop 1) with
    | none => rw [hq] at h; cases h
    | some q =>
      obtain ⟨w', n⟩ := q
      rw [hq] at h
      simp only at h
      split at h
      · injection h with h
        injection h with e1 e2
        subst e1 e2
        exact wordsL_size _ [] 0 _ _ n (by simp) hq
      · cases h
  · cases h
/-- a step, where it ends, whether it is there; i: where it begins -/
def RStep (q : Option (St × Nat)) (i : Nat) (w : World) (e : Ending) (w' : World) : Prop :=
  ∃ (st : St) (m : Int) (b : Bool), e = .returned (.tuple #[st.val, .int .i64 m, .bool b]) ∧ New w w' ∧ ((q = none ∧ b = false) ∨ ∃ n, q = some (st, n) ∧ b = true ∧ m = ((i + n : Nat) : Int))

set_option maxRecDepth 100000 in
set_option maxHeartbeats 700000 in
theorem val_readStep (s : ByteArray) (i : Nat) (w : World) (hs : s.size ≤ 15000) (hi : i < s.size) :
    Calls Tryz.prog 47 #[.string s, .int .i64 i] w (RStep (stepRd (s.data.toList.drop i)) i w) := by
  have hlen : s.data.toList.length = s.size := rfl
  have hR := Blk.new w 46 #[.bool false, .string ⟨#[]⟩, .int .i64 0]
  have hm1 : New w (w.alloc (.cells #[.bool false, .string ⟨#[]⟩, .int .i64 0] 46)) := (Mod.refl _ _).alloc _
  have hii : (i : Int) < (s.size : Int) := by omega
  have hi0 : (0 : Int) ≤ i := by omega
  obtain ⟨c, hci⟩ : ∃ c, s[i]'hi = c := ⟨_, rfl⟩
  have hgi : s.data.toList[i]'(by omega) = c := hci
  have hdrop : s.data.toList.drop i = s.data.toList[i]'(by omega) :: s.data.toList.drop (i + 1) := List.drop_eq_getElem_cons _
  rw [hgi] at hdrop
  have HD := Lib.hid hdrop
  go_enter Tryz.func47, Tryz.ntmps47
  go_upto_region 1 with fail
  generalize w.alloc (.cells #[.bool false, .string ⟨#[]⟩, .int .i64 0] 46) = w1 at *
  generalize hrb : w.heap.size = rb at *
  have R := Lib.hid hR
  have HM := Lib.hid hm1
  have HLEN := Lib.hid hlen
  clear hR hm1 hdrop hgi hlen
  have hi1 : i + 1 ≤ s.size := by omega
  have hi1' : (i : Int) + 1 ≤ (s.size : Int) := by omega
  by_cases h46 : c = 46
  · subst h46
    have hpl := val_plain s (i + 1) w1 (by unfold maxLen; omega) hi1
    rw [show ((i + 1 : Nat) : Int) = (i : Int) + 1 by omega] at hpl
    go_wp2_with fail
    refine hpl.mono ?_
    clear hpl
    rintro e w2 ⟨⟨k, rfl, k1, k2, k3, k4⟩, hww⟩
    subst hww
    have hcase := plain_head k1 k2 k3 k4
    have hS : stepRd (s.data.toList.drop i) = if plainRow (wrdHead (s.data.toList.drop (i + 1))) = true then some (⟨true, numB (wrdHead (s.data.toList.drop (i + 1))), 0⟩, (wrdHead (s.data.toList.drop (i + 1))).length + 1) else none := by
      rw [HD.out, stepRd, if_pos rfl]
    have HS := Lib.hid hS
    have HC := Lib.hid hcase
    have HX := Lib.hid (extract_data s (i + 1) k)
    clear k3 k4 hcase hS
    have hk1 : (i : Int) + 1 ≤ (k : Int) := by omega
    have hk2 : (k : Int) ≤ (s.size : Int) := by omega
    have hk0 : (0 : Int) ≤ (k : Int) := by omega
    have hk10 : (0 : Int) ≤ (i : Int) + 1 := by omega
    rcases HC.out with ⟨p1, p2, p3⟩ | ⟨p1, p2⟩
    · have hgt : (i : Int) + 1 < (k : Int) := by omega
      have HF : Hid (stepRd (s.data.toList.drop i) = some (⟨true, s.extract (i + 1) k, 0⟩, k - i)) := Lib.hid (by
        rw [HS.out, if_pos p1, p3]
        have e1 : numB ((s.data.toList.drop (i + 1)).take (k - (i + 1))) = s.extract (i + 1) k := by
          apply ba_ext
          rw [HX.out]
          simp [numB]
        rw [e1, List.length_take, List.length_drop]
        have := HLEN.out
        rw [show min (k - (i + 1)) (s.data.toList.length - (i + 1)) + 1 = k - i by omega])
      clear p1 p2 p3
      have hcR := R.out.cell
      have hfR := R.out.frozen
      have rlt := R.out.lt
      have hmF := fun (v0 v1 v2 : Value) => (Mod.setCell (S := fun k => k = rb) (p := ⟨rb, 2, none⟩) (Mod.setCell (S := fun k => k = rb) (p := ⟨rb, 1, none⟩) (Mod.setCell (S := fun k => k = rb) (p := ⟨rb, 0, none⟩) (Mod.refl _ w1) (.inl rfl) v0) (.inl rfl) v1) (.inl rfl) v2)
      have HMF := Lib.hid hmF
      have HFIN : Hid (∀ W', Mod (fun k => k = rb) w1 W' → New w W') := Lib.hid (fun W' hm => HM.out.step hm (fun i hi e => by omega))
      clear hmF
      go_wp2_with fail
      refine bodyPost_ret (v := .tuple #[St.val (⟨true, s.extract (i + 1) k, 0⟩), .int .i64 (k : Int), .bool true]) (by simp [results, Tryz.results47, go_sem, hcR, hfR, rlt, St.val] <;> omega) rfl ?_
      exact ⟨(⟨true, s.extract (i + 1) k, 0⟩), _, _, rfl, HFIN.out _ (HMF.out _ _ _), .inr ⟨k - i, HF.out, rfl, by omega⟩⟩
    · have hgt : ¬ (i : Int) + 1 < (k : Int) := by omega
      have HF : Hid (stepRd (s.data.toList.drop i) = none) := Lib.hid (by rw [HS.out, if_neg (by rw [p1]; decide)])
      clear p1 p2
      have hcR := R.out.cell
      have hfR := R.out.frozen
      have rlt := R.out.lt
      have hmF := fun (v0 v1 v2 : Value) => (Mod.setCell (S := fun k => k = rb) (p := ⟨rb, 2, none⟩) (Mod.setCell (S := fun k => k = rb) (p := ⟨rb, 1, none⟩) (Mod.setCell (S := fun k => k = rb) (p := ⟨rb, 0, none⟩) (Mod.refl _ w1) (.inl rfl) v0) (.inl rfl) v1) (.inl rfl) v2)
      have HMF := Lib.hid hmF
      have HFIN : Hid (∀ W', Mod (fun k => k = rb) w1 W' → New w W') := Lib.hid (fun W' hm => HM.out.step hm (fun i hi e => by omega))
      clear hmF
      go_wp2_with fail
      refine bodyPost_ret (v := .tuple #[St.val (⟨true, s.extract (i + 1) k, 0⟩), .int .i64 (k : Int), .bool false]) (by simp [results, Tryz.results47, go_sem, hcR, hfR, rlt, St.val] <;> omega) rfl ?_
      exact ⟨(⟨true, s.extract (i + 1) k, 0⟩), _, _, rfl, HFIN.out _ (HMF.out _ _ _), .inl ⟨HF.out, rfl⟩⟩
  · have n46 : ((c.toNat : Int) == 46) = false := by
      simp only [beq_eq_false_iff_ne, ne_eq]
      intro h
      exact h46 (UInt8.toNat_inj.1 (by have : (46 : UInt8).toNat = 46 := rfl; omega))
    by_cases h91 : c = 91
    rotate_left
    · have n91 : ((c.toNat : Int) != 91) = true := by
        simp only [bne_iff_ne, ne_eq]
        intro h
        exact h91 (UInt8.toNat_inj.1 (by have : (91 : UInt8).toNat = 91 := rfl; omega))
      have HF : Hid (stepRd (s.data.toList.drop i) = none) := Lib.hid (by rw [HD.out, stepRd, if_neg h46, if_pos h91])
      clear h46 h91
      have hcR := R.out.cell
      have hfR := R.out.frozen
      have rlt := R.out.lt
      have hmF := fun (v0 v1 v2 : Value) => (Mod.setCell (S := fun k => k = rb) (p := ⟨rb, 2, none⟩) (Mod.setCell (S := fun k => k = rb) (p := ⟨rb, 1, none⟩) (Mod.setCell (S := fun k => k = rb) (p := ⟨rb, 0, none⟩) (Mod.refl _ w1) (.inl rfl) v0) (.inl rfl) v1) (.inl rfl) v2)
      have HMF := Lib.hid hmF
      have HFIN : Hid (∀ W', Mod (fun k => k = rb) w1 W' → New w W') := Lib.hid (fun W' hm => HM.out.step hm (fun i hi e => by omega))
      clear hmF
      go_wp2_with fail
      refine bodyPost_ret (v := .tuple #[St.val (⟨false, ⟨#[]⟩, 0⟩), .int .i64 0, .bool false]) (by simp [results, Tryz.results47, go_sem, hcR, hfR, rlt, St.val] <;> omega) rfl ?_
      exact ⟨(⟨false, ⟨#[]⟩, 0⟩), _, _, rfl, HFIN.out _ (HMF.out _ _ _), .inl ⟨HF.out, rfl⟩⟩
    · subst h91
      clear h46
      have hst := val_strict s (i + 1) w1 hs hi1
      rw [show ((i + 1 : Nat) : Int) = (i : Int) + 1 by omega] at hst
      generalize hq : strictL (s.data.toList.drop (i + 1)) = q at *
      have HQ := Lib.hid hq
      clear hq
      go_wp2_with fail
      refine hst.mono ?_
      clear hst
      rintro e w2 ⟨x, m, b, rfl, hm2, ⟨rfl, rfl⟩ | ⟨l, k, rfl, rfl, rfl, rfl⟩⟩
      · have R2 := Lib.hid (R.out.mod hm2 (fun e => e))
        have HM2 := Lib.hid (HM.out.trans hm2)
        clear R HM hm2
        have R := R2
        have HM := HM2
        clear R2 HM2
        have hib := Tryz.strings_IndexByte (s.extract i s.size) 93 w2
        have hd : (s.extract i s.size).data.toList = s.data.toList.drop i := by rw [extract_data, List.take_of_length_le (by rw [List.length_drop]; have := HLEN.out; omega)]
        have h93 : (93 : Int).toNat.toUInt8 = 93 := rfl
        rw [hd, HD.out, h93, idx_cons, if_neg (by decide)] at hib
        have HST : Hid (∀ kn : Nat, Lib.indexByte (s.data.toList.drop (i + 1)) 93 = kn → stepRd (s.data.toList.drop i) = if numOk 9 (s.extract (i + 1) (i + (kn + 1))) = false ∨ numV (s.extract (i + 1) (i + (kn + 1))) < 0 then none else some (⟨false, ⟨#[]⟩, numV (s.extract (i + 1) (i + (kn + 1)))⟩, kn + 2)) := Lib.hid (fun kn hkn => by
          have e1 : s.extract (i + 1) (i + (kn + 1)) = numB ((s.data.toList.drop (i + 1)).take kn) := by
            apply ba_ext
            rw [extract_data, show i + (kn + 1) - (i + 1) = kn by omega]
            simp [numB]
          rw [e1, HD.out]
          by_cases h34 : (s.data.toList.drop (i + 1)).head? = some 34
          · have hno : numOk 9 (numB ((s.data.toList.drop (i + 1)).take kn)) = false := num_no (by
              cases kn with
              | zero => exact .inr List.take_zero
              | succ kn =>
                left
                cases hr : s.data.toList.drop (i + 1) with
                | nil => rw [hr] at h34; cases h34
                | cons a r => rw [hr] at h34; exact h34)
            rw [step_loose HQ.out h34, if_pos (.inl hno)]
          · rw [step_num h34, hkn, if_neg (by omega)]
            simp only [Int.toNat_natCast])
        have HSN : Hid (Lib.indexByte (s.data.toList.drop (i + 1)) 93 < 0 → stepRd (s.data.toList.drop i) = none) := Lib.hid (fun hneg => by
          rw [HD.out]
          by_cases h34 : (s.data.toList.drop (i + 1)).head? = some 34
          · exact step_loose HQ.out h34
          · rw [step_num h34, if_pos hneg])
        have hge := Lib.indexByte_ge (s.data.toList.drop (i + 1)) 93
        have hlt := fun (kn : Nat) (h : Lib.indexByte (s.data.toList.drop (i + 1)) 93 = kn) => (Lib.indexByte_some h).1
        generalize Lib.indexByte (s.data.toList.drop (i + 1)) 93 = kq at *
        by_cases hneg : kq < 0
        · rw [if_pos hneg] at hib
          have HF := Lib.hid (HSN.out hneg)
          clear hlt hge hneg hd h93
          go_upto_region 10 with (first | (refine hib.mono ?_; clear hib; rintro e w9 ⟨rfl, hww⟩; subst w9))
          have hcR := R.out.cell
          have hfR := R.out.frozen
          have rlt := R.out.lt
          have hmF := fun (v0 v1 v2 : Value) => (Mod.setCell (S := fun k => k = rb) (p := ⟨rb, 2, none⟩) (Mod.setCell (S := fun k => k = rb) (p := ⟨rb, 1, none⟩) (Mod.setCell (S := fun k => k = rb) (p := ⟨rb, 0, none⟩) (Mod.refl _ w2) (.inl rfl) v0) (.inl rfl) v1) (.inl rfl) v2)
          have HMF := Lib.hid hmF
          have HFIN : Hid (∀ W', Mod (fun k => k = rb) w2 W' → New w W') := Lib.hid (fun W' hm => HM.out.step hm (fun i hi e => by omega))
          clear hmF
          go_wp2_with fail
          refine bodyPost_ret (v := .tuple #[St.val (⟨false, ⟨#[]⟩, 0⟩), .int .i64 0, .bool false]) (by simp [results, Tryz.results47, go_sem, hcR, hfR, rlt, St.val] <;> omega) rfl ?_
          exact ⟨(⟨false, ⟨#[]⟩, 0⟩), _, _, rfl, HFIN.out _ (HMF.out _ _ _), .inl ⟨HF.out, rfl⟩⟩
        · rw [if_neg hneg] at hib
          obtain ⟨kn, rfl⟩ := Int.eq_ofNat_of_zero_le (show 0 ≤ kq by omega)
          have hkl : kn < (s.data.toList.drop (i + 1)).length := by
            have := hlt kn rfl
            rcases Nat.lt_or_ge kn (s.data.toList.drop (i + 1)).length with h | h
            · exact h
            · rw [List.getElem?_eq_none h] at this; cases this
          rw [List.length_drop, HLEN.out] at hkl
          have HF0 := Lib.hid (HST.out kn rfl)
          have hz : (s.extract (i + 1) (i + (kn + 1))).size ≤ 1000000 := by simp only [ByteArray.size_extract]; omega
          have hsm := fun W => kit_small (s.extract (i + 1) (i + (kn + 1))) W hz
          have hkn0 : (0 : Int) ≤ (kn : Int) + 1 := by omega
          have hb1 : (i : Int) + 1 ≤ (i : Int) + ((kn : Int) + 1) := by omega
          have hb2 : (i : Int) + ((kn : Int) + 1) ≤ (s.size : Int) := by omega
          unfold RNum at hsm
          have HSM := Lib.hid hsm
          clear hlt hge hneg hd h93 hz hsm HST HSN
          go_wp2_with (first | (refine hib.mono ?_; clear hib; rintro e w9 ⟨rfl, hww⟩; subst w9; have hsm := HSM.out w2))
          refine hsm.mono ?_
          clear hsm
          rintro e w4 ⟨v, rfl, hv, hm4⟩
          have R4 := Lib.hid (R.out.mod hm4 (fun e => e))
          have HM4 := Lib.hid (HM.out.trans hm4)
          clear R HM hm4
          have R := R4
          have HM := HM4
          clear R4 HM4
          cases hok : numOk 9 (s.extract (i + 1) (i + (kn + 1)))
          · have HF : Hid (stepRd (s.data.toList.drop i) = none) := Lib.hid (by rw [HF0.out, if_pos (.inl hok)])
            clear hv hok HF0
            have hcR := R.out.cell
            have hfR := R.out.frozen
            have rlt := R.out.lt
            have hmF := fun (v0 v1 v2 : Value) => (Mod.setCell (S := fun k => k = rb) (p := ⟨rb, 2, none⟩) (Mod.setCell (S := fun k => k = rb) (p := ⟨rb, 1, none⟩) (Mod.setCell (S := fun k => k = rb) (p := ⟨rb, 0, none⟩) (Mod.refl _ w4) (.inl rfl) v0) (.inl rfl) v1) (.inl rfl) v2)
            have HMF := Lib.hid hmF
            have HFIN : Hid (∀ W', Mod (fun k => k = rb) w4 W' → New w W') := Lib.hid (fun W' hm => HM.out.step hm (fun i hi e => by omega))
            clear hmF
            go_wp2_with fail
            refine bodyPost_ret (v := .tuple #[St.val (⟨false, ⟨#[]⟩, v⟩), .int .i64 ((i : Int) + ((kn : Int) + 1) + 1), .bool false]) (by simp [results, Tryz.results47, go_sem, hcR, hfR, rlt, St.val] <;> omega) rfl ?_
            exact ⟨(⟨false, ⟨#[]⟩, v⟩), _, _, rfl, HFIN.out _ (HMF.out _ _ _), .inl ⟨HF.out, rfl⟩⟩
          · have hv1 := hv hok
            rw [hok, ← hv1] at HF0
            clear hv hok hv1
            by_cases hvn : v < 0
            · have HF : Hid (stepRd (s.data.toList.drop i) = none) := Lib.hid (by rw [HF0.out, if_pos (.inr hvn)])
              have hvd : decide (0 ≤ v) = false := by simp; omega
              have hcR := R.out.cell
              have hfR := R.out.frozen
              have rlt := R.out.lt
              have hmF := fun (v0 v1 v2 : Value) => (Mod.setCell (S := fun k => k = rb) (p := ⟨rb, 2, none⟩) (Mod.setCell (S := fun k => k = rb) (p := ⟨rb, 1, none⟩) (Mod.setCell (S := fun k => k = rb) (p := ⟨rb, 0, none⟩) (Mod.refl _ w4) (.inl rfl) v0) (.inl rfl) v1) (.inl rfl) v2)
              have HMF := Lib.hid hmF
              have HFIN : Hid (∀ W', Mod (fun k => k = rb) w4 W' → New w W') := Lib.hid (fun W' hm => HM.out.step hm (fun i hi e => by omega))
              clear hmF
              go_wp2_with fail
              refine bodyPost_ret (v := .tuple #[St.val (⟨false, ⟨#[]⟩, v⟩), .int .i64 ((i : Int) + ((kn : Int) + 1) + 1), .bool false]) (by simp [results, Tryz.results47, go_sem, hcR, hfR, rlt, St.val] <;> omega) rfl ?_
              exact ⟨(⟨false, ⟨#[]⟩, v⟩), _, _, rfl, HFIN.out _ (HMF.out _ _ _), .inl ⟨HF.out, rfl⟩⟩
            · have HF : Hid (stepRd (s.data.toList.drop i) = some (⟨false, ⟨#[]⟩, v⟩, kn + 2)) := Lib.hid (by rw [HF0.out, if_neg (fun h => by rcases h with h | h; (cases h); exact hvn h)])
              have hvd : decide (0 ≤ v) = true := by simp; omega
              have hcR := R.out.cell
              have hfR := R.out.frozen
              have rlt := R.out.lt
              have hmF := fun (v0 v1 v2 : Value) => (Mod.setCell (S := fun k => k = rb) (p := ⟨rb, 2, none⟩) (Mod.setCell (S := fun k => k = rb) (p := ⟨rb, 1, none⟩) (Mod.setCell (S := fun k => k = rb) (p := ⟨rb, 0, none⟩) (Mod.refl _ w4) (.inl rfl) v0) (.inl rfl) v1) (.inl rfl) v2)
              have HMF := Lib.hid hmF
              have HFIN : Hid (∀ W', Mod (fun k => k = rb) w4 W' → New w W') := Lib.hid (fun W' hm => HM.out.step hm (fun i hi e => by omega))
              clear hmF
              go_wp2_with fail
              refine bodyPost_ret (v := .tuple #[St.val (⟨false, ⟨#[]⟩, v⟩), .int .i64 ((i : Int) + ((kn : Int) + 1) + 1), .bool true]) (by simp [results, Tryz.results47, go_sem, hcR, hfR, rlt, St.val] <;> omega) rfl ?_
              exact ⟨(⟨false, ⟨#[]⟩, v⟩), _, _, rfl, HFIN.out _ (HMF.out _ _ _), .inr ⟨kn + 2, HF.out, rfl, by omega⟩⟩
      · obtain ⟨k1, k2, k3⟩ := step_strict HQ.out
        rw [List.length_drop, HLEN.out] at k2
        rw [← HD.out] at k3
        have R2 := Lib.hid (R.out.mod hm2 (fun e => e))
        have HM2 := Lib.hid (HM.out.trans hm2)
        clear R HM hm2
        have R := R2
        have HM := HM2
        clear R2 HM2
        have HF0 := Lib.hid k3
        have hxl : (⟨l.toArray⟩ : ByteArray).data.toList = l := by simp
        have hxz : (⟨l.toArray⟩ : ByteArray).size ≤ maxLen := by
          have h1 := strict_size HQ.out
          have h2 : (⟨l.toArray⟩ : ByteArray).size = l.length := by show (List.toArray _).size = _; simp
          unfold maxLen
          omega
        have hpl := fun W => val_isPlain ⟨l.toArray⟩ W hxz
        rw [hxl] at hpl
        have hgb : (s.data.toList.drop (i + 1))[k]? = s.data.toList[i + 1 + k]? := by rw [List.getElem?_drop]
        rw [hgb] at HF0
        obtain ⟨X, hX⟩ : ∃ X : ByteArray, X = ⟨l.toArray⟩ := ⟨_, rfl⟩
        rw [← hX] at hpl ⊢
        have hnb : numB l = X := hX.symm
        rw [hnb] at HF0
        generalize plainRow l = p at *
        have HPL := Lib.hid hpl
        generalize hen : i + 1 + k = en at *
        have hen1 : (0 : Int) ≤ (en : Int) := by omega
        have hen2 : (en : Int) ≤ 100000 := by omega
        have hwe : IntKind.i64.wrap ((en : Int) + 1) = (en : Int) + 1 := by
          simp [IntKind.wrap, IntKind.signed, IntKind.bits]
          omega
        have HEN := Lib.hid hen
        clear k1 k3 hxl hpl hgb hX hnb hen hxz
        cases p
        · by_cases hlt : en < s.size
          · have hlt1 : (en : Int) < (s.size : Int) := by omega
            obtain ⟨d, hd⟩ : ∃ d, s[en]'hlt = d := ⟨_, rfl⟩
            have hgd : s.data.toList[en]? = some d := by rw [List.getElem?_eq_getElem (by have := HLEN.out; omega)]; exact congrArg some hd
            rw [hgd] at HF0
            by_cases h93 : d = 93
            · subst h93
              have HF : Hid (stepRd (s.data.toList.drop i) = some (⟨true, X, 0⟩, k + 2)) := Lib.hid (by rw [HF0.out, if_pos ⟨rfl, rfl⟩])
              clear hgd
              go_upto_region 8 with fail
              have R8 := Lib.hid (R.out.mod ((Mod.refl (fun _ => False) w2).drew) (fun e => e))
              have HM8 : Hid (New w w2.drew) := Lib.hid (HM.out.trans (Mod.refl (fun _ => False) w2).drew)
              refine wp_region_held_drew (S := fun _ => True) (by kernel_rfl) trivial (fun _ => ?_)
              generalize w2.drew = w3 at *
              have hcR := R8.out.cell
              have hfR := R8.out.frozen
              have rlt := R8.out.lt
              refine wpAnyH_take (i := 0) (v := ?_) rfl (by kernel_rfl) (by kernel_rfl) (by kernel_rfl) (fun _ _ _ h => h) (Or.inl ⟨by rfl, fun W hSw => ?_⟩) trivial ?_
              rotate_left
              · (try simp only [List.getElem_toArray, List.getElem_cons_zero, List.getElem_cons_succ]); go_simp; any_goals (with_reducible rfl)
              (try simp only [Act.put, List.getElem_toArray, List.getElem_cons_zero, List.getElem_cons_succ, List.setIfInBounds_toArray, List.set_cons_zero, List.set_cons_succ])
              refine wpAnyH_take (i := 1) (v := ?_) rfl (by kernel_rfl) (by kernel_rfl) (by kernel_rfl) (fun _ _ _ h => h) (Or.inl ⟨by rfl, fun W hSw => ?_⟩) trivial ?_
              rotate_left
              · (try simp only [List.getElem_toArray, List.getElem_cons_zero, List.getElem_cons_succ]); go_simp; any_goals (with_reducible rfl)
              (try simp only [Act.put, List.getElem_toArray, List.getElem_cons_zero, List.getElem_cons_succ, List.setIfInBounds_toArray, List.set_cons_zero, List.set_cons_succ])
              refine wpAnyH_take (i := 2) (v := ?_) rfl (by kernel_rfl) (by kernel_rfl) (by kernel_rfl) (fun _ _ _ h => h) (Or.inl ⟨by rfl, fun W hSw => ?_⟩) trivial ?_
              rotate_left
              · (try simp only [List.getElem_toArray, List.getElem_cons_zero, List.getElem_cons_succ]); go_simp; any_goals (with_reducible rfl)
              (try simp only [Act.put, List.getElem_toArray, List.getElem_cons_zero, List.getElem_cons_succ, List.setIfInBounds_toArray, List.set_cons_zero, List.set_cons_succ])
              refine wpAnyH_take (i := 3) (v := ?_) rfl (by kernel_rfl) (by kernel_rfl) (by kernel_rfl) (fun _ _ _ h => h) (Or.inl ⟨by rfl, fun W hSw => ?_⟩) trivial ?_
              rotate_left
              · (try simp only [List.getElem_toArray, List.getElem_cons_zero, List.getElem_cons_succ]); go_simp; any_goals (with_reducible rfl)
              (try simp only [Act.put, List.getElem_toArray, List.getElem_cons_zero, List.getElem_cons_succ, List.setIfInBounds_toArray, List.set_cons_zero, List.set_cons_succ])
              refine wpAnyH_take (i := 4) (v := ?_) rfl (by kernel_rfl) (by kernel_rfl) (by kernel_rfl) (fun _ _ _ h => h) (Or.inl ⟨by rfl, fun W hSw => ?_⟩) trivial ?_
              rotate_left
              · (try simp only [List.getElem_toArray, List.getElem_cons_zero, List.getElem_cons_succ]); go_simp; any_goals (with_reducible rfl)
              (try simp only [Act.put, List.getElem_toArray, List.getElem_cons_zero, List.getElem_cons_succ, List.setIfInBounds_toArray, List.set_cons_zero, List.set_cons_succ])
              refine wpAnyH_ready (rs := [5]) (by kernel_rfl) (by simp) ?_
              refine AllReadyH.cons rfl (fun K hK => ?_) AllReadyH.nil
              rw [if_pos (by rfl)]
              (try simp only [List.getElem_toArray, List.getElem_cons_zero, List.getElem_cons_succ])
              go_simp
              refine (HPL.out w3).mono ?_
              rintro e w4 ⟨rfl, hww⟩
              subst w4
              go_wp2_with fail
              refine hK.out _ _ trivial (fun _ => ?_)
              clear hK K
              (try simp only [Act.put, List.getElem_toArray, List.getElem_cons_zero, List.getElem_cons_succ, List.setIfInBounds_toArray, List.set_cons_zero, List.set_cons_succ])
              refine wpAnyH_take (i := 6) (v := ?_) rfl (by kernel_rfl) (by kernel_rfl) (by kernel_rfl) (fun _ _ _ h => h) (Or.inl ⟨by rfl, fun W hSw => ?_⟩) trivial ?_
              rotate_left
              · (try simp only [List.getElem_toArray, List.getElem_cons_zero, List.getElem_cons_succ]); go_simp; any_goals (with_reducible rfl)
              (try simp only [Act.put, List.getElem_toArray, List.getElem_cons_zero, List.getElem_cons_succ, List.setIfInBounds_toArray, List.set_cons_zero, List.set_cons_succ])
              refine wpAnyH_take (i := 7) (v := ?_) rfl (by kernel_rfl) (by kernel_rfl) (by kernel_rfl) (fun _ _ _ h => h) (Or.inl ⟨by rfl, fun W hSw => ?_⟩) trivial ?_
              rotate_left
              · (try simp only [List.getElem_toArray, List.getElem_cons_zero, List.getElem_cons_succ]); go_simp; any_goals (with_reducible rfl)
              (try simp only [Act.put, List.getElem_toArray, List.getElem_cons_zero, List.getElem_cons_succ, List.setIfInBounds_toArray, List.set_cons_zero, List.set_cons_succ])
              refine wpAnyH_take (i := 8) (v := ?_) rfl (by kernel_rfl) (by kernel_rfl) (by kernel_rfl) (fun _ _ _ h => h) (Or.inl ⟨by rfl, fun W hSw => ?_⟩) trivial ?_
              rotate_left
              · (try simp only [List.getElem_toArray, List.getElem_cons_zero, List.getElem_cons_succ]); go_simp; any_goals (with_reducible rfl)
              (try simp only [Act.put, List.getElem_toArray, List.getElem_cons_zero, List.getElem_cons_succ, List.setIfInBounds_toArray, List.set_cons_zero, List.set_cons_succ])
              refine wpAnyH_take (i := 9) (v := ?_) rfl (by kernel_rfl) (by kernel_rfl) (by kernel_rfl) (fun _ _ _ h => h) (Or.inl ⟨by rfl, fun W hSw => ?_⟩) trivial ?_
              rotate_left
              · (try simp only [List.getElem_toArray, List.getElem_cons_zero, List.getElem_cons_succ]); go_simp; any_goals (with_reducible rfl)
              (try simp only [Act.put, List.getElem_toArray, List.getElem_cons_zero, List.getElem_cons_succ, List.setIfInBounds_toArray, List.set_cons_zero, List.set_cons_succ])
              refine wpAnyH_take (i := 10) (v := ?_) rfl (by kernel_rfl) (by kernel_rfl) (by kernel_rfl) (fun _ _ _ h => h) (Or.inl ⟨by rfl, fun W hSw => ?_⟩) trivial ?_
              rotate_left
              · (try simp only [List.getElem_toArray, List.getElem_cons_zero, List.getElem_cons_succ]); go_simp; any_goals (with_reducible rfl)
              (try simp only [Act.put, List.getElem_toArray, List.getElem_cons_zero, List.getElem_cons_succ, List.setIfInBounds_toArray, List.set_cons_zero, List.set_cons_succ])
              refine wpAnyH_take (i := 11) (v := ?_) rfl (by kernel_rfl) (by kernel_rfl) (by kernel_rfl) (fun _ _ _ h => h) (Or.inl ⟨by rfl, fun W hSw => ?_⟩) trivial ?_
              rotate_left
              · (try simp only [List.getElem_toArray, List.getElem_cons_zero, List.getElem_cons_succ]); go_simp; any_goals (with_reducible rfl)
              (try simp only [Act.put, List.getElem_toArray, List.getElem_cons_zero, List.getElem_cons_succ, List.setIfInBounds_toArray, List.set_cons_zero, List.set_cons_succ])
              refine wpAnyH_take (i := 12) (v := ?_) rfl (by kernel_rfl) (by kernel_rfl) (by kernel_rfl) (fun _ _ _ h => h) (Or.inl ⟨by rfl, fun W hSw => ?_⟩) trivial ?_
              rotate_left
              · (try simp only [List.getElem_toArray, List.getElem_cons_zero, List.getElem_cons_succ]); go_simp; any_goals (with_reducible rfl)
              (try simp only [Act.put, List.getElem_toArray, List.getElem_cons_zero, List.getElem_cons_succ, List.setIfInBounds_toArray, List.set_cons_zero, List.set_cons_succ])
              refine wpAnyH_take (i := 13) (v := ?_) rfl (by kernel_rfl) (by kernel_rfl) (by kernel_rfl) (fun _ _ _ h => h) (Or.inl ⟨by rfl, fun W hSw => ?_⟩) trivial ?_
              rotate_left
              · (try simp only [List.getElem_toArray, List.getElem_cons_zero, List.getElem_cons_succ]); go_simp; any_goals (with_reducible rfl)
              (try simp only [Act.put, List.getElem_toArray, List.getElem_cons_zero, List.getElem_cons_succ, List.setIfInBounds_toArray, List.set_cons_zero, List.set_cons_succ])
              refine wpAnyH_take (i := 14) (v := ?_) rfl (by kernel_rfl) (by kernel_rfl) (by kernel_rfl) (fun _ _ _ h => h) (Or.inl ⟨by rfl, fun W hSw => ?_⟩) trivial ?_
              rotate_left
              · (try simp only [List.getElem_toArray, List.getElem_cons_zero, List.getElem_cons_succ]); go_simp; any_goals (with_reducible rfl)
              (try simp only [Act.put, List.getElem_toArray, List.getElem_cons_zero, List.getElem_cons_succ, List.setIfInBounds_toArray, List.set_cons_zero, List.set_cons_succ])
              refine wpAnyH_take (i := 15) (v := ?_) rfl (by kernel_rfl) (by kernel_rfl) (by kernel_rfl) (fun _ _ _ h => h) (Or.inl ⟨by rfl, fun W hSw => ?_⟩) trivial ?_
              rotate_left
              · (try simp only [List.getElem_toArray, List.getElem_cons_zero, List.getElem_cons_succ]); go_simp; any_goals (with_reducible rfl)
              (try simp only [Act.put, List.getElem_toArray, List.getElem_cons_zero, List.getElem_cons_succ, List.setIfInBounds_toArray, List.set_cons_zero, List.set_cons_succ])
              refine wpAnyH_take (i := 16) (v := ?_) rfl (by kernel_rfl) (by kernel_rfl) (by kernel_rfl) (fun _ _ _ h => h) (Or.inl ⟨by rfl, fun W hSw => ?_⟩) trivial ?_
              rotate_left
              · (try simp only [List.getElem_toArray, List.getElem_cons_zero, List.getElem_cons_succ]); go_simp; any_goals (with_reducible rfl)
              (try simp only [Act.put, List.getElem_toArray, List.getElem_cons_zero, List.getElem_cons_succ, List.setIfInBounds_toArray, List.set_cons_zero, List.set_cons_succ])
              refine wpAnyH_take (i := 17) (v := ?_) rfl (by kernel_rfl) (by kernel_rfl) (by kernel_rfl) (fun _ _ _ h => h) (Or.inl ⟨by rfl, fun W hSw => ?_⟩) trivial ?_
              rotate_left
              · (try simp only [List.getElem_toArray, List.getElem_cons_zero, List.getElem_cons_succ]); go_simp; any_goals (with_reducible rfl)
              (try simp only [Act.put, List.getElem_toArray, List.getElem_cons_zero, List.getElem_cons_succ, List.setIfInBounds_toArray, List.set_cons_zero, List.set_cons_succ])
              refine wpAnyH_take (i := 18) (v := ?_) rfl (by kernel_rfl) (by kernel_rfl) (by kernel_rfl) (fun _ _ _ h => h) (Or.inl ⟨by rfl, fun W hSw => ?_⟩) trivial ?_
              rotate_left
              · (try simp only [List.getElem_toArray, List.getElem_cons_zero, List.getElem_cons_succ]); go_simp; any_goals (with_reducible rfl)
              (try simp only [Act.put, List.getElem_toArray, List.getElem_cons_zero, List.getElem_cons_succ, List.setIfInBounds_toArray, List.set_cons_zero, List.set_cons_succ])
              have hmF := fun (v0 v1 v2 : Value) => (Mod.setCell (S := fun k => k = rb) (p := ⟨rb, 2, none⟩) (Mod.setCell (S := fun k => k = rb) (p := ⟨rb, 1, none⟩) (Mod.setCell (S := fun k => k = rb) (p := ⟨rb, 0, none⟩) (Mod.refl _ w3) (.inl rfl) v0) (.inl rfl) v1) (.inl rfl) v2)
              have HMF := Lib.hid hmF
              have HFIN : Hid (∀ W', Mod (fun k => k = rb) w3 W' → New w W') := Lib.hid (fun W' hm => HM8.out.step hm (fun i hi e => by omega))
              clear hmF
              refine wpAnyH_ready (rs := [19]) (by kernel_rfl) (by simp) ?_
              refine AllReadyH.cons rfl (fun K hK => ?_) AllReadyH.nil
              rw [if_pos (by rfl)]
              (try simp only [List.getElem_toArray, List.getElem_cons_zero, List.getElem_cons_succ])
              go_simp
              refine hK.out _ _ trivial (fun _ => ?_)
              clear hK K
              (try simp only [Act.put, List.getElem_toArray, List.getElem_cons_zero, List.getElem_cons_succ, List.setIfInBounds_toArray, List.set_cons_zero, List.set_cons_succ])
              refine wpAnyH_take (i := 20) (v := ?_) rfl (by kernel_rfl) (by kernel_rfl) (by kernel_rfl) (fun _ _ _ h => h) (Or.inl ⟨by rfl, fun W hSw => ?_⟩) trivial ?_
              rotate_left
              · (try simp only [List.getElem_toArray, List.getElem_cons_zero, List.getElem_cons_succ]); go_simp; any_goals (with_reducible rfl)
              (try simp only [Act.put, List.getElem_toArray, List.getElem_cons_zero, List.getElem_cons_succ, List.setIfInBounds_toArray, List.set_cons_zero, List.set_cons_succ])
              refine wpAnyH_take (i := 21) (v := ?_) rfl (by kernel_rfl) (by kernel_rfl) (by kernel_rfl) (fun _ _ _ h => h) (Or.inl ⟨by rfl, fun W hSw => ?_⟩) trivial ?_
              rotate_left
              · (try simp only [List.getElem_toArray, List.getElem_cons_zero, List.getElem_cons_succ]); go_simp; any_goals (with_reducible rfl)
              (try simp only [Act.put, List.getElem_toArray, List.getElem_cons_zero, List.getElem_cons_succ, List.setIfInBounds_toArray, List.set_cons_zero, List.set_cons_succ])
              refine wpAnyH_done (by kernel_rfl) ?_ _
              go_wp2_with fail
              refine bodyPost_ret (v := .tuple #[St.val (⟨true, X, 0⟩), .int .i64 ((en : Int) + 1), .bool true]) (by simp [results, Tryz.results47, go_sem, hcR, hfR, rlt, St.val, hwe] <;> omega) rfl ?_
              exact ⟨(⟨true, X, 0⟩), _, _, rfl, HFIN.out _ (HMF.out _ _ _), .inr ⟨k + 2, HF.out, rfl, by have := HEN.out; omega⟩⟩
            · have n93 : ((d.toNat : Int) == 93) = false := by
                simp only [beq_eq_false_iff_ne, ne_eq]
                intro h
                exact h93 (UInt8.toNat_inj.1 (by have : (93 : UInt8).toNat = 93 := rfl; omega))
              have HF : Hid (stepRd (s.data.toList.drop i) = none) := Lib.hid (by rw [HF0.out, if_neg (fun h => h93 (by injection h.2))])
              clear hgd h93
              go_upto_region 8 with fail
              have R8 := Lib.hid (R.out.mod ((Mod.refl (fun _ => False) w2).drew) (fun e => e))
              have HM8 : Hid (New w w2.drew) := Lib.hid (HM.out.trans (Mod.refl (fun _ => False) w2).drew)
              refine wp_region_held_drew (S := fun _ => True) (by kernel_rfl) trivial (fun _ => ?_)
              generalize w2.drew = w3 at *
              have hcR := R8.out.cell
              have hfR := R8.out.frozen
              have rlt := R8.out.lt
              refine wpAnyH_take (i := 0) (v := ?_) rfl (by kernel_rfl) (by kernel_rfl) (by kernel_rfl) (fun _ _ _ h => h) (Or.inl ⟨by rfl, fun W hSw => ?_⟩) trivial ?_
              rotate_left
              · (try simp only [List.getElem_toArray, List.getElem_cons_zero, List.getElem_cons_succ]); go_simp; any_goals (with_reducible rfl)
              (try simp only [Act.put, List.getElem_toArray, List.getElem_cons_zero, List.getElem_cons_succ, List.setIfInBounds_toArray, List.set_cons_zero, List.set_cons_succ])
              refine wpAnyH_take (i := 1) (v := ?_) rfl (by kernel_rfl) (by kernel_rfl) (by kernel_rfl) (fun _ _ _ h => h) (Or.inl ⟨by rfl, fun W hSw => ?_⟩) trivial ?_
              rotate_left
              · (try simp only [List.getElem_toArray, List.getElem_cons_zero, List.getElem_cons_succ]); go_simp; any_goals (with_reducible rfl)
              (try simp only [Act.put, List.getElem_toArray, List.getElem_cons_zero, List.getElem_cons_succ, List.setIfInBounds_toArray, List.set_cons_zero, List.set_cons_succ])
              refine wpAnyH_take (i := 2) (v := ?_) rfl (by kernel_rfl) (by kernel_rfl) (by kernel_rfl) (fun _ _ _ h => h) (Or.inl ⟨by rfl, fun W hSw => ?_⟩) trivial ?_
              rotate_left
              · (try simp only [List.getElem_toArray, List.getElem_cons_zero, List.getElem_cons_succ]); go_simp; any_goals (with_reducible rfl)
              (try simp only [Act.put, List.getElem_toArray, List.getElem_cons_zero, List.getElem_cons_succ, List.setIfInBounds_toArray, List.set_cons_zero, List.set_cons_succ])
              refine wpAnyH_take (i := 3) (v := ?_) rfl (by kernel_rfl) (by kernel_rfl) (by kernel_rfl) (fun _ _ _ h => h) (Or.inl ⟨by rfl, fun W hSw => ?_⟩) trivial ?_
              rotate_left
              · (try simp only [List.getElem_toArray, List.getElem_cons_zero, List.getElem_cons_succ]); go_simp; any_goals (with_reducible rfl)
              (try simp only [Act.put, List.getElem_toArray, List.getElem_cons_zero, List.getElem_cons_succ, List.setIfInBounds_toArray, List.set_cons_zero, List.set_cons_succ])
              refine wpAnyH_take (i := 4) (v := ?_) rfl (by kernel_rfl) (by kernel_rfl) (by kernel_rfl) (fun _ _ _ h => h) (Or.inl ⟨by rfl, fun W hSw => ?_⟩) trivial ?_
              rotate_left
              · (try simp only [List.getElem_toArray, List.getElem_cons_zero, List.getElem_cons_succ]); go_simp; any_goals (with_reducible rfl)
              (try simp only [Act.put, List.getElem_toArray, List.getElem_cons_zero, List.getElem_cons_succ, List.setIfInBounds_toArray, List.set_cons_zero, List.set_cons_succ])
              refine wpAnyH_ready (rs := [5]) (by kernel_rfl) (by simp) ?_
              refine AllReadyH.cons rfl (fun K hK => ?_) AllReadyH.nil
              rw [if_pos (by rfl)]
              (try simp only [List.getElem_toArray, List.getElem_cons_zero, List.getElem_cons_succ])
              go_simp
              refine (HPL.out w3).mono ?_
              rintro e w4 ⟨rfl, hww⟩
              subst w4
              go_wp2_with fail
              refine hK.out _ _ trivial (fun _ => ?_)
              clear hK K
              (try simp only [Act.put, List.getElem_toArray, List.getElem_cons_zero, List.getElem_cons_succ, List.setIfInBounds_toArray, List.set_cons_zero, List.set_cons_succ])
              refine wpAnyH_take (i := 6) (v := ?_) rfl (by kernel_rfl) (by kernel_rfl) (by kernel_rfl) (fun _ _ _ h => h) (Or.inl ⟨by rfl, fun W hSw => ?_⟩) trivial ?_
              rotate_left
              · (try simp only [List.getElem_toArray, List.getElem_cons_zero, List.getElem_cons_succ]); go_simp; any_goals (with_reducible rfl)
              (try simp only [Act.put, List.getElem_toArray, List.getElem_cons_zero, List.getElem_cons_succ, List.setIfInBounds_toArray, List.set_cons_zero, List.set_cons_succ])
              refine wpAnyH_take (i := 7) (v := ?_) rfl (by kernel_rfl) (by kernel_rfl) (by kernel_rfl) (fun _ _ _ h => h) (Or.inl ⟨by rfl, fun W hSw => ?_⟩) trivial ?_
              rotate_left
              · (try simp only [List.getElem_toArray, List.getElem_cons_zero, List.getElem_cons_succ]); go_simp; any_goals (with_reducible rfl)
              (try simp only [Act.put, List.getElem_toArray, List.getElem_cons_zero, List.getElem_cons_succ, List.setIfInBounds_toArray, List.set_cons_zero, List.set_cons_succ])
              refine wpAnyH_take (i := 8) (v := ?_) rfl (by kernel_rfl) (by kernel_rfl) (by kernel_rfl) (fun _ _ _ h => h) (Or.inl ⟨by rfl, fun W hSw => ?_⟩) trivial ?_
              rotate_left
              · (try simp only [List.getElem_toArray, List.getElem_cons_zero, List.getElem_cons_succ]); go_simp; any_goals (with_reducible rfl)
              (try simp only [Act.put, List.getElem_toArray, List.getElem_cons_zero, List.getElem_cons_succ, List.setIfInBounds_toArray, List.set_cons_zero, List.set_cons_succ])
              refine wpAnyH_take (i := 9) (v := ?_) rfl (by kernel_rfl) (by kernel_rfl) (by kernel_rfl) (fun _ _ _ h => h) (Or.inl ⟨by rfl, fun W hSw => ?_⟩) trivial ?_
              rotate_left
              · (try simp only [List.getElem_toArray, List.getElem_cons_zero, List.getElem_cons_succ]); go_simp; any_goals (with_reducible rfl)
              (try simp only [Act.put, List.getElem_toArray, List.getElem_cons_zero, List.getElem_cons_succ, List.setIfInBounds_toArray, List.set_cons_zero, List.set_cons_succ])
              refine wpAnyH_take (i := 10) (v := ?_) rfl (by kernel_rfl) (by kernel_rfl) (by kernel_rfl) (fun _ _ _ h => h) (Or.inl ⟨by rfl, fun W hSw => ?_⟩) trivial ?_
              rotate_left
              · (try simp only [List.getElem_toArray, List.getElem_cons_zero, List.getElem_cons_succ]); go_simp; any_goals (with_reducible rfl)
              (try simp only [Act.put, List.getElem_toArray, List.getElem_cons_zero, List.getElem_cons_succ, List.setIfInBounds_toArray, List.set_cons_zero, List.set_cons_succ])
              refine wpAnyH_take (i := 11) (v := ?_) rfl (by kernel_rfl) (by kernel_rfl) (by kernel_rfl) (fun _ _ _ h => h) (Or.inl ⟨by rfl, fun W hSw => ?_⟩) trivial ?_
              rotate_left
              · (try simp only [List.getElem_toArray, List.getElem_cons_zero, List.getElem_cons_succ]); go_simp; any_goals (with_reducible rfl)
              (try simp only [Act.put, List.getElem_toArray, List.getElem_cons_zero, List.getElem_cons_succ, List.setIfInBounds_toArray, List.set_cons_zero, List.set_cons_succ])
              refine wpAnyH_take (i := 12) (v := ?_) rfl (by kernel_rfl) (by kernel_rfl) (by kernel_rfl) (fun _ _ _ h => h) (Or.inl ⟨by rfl, fun W hSw => ?_⟩) trivial ?_
              rotate_left
              · (try simp only [List.getElem_toArray, List.getElem_cons_zero, List.getElem_cons_succ]); go_simp; any_goals (with_reducible rfl)
              (try simp only [Act.put, List.getElem_toArray, List.getElem_cons_zero, List.getElem_cons_succ, List.setIfInBounds_toArray, List.set_cons_zero, List.set_cons_succ])
              refine wpAnyH_take (i := 13) (v := ?_) rfl (by kernel_rfl) (by kernel_rfl) (by kernel_rfl) (fun _ _ _ h => h) (Or.inl ⟨by rfl, fun W hSw => ?_⟩) trivial ?_
              rotate_left
              · (try simp only [List.getElem_toArray, List.getElem_cons_zero, List.getElem_cons_succ]); go_simp; any_goals (with_reducible rfl)
              (try simp only [Act.put, List.getElem_toArray, List.getElem_cons_zero, List.getElem_cons_succ, List.setIfInBounds_toArray, List.set_cons_zero, List.set_cons_succ])
              refine wpAnyH_take (i := 14) (v := ?_) rfl (by kernel_rfl) (by kernel_rfl) (by kernel_rfl) (fun _ _ _ h => h) (Or.inl ⟨by rfl, fun W hSw => ?_⟩) trivial ?_
              rotate_left
              · (try simp only [List.getElem_toArray, List.getElem_cons_zero, List.getElem_cons_succ]); go_simp; any_goals (with_reducible rfl)
              (try simp only [Act.put, List.getElem_toArray, List.getElem_cons_zero, List.getElem_cons_succ, List.setIfInBounds_toArray, List.set_cons_zero, List.set_cons_succ])
              refine wpAnyH_take (i := 15) (v := ?_) rfl (by kernel_rfl) (by kernel_rfl) (by kernel_rfl) (fun _ _ _ h => h) (Or.inl ⟨by rfl, fun W hSw => ?_⟩) trivial ?_
              rotate_left
              · (try simp only [List.getElem_toArray, List.getElem_cons_zero, List.getElem_cons_succ]); go_simp; any_goals (with_reducible rfl)
              (try simp only [Act.put, List.getElem_toArray, List.getElem_cons_zero, List.getElem_cons_succ, List.setIfInBounds_toArray, List.set_cons_zero, List.set_cons_succ])
              refine wpAnyH_take (i := 16) (v := ?_) rfl (by kernel_rfl) (by kernel_rfl) (by kernel_rfl) (fun _ _ _ h => h) (Or.inl ⟨by rfl, fun W hSw => ?_⟩) trivial ?_
              rotate_left
              · (try simp only [List.getElem_toArray, List.getElem_cons_zero, List.getElem_cons_succ]); go_simp; any_goals (with_reducible rfl)
              (try simp only [Act.put, List.getElem_toArray, List.getElem_cons_zero, List.getElem_cons_succ, List.setIfInBounds_toArray, List.set_cons_zero, List.set_cons_succ])
              refine wpAnyH_take (i := 17) (v := ?_) rfl (by kernel_rfl) (by kernel_rfl) (by kernel_rfl) (fun _ _ _ h => h) (Or.inl ⟨by rfl, fun W hSw => ?_⟩) trivial ?_
              rotate_left
              · (try simp only [List.getElem_toArray, List.getElem_cons_zero, List.getElem_cons_succ]); go_simp; any_goals (with_reducible rfl)
              (try simp only [Act.put, List.getElem_toArray, List.getElem_cons_zero, List.getElem_cons_succ, List.setIfInBounds_toArray, List.set_cons_zero, List.set_cons_succ])
              refine wpAnyH_take (i := 18) (v := ?_) rfl (by kernel_rfl) (by kernel_rfl) (by kernel_rfl) (fun _ _ _ h => h) (Or.inl ⟨by rfl, fun W hSw => ?_⟩) trivial ?_
              rotate_left
              · (try simp only [List.getElem_toArray, List.getElem_cons_zero, List.getElem_cons_succ]); go_simp; any_goals (with_reducible rfl)
              (try simp only [Act.put, List.getElem_toArray, List.getElem_cons_zero, List.getElem_cons_succ, List.setIfInBounds_toArray, List.set_cons_zero, List.set_cons_succ])
              have hmF := fun (v0 v1 v2 : Value) => (Mod.setCell (S := fun k => k = rb) (p := ⟨rb, 2, none⟩) (Mod.setCell (S := fun k => k = rb) (p := ⟨rb, 1, none⟩) (Mod.setCell (S := fun k => k = rb) (p := ⟨rb, 0, none⟩) (Mod.refl _ w3) (.inl rfl) v0) (.inl rfl) v1) (.inl rfl) v2)
              have HMF := Lib.hid hmF
              have HFIN : Hid (∀ W', Mod (fun k => k = rb) w3 W' → New w W') := Lib.hid (fun W' hm => HM8.out.step hm (fun i hi e => by omega))
              clear hmF
              refine wpAnyH_ready (rs := [19]) (by kernel_rfl) (by simp) ?_
              refine AllReadyH.cons rfl (fun K hK => ?_) AllReadyH.nil
              rw [if_pos (by rfl)]
              (try simp only [List.getElem_toArray, List.getElem_cons_zero, List.getElem_cons_succ])
              go_simp
              refine hK.out _ _ trivial (fun _ => ?_)
              clear hK K
              (try simp only [Act.put, List.getElem_toArray, List.getElem_cons_zero, List.getElem_cons_succ, List.setIfInBounds_toArray, List.set_cons_zero, List.set_cons_succ])
              refine wpAnyH_take (i := 20) (v := ?_) rfl (by kernel_rfl) (by kernel_rfl) (by kernel_rfl) (fun _ _ _ h => h) (Or.inl ⟨by rfl, fun W hSw => ?_⟩) trivial ?_
              rotate_left
              · (try simp only [List.getElem_toArray, List.getElem_cons_zero, List.getElem_cons_succ]); go_simp; any_goals (with_reducible rfl)
              (try simp only [Act.put, List.getElem_toArray, List.getElem_cons_zero, List.getElem_cons_succ, List.setIfInBounds_toArray, List.set_cons_zero, List.set_cons_succ])
              refine wpAnyH_take (i := 21) (v := ?_) rfl (by kernel_rfl) (by kernel_rfl) (by kernel_rfl) (fun _ _ _ h => h) (Or.inl ⟨by rfl, fun W hSw => ?_⟩) trivial ?_
              rotate_left
              · (try simp only [List.getElem_toArray, List.getElem_cons_zero, List.getElem_cons_succ]); go_simp; any_goals (with_reducible rfl)
              (try simp only [Act.put, List.getElem_toArray, List.getElem_cons_zero, List.getElem_cons_succ, List.setIfInBounds_toArray, List.set_cons_zero, List.set_cons_succ])
              refine wpAnyH_done (by kernel_rfl) ?_ _
              go_wp2_with fail
              refine bodyPost_ret (v := .tuple #[St.val (⟨true, X, 0⟩), .int .i64 ((en : Int) + 1), .bool false]) (by simp [results, Tryz.results47, go_sem, hcR, hfR, rlt, St.val, hwe] <;> omega) rfl ?_
              exact ⟨(⟨true, X, 0⟩), _, _, rfl, HFIN.out _ (HMF.out _ _ _), .inl ⟨HF.out, rfl⟩⟩
          · have hlt1 : ¬ (en : Int) < (s.size : Int) := by omega
            have hgd : s.data.toList[en]? = none := List.getElem?_eq_none (by have := HLEN.out; omega)
            rw [hgd] at HF0
            have HF : Hid (stepRd (s.data.toList.drop i) = none) := Lib.hid (by rw [HF0.out, if_neg (fun h => by cases h.2)])
            clear hgd
            go_upto_region 8 with fail
            have R8 := Lib.hid (R.out.mod ((Mod.refl (fun _ => False) w2).drew) (fun e => e))
            have HM8 : Hid (New w w2.drew) := Lib.hid (HM.out.trans (Mod.refl (fun _ => False) w2).drew)
            refine wp_region_held_drew (S := fun _ => True) (by kernel_rfl) trivial (fun _ => ?_)
            generalize w2.drew = w3 at *
            have hcR := R8.out.cell
            have hfR := R8.out.frozen
            have rlt := R8.out.lt
            refine wpAnyH_take (i := 0) (v := ?_) rfl (by kernel_rfl) (by kernel_rfl) (by kernel_rfl) (fun _ _ _ h => h) (Or.inl ⟨by rfl, fun W hSw => ?_⟩) trivial ?_
            rotate_left
            · (try simp only [List.getElem_toArray, List.getElem_cons_zero, List.getElem_cons_succ]); go_simp; any_goals (with_reducible rfl)
            (try simp only [Act.put, List.getElem_toArray, List.getElem_cons_zero, List.getElem_cons_succ, List.setIfInBounds_toArray, List.set_cons_zero, List.set_cons_succ])
            refine wpAnyH_take (i := 1) (v := ?_) rfl (by kernel_rfl) (by kernel_rfl) (by kernel_rfl) (fun _ _ _ h => h) (Or.inl ⟨by rfl, fun W hSw => ?_⟩) trivial ?_
            rotate_left
            · (try simp only [List.getElem_toArray, List.getElem_cons_zero, List.getElem_cons_succ]); go_simp; any_goals (with_reducible rfl)
            (try simp only [Act.put, List.getElem_toArray, List.getElem_cons_zero, List.getElem_cons_succ, List.setIfInBounds_toArray, List.set_cons_zero, List.set_cons_succ])
            refine wpAnyH_take (i := 2) (v := ?_) rfl (by kernel_rfl) (by kernel_rfl) (by kernel_rfl) (fun _ _ _ h => h) (Or.inl ⟨by rfl, fun W hSw => ?_⟩) trivial ?_
            rotate_left
            · (try simp only [List.getElem_toArray, List.getElem_cons_zero, List.getElem_cons_succ]); go_simp; any_goals (with_reducible rfl)
            (try simp only [Act.put, List.getElem_toArray, List.getElem_cons_zero, List.getElem_cons_succ, List.setIfInBounds_toArray, List.set_cons_zero, List.set_cons_succ])
            refine wpAnyH_take (i := 3) (v := ?_) rfl (by kernel_rfl) (by kernel_rfl) (by kernel_rfl) (fun _ _ _ h => h) (Or.inl ⟨by rfl, fun W hSw => ?_⟩) trivial ?_
            rotate_left
            · (try simp only [List.getElem_toArray, List.getElem_cons_zero, List.getElem_cons_succ]); go_simp; any_goals (with_reducible rfl)
            (try simp only [Act.put, List.getElem_toArray, List.getElem_cons_zero, List.getElem_cons_succ, List.setIfInBounds_toArray, List.set_cons_zero, List.set_cons_succ])
            refine wpAnyH_take (i := 4) (v := ?_) rfl (by kernel_rfl) (by kernel_rfl) (by kernel_rfl) (fun _ _ _ h => h) (Or.inl ⟨by rfl, fun W hSw => ?_⟩) trivial ?_
            rotate_left
            · (try simp only [List.getElem_toArray, List.getElem_cons_zero, List.getElem_cons_succ]); go_simp; any_goals (with_reducible rfl)
            (try simp only [Act.put, List.getElem_toArray, List.getElem_cons_zero, List.getElem_cons_succ, List.setIfInBounds_toArray, List.set_cons_zero, List.set_cons_succ])
            refine wpAnyH_ready (rs := [5]) (by kernel_rfl) (by simp) ?_
            refine AllReadyH.cons rfl (fun K hK => ?_) AllReadyH.nil
            rw [if_pos (by rfl)]
            (try simp only [List.getElem_toArray, List.getElem_cons_zero, List.getElem_cons_succ])
            go_simp
            refine (HPL.out w3).mono ?_
            rintro e w4 ⟨rfl, hww⟩
            subst w4
            go_wp2_with fail
            refine hK.out _ _ trivial (fun _ => ?_)
            clear hK K
            (try simp only [Act.put, List.getElem_toArray, List.getElem_cons_zero, List.getElem_cons_succ, List.setIfInBounds_toArray, List.set_cons_zero, List.set_cons_succ])
            refine wpAnyH_take (i := 6) (v := ?_) rfl (by kernel_rfl) (by kernel_rfl) (by kernel_rfl) (fun _ _ _ h => h) (Or.inl ⟨by rfl, fun W hSw => ?_⟩) trivial ?_
            rotate_left
            · (try simp only [List.getElem_toArray, List.getElem_cons_zero, List.getElem_cons_succ]); go_simp; any_goals (with_reducible rfl)
            (try simp only [Act.put, List.getElem_toArray, List.getElem_cons_zero, List.getElem_cons_succ, List.setIfInBounds_toArray, List.set_cons_zero, List.set_cons_succ])
            refine wpAnyH_take (i := 7) (v := ?_) rfl (by kernel_rfl) (by kernel_rfl) (by kernel_rfl) (fun _ _ _ h => h) (Or.inl ⟨by rfl, fun W hSw => ?_⟩) trivial ?_
            rotate_left
            · (try simp only [List.getElem_toArray, List.getElem_cons_zero, List.getElem_cons_succ]); go_simp; any_goals (with_reducible rfl)
            (try simp only [Act.put, List.getElem_toArray, List.getElem_cons_zero, List.getElem_cons_succ, List.setIfInBounds_toArray, List.set_cons_zero, List.set_cons_succ])
            refine wpAnyH_take (i := 8) (v := ?_) rfl (by kernel_rfl) (by kernel_rfl) (by kernel_rfl) (fun _ _ _ h => h) (Or.inl ⟨by rfl, fun W hSw => ?_⟩) trivial ?_
            rotate_left
            · (try simp only [List.getElem_toArray, List.getElem_cons_zero, List.getElem_cons_succ]); go_simp; any_goals (with_reducible rfl)
            (try simp only [Act.put, List.getElem_toArray, List.getElem_cons_zero, List.getElem_cons_succ, List.setIfInBounds_toArray, List.set_cons_zero, List.set_cons_succ])
            refine wpAnyH_take (i := 9) (v := ?_) rfl (by kernel_rfl) (by kernel_rfl) (by kernel_rfl) (fun _ _ _ h => h) (Or.inl ⟨by rfl, fun W hSw => ?_⟩) trivial ?_
            rotate_left
            · (try simp only [List.getElem_toArray, List.getElem_cons_zero, List.getElem_cons_succ]); go_simp; any_goals (with_reducible rfl)
            (try simp only [Act.put, List.getElem_toArray, List.getElem_cons_zero, List.getElem_cons_succ, List.setIfInBounds_toArray, List.set_cons_zero, List.set_cons_succ])
            refine wpAnyH_take (i := 10) (v := ?_) rfl (by kernel_rfl) (by kernel_rfl) (by kernel_rfl) (fun _ _ _ h => h) (Or.inl ⟨by rfl, fun W hSw => ?_⟩) trivial ?_
            rotate_left
            · (try simp only [List.getElem_toArray, List.getElem_cons_zero, List.getElem_cons_succ]); go_simp; any_goals (with_reducible rfl)
            (try simp only [Act.put, List.getElem_toArray, List.getElem_cons_zero, List.getElem_cons_succ, List.setIfInBounds_toArray, List.set_cons_zero, List.set_cons_succ])
            refine wpAnyH_take (i := 11) (v := ?_) rfl (by kernel_rfl) (by kernel_rfl) (by kernel_rfl) (fun _ _ _ h => h) (Or.inl ⟨by rfl, fun W hSw => ?_⟩) trivial ?_
            rotate_left
            · (try simp only [List.getElem_toArray, List.getElem_cons_zero, List.getElem_cons_succ]); go_simp; any_goals (with_reducible rfl)
            (try simp only [Act.put, List.getElem_toArray, List.getElem_cons_zero, List.getElem_cons_succ, List.setIfInBounds_toArray, List.set_cons_zero, List.set_cons_succ])
            refine wpAnyH_take (i := 12) (v := ?_) rfl (by kernel_rfl) (by kernel_rfl) (by kernel_rfl) (fun _ _ _ h => h) (Or.inl ⟨by rfl, fun W hSw => ?_⟩) trivial ?_
            rotate_left
            · (try simp only [List.getElem_toArray, List.getElem_cons_zero, List.getElem_cons_succ]); go_simp; any_goals (with_reducible rfl)
            (try simp only [Act.put, List.getElem_toArray, List.getElem_cons_zero, List.getElem_cons_succ, List.setIfInBounds_toArray, List.set_cons_zero, List.set_cons_succ])
            refine wpAnyH_take (i := 13) (v := ?_) rfl (by kernel_rfl) (by kernel_rfl) (by kernel_rfl) (fun _ _ _ h => h) (Or.inl ⟨by rfl, fun W hSw => ?_⟩) trivial ?_
            rotate_left
            · (try simp only [List.getElem_toArray, List.getElem_cons_zero, List.getElem_cons_succ]); go_simp; any_goals (with_reducible rfl)
            (try simp only [Act.put, List.getElem_toArray, List.getElem_cons_zero, List.getElem_cons_succ, List.setIfInBounds_toArray, List.set_cons_zero, List.set_cons_succ])
            refine wpAnyH_take (i := 14) (v := undef) rfl (by kernel_rfl) (by kernel_rfl) (by kernel_rfl) (fun _ _ _ h => h) (Or.inr ⟨by rfl, rfl⟩) trivial ?_
            (try simp only [Act.put, List.getElem_toArray, List.getElem_cons_zero, List.getElem_cons_succ, List.setIfInBounds_toArray, List.set_cons_zero, List.set_cons_succ])
            refine wpAnyH_take (i := 15) (v := undef) rfl (by kernel_rfl) (by kernel_rfl) (by kernel_rfl) (fun _ _ _ h => h) (Or.inr ⟨by rfl, rfl⟩) trivial ?_
            (try simp only [Act.put, List.getElem_toArray, List.getElem_cons_zero, List.getElem_cons_succ, List.setIfInBounds_toArray, List.set_cons_zero, List.set_cons_succ])
            refine wpAnyH_take (i := 16) (v := undef) rfl (by kernel_rfl) (by kernel_rfl) (by kernel_rfl) (fun _ _ _ h => h) (Or.inr ⟨by rfl, rfl⟩) trivial ?_
            (try simp only [Act.put, List.getElem_toArray, List.getElem_cons_zero, List.getElem_cons_succ, List.setIfInBounds_toArray, List.set_cons_zero, List.set_cons_succ])
            refine wpAnyH_take (i := 17) (v := undef) rfl (by kernel_rfl) (by kernel_rfl) (by kernel_rfl) (fun _ _ _ h => h) (Or.inr ⟨by rfl, rfl⟩) trivial ?_
            (try simp only [Act.put, List.getElem_toArray, List.getElem_cons_zero, List.getElem_cons_succ, List.setIfInBounds_toArray, List.set_cons_zero, List.set_cons_succ])
            refine wpAnyH_take (i := 18) (v := ?_) rfl (by kernel_rfl) (by kernel_rfl) (by kernel_rfl) (fun _ _ _ h => h) (Or.inl ⟨by rfl, fun W hSw => ?_⟩) trivial ?_
            rotate_left
            · (try simp only [List.getElem_toArray, List.getElem_cons_zero, List.getElem_cons_succ]); go_simp; any_goals (with_reducible rfl)
            (try simp only [Act.put, List.getElem_toArray, List.getElem_cons_zero, List.getElem_cons_succ, List.setIfInBounds_toArray, List.set_cons_zero, List.set_cons_succ])
            have hmF := fun (v0 v1 v2 : Value) => (Mod.setCell (S := fun k => k = rb) (p := ⟨rb, 2, none⟩) (Mod.setCell (S := fun k => k = rb) (p := ⟨rb, 1, none⟩) (Mod.setCell (S := fun k => k = rb) (p := ⟨rb, 0, none⟩) (Mod.refl _ w3) (.inl rfl) v0) (.inl rfl) v1) (.inl rfl) v2)
            have HMF := Lib.hid hmF
            have HFIN : Hid (∀ W', Mod (fun k => k = rb) w3 W' → New w W') := Lib.hid (fun W' hm => HM8.out.step hm (fun i hi e => by omega))
            clear hmF
            refine wpAnyH_ready (rs := [19]) (by kernel_rfl) (by simp) ?_
            refine AllReadyH.cons rfl (fun K hK => ?_) AllReadyH.nil
            rw [if_pos (by rfl)]
            (try simp only [List.getElem_toArray, List.getElem_cons_zero, List.getElem_cons_succ])
            go_simp
            refine hK.out _ _ trivial (fun _ => ?_)
            clear hK K
            (try simp only [Act.put, List.getElem_toArray, List.getElem_cons_zero, List.getElem_cons_succ, List.setIfInBounds_toArray, List.set_cons_zero, List.set_cons_succ])
            refine wpAnyH_take (i := 20) (v := ?_) rfl (by kernel_rfl) (by kernel_rfl) (by kernel_rfl) (fun _ _ _ h => h) (Or.inl ⟨by rfl, fun W hSw => ?_⟩) trivial ?_
            rotate_left
            · (try simp only [List.getElem_toArray, List.getElem_cons_zero, List.getElem_cons_succ]); go_simp; any_goals (with_reducible rfl)
            (try simp only [Act.put, List.getElem_toArray, List.getElem_cons_zero, List.getElem_cons_succ, List.setIfInBounds_toArray, List.set_cons_zero, List.set_cons_succ])
            refine wpAnyH_take (i := 21) (v := ?_) rfl (by kernel_rfl) (by kernel_rfl) (by kernel_rfl) (fun _ _ _ h => h) (Or.inl ⟨by rfl, fun W hSw => ?_⟩) trivial ?_
            rotate_left
            · (try simp only [List.getElem_toArray, List.getElem_cons_zero, List.getElem_cons_succ]); go_simp; any_goals (with_reducible rfl)
            (try simp only [Act.put, List.getElem_toArray, List.getElem_cons_zero, List.getElem_cons_succ, List.setIfInBounds_toArray, List.set_cons_zero, List.set_cons_succ])
            refine wpAnyH_done (by kernel_rfl) ?_ _
            go_wp2_with fail
            refine bodyPost_ret (v := .tuple #[St.val (⟨true, X, 0⟩), .int .i64 ((en : Int) + 1), .bool false]) (by simp [results, Tryz.results47, go_sem, hcR, hfR, rlt, St.val, hwe] <;> omega) rfl ?_
            exact ⟨(⟨true, X, 0⟩), _, _, rfl, HFIN.out _ (HMF.out _ _ _), .inl ⟨HF.out, rfl⟩⟩
        · have HF : Hid (stepRd (s.data.toList.drop i) = none) := Lib.hid (by rw [HF0.out, if_neg (fun h => by cases h.1)])
          go_upto_region 8 with fail
          have R8 := Lib.hid (R.out.mod ((Mod.refl (fun _ => False) w2).drew) (fun e => e))
          have HM8 : Hid (New w w2.drew) := Lib.hid (HM.out.trans (Mod.refl (fun _ => False) w2).drew)
          refine wp_region_held_drew (S := fun _ => True) (by kernel_rfl) trivial (fun _ => ?_)
          generalize w2.drew = w3 at *
          have hcR := R8.out.cell
          have hfR := R8.out.frozen
          have rlt := R8.out.lt
          refine wpAnyH_take (i := 0) (v := ?_) rfl (by kernel_rfl) (by kernel_rfl) (by kernel_rfl) (fun _ _ _ h => h) (Or.inl ⟨by rfl, fun W hSw => ?_⟩) trivial ?_
          rotate_left
          · (try simp only [List.getElem_toArray, List.getElem_cons_zero, List.getElem_cons_succ]); go_simp; any_goals (with_reducible rfl)
          (try simp only [Act.put, List.getElem_toArray, List.getElem_cons_zero, List.getElem_cons_succ, List.setIfInBounds_toArray, List.set_cons_zero, List.set_cons_succ])
          refine wpAnyH_take (i := 1) (v := ?_) rfl (by kernel_rfl) (by kernel_rfl) (by kernel_rfl) (fun _ _ _ h => h) (Or.inl ⟨by rfl, fun W hSw => ?_⟩) trivial ?_
          rotate_left
          · (try simp only [List.getElem_toArray, List.getElem_cons_zero, List.getElem_cons_succ]); go_simp; any_goals (with_reducible rfl)
          (try simp only [Act.put, List.getElem_toArray, List.getElem_cons_zero, List.getElem_cons_succ, List.setIfInBounds_toArray, List.set_cons_zero, List.set_cons_succ])
          refine wpAnyH_take (i := 2) (v := ?_) rfl (by kernel_rfl) (by kernel_rfl) (by kernel_rfl) (fun _ _ _ h => h) (Or.inl ⟨by rfl, fun W hSw => ?_⟩) trivial ?_
          rotate_left
          · (try simp only [List.getElem_toArray, List.getElem_cons_zero, List.getElem_cons_succ]); go_simp; any_goals (with_reducible rfl)
          (try simp only [Act.put, List.getElem_toArray, List.getElem_cons_zero, List.getElem_cons_succ, List.setIfInBounds_toArray, List.set_cons_zero, List.set_cons_succ])
          refine wpAnyH_take (i := 3) (v := ?_) rfl (by kernel_rfl) (by kernel_rfl) (by kernel_rfl) (fun _ _ _ h => h) (Or.inl ⟨by rfl, fun W hSw => ?_⟩) trivial ?_
          rotate_left
          · (try simp only [List.getElem_toArray, List.getElem_cons_zero, List.getElem_cons_succ]); go_simp; any_goals (with_reducible rfl)
          (try simp only [Act.put, List.getElem_toArray, List.getElem_cons_zero, List.getElem_cons_succ, List.setIfInBounds_toArray, List.set_cons_zero, List.set_cons_succ])
          refine wpAnyH_take (i := 4) (v := ?_) rfl (by kernel_rfl) (by kernel_rfl) (by kernel_rfl) (fun _ _ _ h => h) (Or.inl ⟨by rfl, fun W hSw => ?_⟩) trivial ?_
          rotate_left
          · (try simp only [List.getElem_toArray, List.getElem_cons_zero, List.getElem_cons_succ]); go_simp; any_goals (with_reducible rfl)
          (try simp only [Act.put, List.getElem_toArray, List.getElem_cons_zero, List.getElem_cons_succ, List.setIfInBounds_toArray, List.set_cons_zero, List.set_cons_succ])
          refine wpAnyH_ready (rs := [5]) (by kernel_rfl) (by simp) ?_
          refine AllReadyH.cons rfl (fun K hK => ?_) AllReadyH.nil
          rw [if_pos (by rfl)]
          (try simp only [List.getElem_toArray, List.getElem_cons_zero, List.getElem_cons_succ])
          go_simp
          refine (HPL.out w3).mono ?_
          rintro e w4 ⟨rfl, hww⟩
          subst w4
          go_wp2_with fail
          refine hK.out _ _ trivial (fun _ => ?_)
          clear hK K
          (try simp only [Act.put, List.getElem_toArray, List.getElem_cons_zero, List.getElem_cons_succ, List.setIfInBounds_toArray, List.set_cons_zero, List.set_cons_succ])
          refine wpAnyH_take (i := 6) (v := ?_) rfl (by kernel_rfl) (by kernel_rfl) (by kernel_rfl) (fun _ _ _ h => h) (Or.inl ⟨by rfl, fun W hSw => ?_⟩) trivial ?_
          rotate_left
          · (try simp only [List.getElem_toArray, List.getElem_cons_zero, List.getElem_cons_succ]); go_simp; any_goals (with_reducible rfl)
          (try simp only [Act.put, List.getElem_toArray, List.getElem_cons_zero, List.getElem_cons_succ, List.setIfInBounds_toArray, List.set_cons_zero, List.set_cons_succ])
          refine wpAnyH_take (i := 7) (v := ?_) rfl (by kernel_rfl) (by kernel_rfl) (by kernel_rfl) (fun _ _ _ h => h) (Or.inl ⟨by rfl, fun W hSw => ?_⟩) trivial ?_
          rotate_left
          · (try simp only [List.getElem_toArray, List.getElem_cons_zero, List.getElem_cons_succ]); go_simp; any_goals (with_reducible rfl)
          (try simp only [Act.put, List.getElem_toArray, List.getElem_cons_zero, List.getElem_cons_succ, List.setIfInBounds_toArray, List.set_cons_zero, List.set_cons_succ])
          refine wpAnyH_take (i := 8) (v := undef) rfl (by kernel_rfl) (by kernel_rfl) (by kernel_rfl) (fun _ _ _ h => h) (Or.inr ⟨by rfl, rfl⟩) trivial ?_
          (try simp only [Act.put, List.getElem_toArray, List.getElem_cons_zero, List.getElem_cons_succ, List.setIfInBounds_toArray, List.set_cons_zero, List.set_cons_succ])
          refine wpAnyH_take (i := 9) (v := undef) rfl (by kernel_rfl) (by kernel_rfl) (by kernel_rfl) (fun _ _ _ h => h) (Or.inr ⟨by rfl, rfl⟩) trivial ?_
          (try simp only [Act.put, List.getElem_toArray, List.getElem_cons_zero, List.getElem_cons_succ, List.setIfInBounds_toArray, List.set_cons_zero, List.set_cons_succ])
          refine wpAnyH_take (i := 10) (v := undef) rfl (by kernel_rfl) (by kernel_rfl) (by kernel_rfl) (fun _ _ _ h => h) (Or.inr ⟨by rfl, rfl⟩) trivial ?_
          (try simp only [Act.put, List.getElem_toArray, List.getElem_cons_zero, List.getElem_cons_succ, List.setIfInBounds_toArray, List.set_cons_zero, List.set_cons_succ])
          refine wpAnyH_take (i := 11) (v := undef) rfl (by kernel_rfl) (by kernel_rfl) (by kernel_rfl) (fun _ _ _ h => h) (Or.inr ⟨by rfl, rfl⟩) trivial ?_
          (try simp only [Act.put, List.getElem_toArray, List.getElem_cons_zero, List.getElem_cons_succ, List.setIfInBounds_toArray, List.set_cons_zero, List.set_cons_succ])
          refine wpAnyH_take (i := 12) (v := ?_) rfl (by kernel_rfl) (by kernel_rfl) (by kernel_rfl) (fun _ _ _ h => h) (Or.inl ⟨by rfl, fun W hSw => ?_⟩) trivial ?_
          rotate_left
          · (try simp only [List.getElem_toArray, List.getElem_cons_zero, List.getElem_cons_succ]); go_simp; any_goals (with_reducible rfl)
          (try simp only [Act.put, List.getElem_toArray, List.getElem_cons_zero, List.getElem_cons_succ, List.setIfInBounds_toArray, List.set_cons_zero, List.set_cons_succ])
          refine wpAnyH_take (i := 13) (v := ?_) rfl (by kernel_rfl) (by kernel_rfl) (by kernel_rfl) (fun _ _ _ h => h) (Or.inl ⟨by rfl, fun W hSw => ?_⟩) trivial ?_
          rotate_left
          · (try simp only [List.getElem_toArray, List.getElem_cons_zero, List.getElem_cons_succ]); go_simp; any_goals (with_reducible rfl)
          (try simp only [Act.put, List.getElem_toArray, List.getElem_cons_zero, List.getElem_cons_succ, List.setIfInBounds_toArray, List.set_cons_zero, List.set_cons_succ])
          refine wpAnyH_take (i := 14) (v := undef) rfl (by kernel_rfl) (by kernel_rfl) (by kernel_rfl) (fun _ _ _ h => h) (Or.inr ⟨by rfl, rfl⟩) trivial ?_
          (try simp only [Act.put, List.getElem_toArray, List.getElem_cons_zero, List.getElem_cons_succ, List.setIfInBounds_toArray, List.set_cons_zero, List.set_cons_succ])
          refine wpAnyH_take (i := 15) (v := undef) rfl (by kernel_rfl) (by kernel_rfl) (by kernel_rfl) (fun _ _ _ h => h) (Or.inr ⟨by rfl, rfl⟩) trivial ?_
          (try simp only [Act.put, List.getElem_toArray, List.getElem_cons_zero, List.getElem_cons_succ, List.setIfInBounds_toArray, List.set_cons_zero, List.set_cons_succ])
          refine wpAnyH_take (i := 16) (v := undef) rfl (by kernel_rfl) (by kernel_rfl) (by kernel_rfl) (fun _ _ _ h => h) (Or.inr ⟨by rfl, rfl⟩) trivial ?_
          (try simp only [Act.put, List.getElem_toArray, List.getElem_cons_zero, List.getElem_cons_succ, List.setIfInBounds_toArray, List.set_cons_zero, List.set_cons_succ])
          refine wpAnyH_take (i := 17) (v := undef) rfl (by kernel_rfl) (by kernel_rfl) (by kernel_rfl) (fun _ _ _ h => h) (Or.inr ⟨by rfl, rfl⟩) trivial ?_
          (try simp only [Act.put, List.getElem_toArray, List.getElem_cons_zero, List.getElem_cons_succ, List.setIfInBounds_toArray, List.set_cons_zero, List.set_cons_succ])
          refine wpAnyH_take (i := 18) (v := ?_) rfl (by kernel_rfl) (by kernel_rfl) (by kernel_rfl) (fun _ _ _ h => h) (Or.inl ⟨by rfl, fun W hSw => ?_⟩) trivial ?_
          rotate_left
          · (try simp only [List.getElem_toArray, List.getElem_cons_zero, List.getElem_cons_succ]); go_simp; any_goals (with_reducible rfl)
          (try simp only [Act.put, List.getElem_toArray, List.getElem_cons_zero, List.getElem_cons_succ, List.setIfInBounds_toArray, List.set_cons_zero, List.set_cons_succ])
          have hmF := fun (v0 v1 v2 : Value) => (Mod.setCell (S := fun k => k = rb) (p := ⟨rb, 2, none⟩) (Mod.setCell (S := fun k => k = rb) (p := ⟨rb, 1, none⟩) (Mod.setCell (S := fun k => k = rb) (p := ⟨rb, 0, none⟩) (Mod.refl _ w3) (.inl rfl) v0) (.inl rfl) v1) (.inl rfl) v2)
          have HMF := Lib.hid hmF
          have HFIN : Hid (∀ W', Mod (fun k => k = rb) w3 W' → New w W') := Lib.hid (fun W' hm => HM8.out.step hm (fun i hi e => by omega))
          clear hmF
          refine wpAnyH_ready (rs := [19]) (by kernel_rfl) (by simp) ?_
          refine AllReadyH.cons rfl (fun K hK => ?_) AllReadyH.nil
          rw [if_pos (by rfl)]
          (try simp only [List.getElem_toArray, List.getElem_cons_zero, List.getElem_cons_succ])
          go_simp
          refine hK.out _ _ trivial (fun _ => ?_)
          clear hK K
          (try simp only [Act.put, List.getElem_toArray, List.getElem_cons_zero, List.getElem_cons_succ, List.setIfInBounds_toArray, List.set_cons_zero, List.set_cons_succ])
          refine wpAnyH_take (i := 20) (v := ?_) rfl (by kernel_rfl) (by kernel_rfl) (by kernel_rfl) (fun _ _ _ h => h) (Or.inl ⟨by rfl, fun W hSw => ?_⟩) trivial ?_
          rotate_left
          · (try simp only [List.getElem_toArray, List.getElem_cons_zero, List.getElem_cons_succ]); go_simp; any_goals (with_reducible rfl)
          (try simp only [Act.put, List.getElem_toArray, List.getElem_cons_zero, List.getElem_cons_succ, List.setIfInBounds_toArray, List.set_cons_zero, List.set_cons_succ])
          refine wpAnyH_take (i := 21) (v := ?_) rfl (by kernel_rfl) (by kernel_rfl) (by kernel_rfl) (fun _ _ _ h => h) (Or.inl ⟨by rfl, fun W hSw => ?_⟩) trivial ?_
          rotate_left
          · (try simp only [List.getElem_toArray, List.getElem_cons_zero, List.getElem_cons_succ]); go_simp; any_goals (with_reducible rfl)
          (try simp only [Act.put, List.getElem_toArray, List.getElem_cons_zero, List.getElem_cons_succ, List.setIfInBounds_toArray, List.set_cons_zero, List.set_cons_succ])
          refine wpAnyH_done (by kernel_rfl) ?_ _
          go_wp2_with fail
          refine bodyPost_ret (v := .tuple #[St.val (⟨true, X, 0⟩), .int .i64 ((en : Int) + 1), .bool false]) (by simp [results, Tryz.results47, go_sem, hcR, hfR, rlt, St.val, hwe] <;> omega) rfl ?_
          exact ⟨(⟨true, X, 0⟩), _, _, rfl, HFIN.out _ (HMF.out _ _ _), .inl ⟨HF.out, rfl⟩⟩

end Go.Proofs.YtpgcbehpknghdaaGreatDoor
