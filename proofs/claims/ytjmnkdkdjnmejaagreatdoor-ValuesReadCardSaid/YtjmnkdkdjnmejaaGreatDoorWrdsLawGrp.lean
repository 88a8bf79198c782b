/- Several texts in one. (1) Words in quotes as they are read, the plain law. No program in sight. No conditions. (2) An escape behind its backslash (value.escaped). Conditions: a text of modest size, a place within it. (3) Words in quotes are read (value.words). Conditions: a text of modest size, a place within it. (4) The reference reads words in quotes (gateref1.LooseWords). Conditions: a text of modest size that is not empty. -/
import Derived.Test.YtjmnkdkdjnmejaaGreatDoorBaseGrp
import Derived.Test.YtjmnkdkdjnmejaaGreatDoorSegGrp
import Derived.Test.YtjmnkdkdjnmejaaGreatDoorOwnF

namespace Go.Proofs.YtjmnkdkdjnmejaaGreatDoor
open Go.RowKit
set_option linter.unusedVariables false
set_option linter.unusedSimpArgs false

/-- the bytes that may stand behind a backslash, and what they stand for -/
def escB : List UInt8 := [34, 92, 47, 98, 102, 110, 114, 116]
def escV : List UInt8 := [34, 92, 47, 8, 12, 10, 13, 9]
/-- an escape behind its backslash: the rune, and how many bytes it has -/
def escL : List UInt8 → Option (Int × Nat)
  | [] => none
  | c :: r =>
    if 0 ≤ Lib.indexByte escB c then some (((escV.getD (Lib.indexByte escB c).toNat 0).toNat : Int), 1)
    else if c ≠ 117 then none
    else if hexAt r < 0 ∨ (56320 ≤ hexAt r ∧ hexAt r < 57344) then none
    else if hexAt r < 55296 ∨ 57344 ≤ hexAt r then some (hexAt r, 5)
    else if Lib.hasPrefix (r.drop 4) [92, 117] = false then none
    else if hexAt (r.drop 6) < 56320 ∨ 57344 ≤ hexAt (r.drop 6) then none
    else some (65536 + (hexAt r - 55296) * 1024 + hexAt (r.drop 6) - 56320, 11)
theorem escL_len {l : List UInt8} {x : Int} {k : Nat} (h : escL l = some (x, k)) : 1 ≤ k ∧ k ≤ 11 := by
  unfold escL at h
  repeat' split at h
  all_goals first | (injection h with h; injection h with h1 h2; subst h2; decide) | exact absurd h (by simp)
/-- words behind their quotation mark; out: what is read, n: how many bytes that were -/
def wordsL : Nat → List UInt8 → Nat → List UInt8 → Option (List UInt8 × Nat)
  | 0, _, _, _ => none
  | _ + 1, _, _, [] => none
  | f + 1, out, n, c :: r =>
    if c = 34 then some (out, n + 1) else if c.toNat < 32 then none
    else if c = 92 then match escL r with
      | none => none
      | some (x, k) => wordsL f (out ++ Lib.encodeRune x) (n + 1 + k) (r.drop k)
    else wordsL f (out ++ [c]) (n + 1) r
def wordsOf (l : List UInt8) : Option (List UInt8 × Nat) := wordsL (l.length + 1) [] 0 l
theorem hexAt_ge {l : List UInt8} (h : 0 ≤ hexAt l) : 4 ≤ l.length := by
  unfold hexAt at h
  split at h
  · omega
  · omega
theorem escL_le {l : List UInt8} {x : Int} {k : Nat} (h : escL l = some (x, k)) : k ≤ l.length := by
  cases l with
  | nil => cases h
  | cons c r =>
    rw [escL] at h
    rw [List.length_cons]
    split at h
    · injection h with h; injection h with h1 h2; omega
    · split at h
      · cases h
      · split at h
        · cases h
        · rename_i h3
          split at h
          · injection h with h; injection h with h1 h2
            have := hexAt_ge (l := r) (by omega)
            omega
          · split at h
            · cases h
            · split at h
              · cases h
              · rename_i h6
                injection h with h; injection h with h1 h2
                have := hexAt_ge (l := r.drop 6) (by omega)
                rw [List.length_drop] at this
                omega
theorem wordsL_le : ∀ (f : Nat) (out : List UInt8) (n : Nat) (l o : List UInt8) (m : Nat), wordsL f out n l = some (o, m) → n < m ∧ m ≤ n + l.length
  | 0, _, _, _, _, _, h => by cases h
  | f + 1, out, n, [], o, m, h => by cases h
  | f + 1, out, n, c :: r, o, m, h => by
    unfold wordsL at h
    rw [List.length_cons]
    split at h
    · injection h with h; injection h with h1 h2
      omega
    · split at h
      · cases h
      · split at h
        · cases he : escL r with
          | none => rw [he] at h; cases h
          | some q =>
            obtain ⟨x, k⟩ := q
            rw [he] at h
            have hk := escL_le he
            have := wordsL_le f _ _ _ o m h
            rw [List.length_drop] at this
            omega
        · have := wordsL_le f _ _ _ o m h
          omega
theorem runeB_le (x : Int) : (Lib.encodeRune x).length ≤ 4 := by
  unfold Lib.encodeRune Lib.encodeRuneZ
  rw [List.length_map]
  repeat' split
  all_goals simp
theorem wordsL_size : ∀ (f : Nat) (out : List UInt8) (n : Nat) (l o : List UInt8) (m : Nat), out.length ≤ 4 * (n + 1) → wordsL f out n l = some (o, m) → o.length ≤ 4 * (m + 1)
  | 0, _, _, _, _, _, _, h => by cases h
  | f + 1, out, n, [], o, m, _, h => by cases h
  | f + 1, out, n, c :: r, o, m, h0, h => by
    unfold wordsL at h
    split at h
    · injection h with h; injection h with h1 h2
      rw [← h1]
      omega
    · split at h
      · cases h
      · split at h
        · cases he : escL r with
          | none => rw [he] at h; cases h
          | some q =>
            obtain ⟨x, k⟩ := q
            rw [he] at h
            have := runeB_le x
            exact wordsL_size f _ _ _ o m (by rw [List.length_append]; omega) h
        · exact wordsL_size f _ _ _ o m (by rw [List.length_append, List.length_singleton]; omega) h

def REsc (q : Option (Int × Nat)) (w : World) (e : Ending) (w' : World) : Prop := (∃ r n, e = .returned (.tuple #[.int .i32 r, .int .i64 n]) ∧ ((q = none ∧ n = 0) ∨ ∃ k : Nat, q = some (r, k) ∧ n = k)) ∧ New w w'
theorem REsc.none {q : Option (Int × Nat)} {w w' : World} (h : q = none) (hm : New w w') : REsc q w (.returned (.tuple #[.int .i32 0, .int .i64 0])) w' := ⟨⟨0, 0, rfl, .inl ⟨h, rfl⟩⟩, hm⟩
theorem REsc.some {q : Option (Int × Nat)} {w w' : World} {r n : Int} {k : Nat} (h : q = some (r, k)) (hn : n = k) (hm : New w w') : REsc q w (.returned (.tuple #[.int .i32 r, .int .i64 n])) w' := ⟨⟨r, n, rfl, .inr ⟨k, h, hn⟩⟩, hm⟩
theorem esc_byte {c : UInt8} (h : 0 ≤ Lib.indexByte escB c) : c = 34 ∨ c = 92 ∨ c = 47 ∨ c = 98 ∨ c = 102 ∨ c = 110 ∨ c = 114 ∨ c = 116 := by
  revert h
  revert c
  apply byteOf
  decide +kernel
theorem hexAt_lt (l : List UInt8) : hexAt l < 65536 := by
  unfold hexAt
  split
  · omega
  · split
    · omega
    · rename_i h1 h2
      have h3 : (l.take 4).all (fun c => isHexN c.toNat) = true := by simpa using h2
      have h4 : (l.take 4).length = 4 := by rw [List.length_take]; omega
      have := hexNum_lt (List.all_eq_true.1 h3) 4 (by omega)
      rw [List.take_of_length_le (by omega)] at this
      omega
set_option maxRecDepth 100000 in
set_option maxHeartbeats 700000 in
theorem val_escaped (s : ByteArray) (i : Nat) (w : World) (hs : s.size ≤ 900000) (hi : i ≤ s.size) :
    Calls Tryz.prog 98 #[.string s, .int .i64 i] w (REsc (escL (s.data.toList.drop i)) w) := by
  have hlen : s.data.toList.length = s.size := rfl
  by_cases h0 : i = s.size
  · have h0' : ((i : Int) == (s.size : Int)) = true := by simp; omega
    have HE : Hid (escL (s.data.toList.drop i) = none) := hId (by rw [List.drop_of_length_le (by omega)]; rfl)
    clear hi h0 hlen
    go_enter Tryz.func98, Tryz.ntmps98
    go_wp2_with fail
    go_ret2
    exact REsc.none HE.out (Mod.refl _ _)
  · have h0' : ((i : Int) == (s.size : Int)) = false := by simp; omega
    have hlt : i < s.size := by omega
    have hii : (i : Int) < (s.size : Int) := by omega
    have hi0 : (0 : Int) ≤ i := by omega
    have hdrop : s.data.toList.drop i = s.data.toList[i]'(by omega) :: s.data.toList.drop (i + 1) := List.drop_eq_getElem_cons _
    obtain ⟨c, hci⟩ : ∃ c, s[i]'hlt = c := ⟨_, rfl⟩
    have hgi : s.data.toList[i]'(by omega) = c := hci
    have hd5 : (s.extract (i + 5) s.size).data.toList = s.data.toList.drop (i + 5) := by rw [extract_data, List.take_of_length_le]; rw [List.length_drop]; omega
    rw [hgi] at hdrop
    have hib := Tryz.strings_IndexByte ⟨escB.toArray⟩ (c.toNat : Int) w
    have hcc : (c.toNat : Int).toNat.toUInt8 = c := by simp
    rw [hcc] at hib
    unfold escB at hib
    simp only at hib
    by_cases hb : 0 ≤ Lib.indexByte escB c
    · have HD := hId hdrop
      clear hdrop hd5 hcc hgi hlen h0
      rcases esc_byte hb with rfl | rfl | rfl | rfl | rfl | rfl | rfl | rfl
      · have hk : Lib.indexByte [34, 92, 47, 98, 102, 110, 114, 116] 34 = 0 := by decide
        rw [hk] at hib
        have hck : ((34 : UInt8).toNat : Int) = 34 := rfl
        rw [hck] at hib
        have HE : Hid (escL (s.data.toList.drop i) = some (34, 1)) := hId (by rw [HD.out, escL, if_pos (by decide)]; rfl)
        clear hk hb
        go_enter Tryz.func98, Tryz.ntmps98
        go_wp2_with (first | (refine hib.mono ?_; clear hib; rintro e w' ⟨rfl, rfl⟩))
        go_ret2
        exact REsc.some (k := 1) (HE.out.trans (by kernel_rfl)) rfl (Mod.refl _ _)
      · have hk : Lib.indexByte [34, 92, 47, 98, 102, 110, 114, 116] 92 = 1 := by decide
        rw [hk] at hib
        have hck : ((92 : UInt8).toNat : Int) = 92 := rfl
        rw [hck] at hib
        have HE : Hid (escL (s.data.toList.drop i) = some (92, 1)) := hId (by rw [HD.out, escL, if_pos (by decide)]; rfl)
        clear hk hb
        go_enter Tryz.func98, Tryz.ntmps98
        go_wp2_with (first | (refine hib.mono ?_; clear hib; rintro e w' ⟨rfl, rfl⟩))
        go_ret2
        exact REsc.some (k := 1) (HE.out.trans (by kernel_rfl)) rfl (Mod.refl _ _)
      · have hk : Lib.indexByte [34, 92, 47, 98, 102, 110, 114, 116] 47 = 2 := by decide
        rw [hk] at hib
        have hck : ((47 : UInt8).toNat : Int) = 47 := rfl
        rw [hck] at hib
        have HE : Hid (escL (s.data.toList.drop i) = some (47, 1)) := hId (by rw [HD.out, escL, if_pos (by decide)]; rfl)
        clear hk hb
        go_enter Tryz.func98, Tryz.ntmps98
        go_wp2_with (first | (refine hib.mono ?_; clear hib; rintro e w' ⟨rfl, rfl⟩))
        go_ret2
        exact REsc.some (k := 1) (HE.out.trans (by kernel_rfl)) rfl (Mod.refl _ _)
      · have hk : Lib.indexByte [34, 92, 47, 98, 102, 110, 114, 116] 98 = 3 := by decide
        rw [hk] at hib
        have hck : ((98 : UInt8).toNat : Int) = 98 := rfl
        rw [hck] at hib
        have HE : Hid (escL (s.data.toList.drop i) = some (8, 1)) := hId (by rw [HD.out, escL, if_pos (by decide)]; rfl)
        clear hk hb
        go_enter Tryz.func98, Tryz.ntmps98
        go_wp2_with (first | (refine hib.mono ?_; clear hib; rintro e w' ⟨rfl, rfl⟩))
        go_ret2
        exact REsc.some (k := 1) (HE.out.trans (by kernel_rfl)) rfl (Mod.refl _ _)
      · have hk : Lib.indexByte [34, 92, 47, 98, 102, 110, 114, 116] 102 = 4 := by decide
        rw [hk] at hib
        have hck : ((102 : UInt8).toNat : Int) = 102 := rfl
        rw [hck] at hib
        have HE : Hid (escL (s.data.toList.drop i) = some (12, 1)) := hId (by rw [HD.out, escL, if_pos (by decide)]; rfl)
        clear hk hb
        go_enter Tryz.func98, Tryz.ntmps98
        go_wp2_with (first | (refine hib.mono ?_; clear hib; rintro e w' ⟨rfl, rfl⟩))
        go_ret2
        exact REsc.some (k := 1) (HE.out.trans (by kernel_rfl)) rfl (Mod.refl _ _)
      · have hk : Lib.indexByte [34, 92, 47, 98, 102, 110, 114, 116] 110 = 5 := by decide
        rw [hk] at hib
        have hck : ((110 : UInt8).toNat : Int) = 110 := rfl
        rw [hck] at hib
        have HE : Hid (escL (s.data.toList.drop i) = some (10, 1)) := hId (by rw [HD.out, escL, if_pos (by decide)]; rfl)
        clear hk hb
        go_enter Tryz.func98, Tryz.ntmps98
        go_wp2_with (first | (refine hib.mono ?_; clear hib; rintro e w' ⟨rfl, rfl⟩))
        go_ret2
        exact REsc.some (k := 1) (HE.out.trans (by kernel_rfl)) rfl (Mod.refl _ _)
      · have hk : Lib.indexByte [34, 92, 47, 98, 102, 110, 114, 116] 114 = 6 := by decide
        rw [hk] at hib
        have hck : ((114 : UInt8).toNat : Int) = 114 := rfl
        rw [hck] at hib
        have HE : Hid (escL (s.data.toList.drop i) = some (13, 1)) := hId (by rw [HD.out, escL, if_pos (by decide)]; rfl)
        clear hk hb
        go_enter Tryz.func98, Tryz.ntmps98
        go_wp2_with (first | (refine hib.mono ?_; clear hib; rintro e w' ⟨rfl, rfl⟩))
        go_ret2
        exact REsc.some (k := 1) (HE.out.trans (by kernel_rfl)) rfl (Mod.refl _ _)
      · have hk : Lib.indexByte [34, 92, 47, 98, 102, 110, 114, 116] 116 = 7 := by decide
        rw [hk] at hib
        have hck : ((116 : UInt8).toNat : Int) = 116 := rfl
        rw [hck] at hib
        have HE : Hid (escL (s.data.toList.drop i) = some (9, 1)) := hId (by rw [HD.out, escL, if_pos (by decide)]; rfl)
        clear hk hb
        go_enter Tryz.func98, Tryz.ntmps98
        go_wp2_with (first | (refine hib.mono ?_; clear hib; rintro e w' ⟨rfl, rfl⟩))
        go_ret2
        exact REsc.some (k := 1) (HE.out.trans (by kernel_rfl)) rfl (Mod.refl _ _)
    · have hbn : Lib.indexByte escB c < 0 := by omega
      unfold escB at hbn
      by_cases h117 : c = 117
      rotate_left
      · have hcn : ((c.toNat : Int) != 117) = true := by
          simp only [bne_iff_ne, ne_eq]
          intro h
          exact h117 (UInt8.toNat_inj.1 (by have : (117 : UInt8).toNat = 117 := rfl; omega))
        have HE : Hid (escL (s.data.toList.drop i) = none) := hId (by rw [hdrop, escL, if_neg hb, if_pos h117])
        generalize Lib.indexByte [34, 92, 47, 98, 102, 110, 114, 116] c = k at *
        clear hdrop hd5 hcc hgi hlen h0 hb h117
        go_enter Tryz.func98, Tryz.ntmps98
        go_wp2_with (first | (refine hib.mono ?_; clear hib; rintro e w' ⟨rfl, rfl⟩))
        go_ret2
        exact REsc.none HE.out (Mod.refl _ _)
      · subst h117
        have hE : escL (s.data.toList.drop i) = if hexAt (s.data.toList.drop (i + 1)) < 0 ∨ (56320 ≤ hexAt (s.data.toList.drop (i + 1)) ∧ hexAt (s.data.toList.drop (i + 1)) < 57344) then none
            else if hexAt (s.data.toList.drop (i + 1)) < 55296 ∨ 57344 ≤ hexAt (s.data.toList.drop (i + 1)) then some (hexAt (s.data.toList.drop (i + 1)), 5)
            else if Lib.hasPrefix (s.data.toList.drop (i + 5)) [92, 117] = false then none
            else if hexAt (s.data.toList.drop (i + 7)) < 56320 ∨ 57344 ≤ hexAt (s.data.toList.drop (i + 7)) then none
            else some (65536 + (hexAt (s.data.toList.drop (i + 1)) - 55296) * 1024 + hexAt (s.data.toList.drop (i + 7)) - 56320, 11) := by
          rw [hdrop, escL, if_neg hb, if_neg (by decide), List.drop_drop, List.drop_drop]
        have hge := fun h => hexAt_ge (l := s.data.toList.drop (i + 1)) h
        rw [List.length_drop, hlen] at hge
        have hcd := val_code s (i + 1) w hs (by omega)
        have hpf := fun W => Tryz.strings_HasPrefix (s.extract (i + 5) s.size) ⟨#[92, 117]⟩ W
        have hcd2 := fun W => val_code s (i + 7) W hs (by omega)
        rw [show ((i + 1 : Nat) : Int) = (i : Int) + 1 by omega] at hcd
        rw [show ((i + 7 : Nat) : Int) = (i : Int) + 7 by omega] at hcd2
        rw [hd5] at hpf
        simp only at hpf
        have ha := hexAt_lt (s.data.toList.drop (i + 1))
        have hb' := hexAt_lt (s.data.toList.drop (i + 7))
        have HE := hId hE
        generalize hexAt (s.data.toList.drop (i + 1)) = a at *
        generalize hexAt (s.data.toList.drop (i + 7)) = b at *
        generalize Lib.hasPrefix (s.data.toList.drop (i + 5)) [92, 117] = p at *
        generalize Lib.indexByte [34, 92, 47, 98, 102, 110, 114, 116] 117 = k at *
        have HCD2 := hId hcd2
        have HPF := hId hpf
        have hw32 : 0 ≤ a → IntKind.i32.wrap a = a := fun h => by
          simp [IntKind.wrap, IntKind.signed, IntKind.bits]
          omega
        have HW := hId hw32
        clear hdrop hd5 hcc hb hE hw32 hcd2 hpf hgi h0 hlen
        by_cases a1 : a < 0
        · have d1 : decide (a < 0) = true := by simp; omega
          have HQ : Hid (escL (s.data.toList.drop i) = none) := hId (by rw [HE.out, if_pos (.inl a1)])
          go_enter Tryz.func98, Tryz.ntmps98
          (go_wp2_with (first | (refine hib.mono ?_; clear hib; rintro e w' ⟨rfl, rfl⟩) | (refine hcd.mono ?_; clear hcd; rintro e w2 ⟨rfl, hm2⟩; have hm2 := hId hm2; have hcd2 := HCD2.out w2; have hpf := HPF.out w2) | (refine hpf.mono ?_; clear hpf; rintro e w' ⟨rfl, rfl⟩) | (refine hcd2.mono ?_; clear hcd2; rintro e w3 ⟨rfl, hm3⟩; have hm3 := hId hm3)))
          go_ret2
          exact REsc.none HQ.out hm2.out
        · have a0 : 0 ≤ a := by omega
          have hw := HW.out a0
          have hg := hge a0
          have d1 : decide (a < 0) = false := by simp; omega
          by_cases a2 : 56320 ≤ a ∧ a < 57344
          · have HQ : Hid (escL (s.data.toList.drop i) = none) := hId (by rw [HE.out, if_pos (.inr a2)])
            obtain ⟨a3, a4⟩ := a2
            have d2 : decide (56320 ≤ a) = true := by simp; omega
            have d3 : decide (a < 57344) = true := by simp; omega
            go_enter Tryz.func98, Tryz.ntmps98
            (go_wp2_with (first | (refine hib.mono ?_; clear hib; rintro e w' ⟨rfl, rfl⟩) | (refine hcd.mono ?_; clear hcd; rintro e w2 ⟨rfl, hm2⟩; have hm2 := hId hm2; have hcd2 := HCD2.out w2; have hpf := HPF.out w2) | (refine hpf.mono ?_; clear hpf; rintro e w' ⟨rfl, rfl⟩) | (refine hcd2.mono ?_; clear hcd2; rintro e w3 ⟨rfl, hm3⟩; have hm3 := hId hm3)))
            go_ret2
            exact REsc.none HQ.out hm2.out
          · by_cases a3 : a < 55296
            · have a4 : ¬ 56320 ≤ a := by omega
              have HQ : Hid (escL (s.data.toList.drop i) = some (a, 5)) := hId (by rw [HE.out, if_neg (by omega), if_pos (.inl a3)])
              have d2 : decide (56320 ≤ a) = false := by simp; omega
              have d4 : decide (a < 55296) = true := by simp; omega
              clear a2
              go_enter Tryz.func98, Tryz.ntmps98
              (go_wp2_with (first | (refine hib.mono ?_; clear hib; rintro e w' ⟨rfl, rfl⟩) | (refine hcd.mono ?_; clear hcd; rintro e w2 ⟨rfl, hm2⟩; have hm2 := hId hm2; have hcd2 := HCD2.out w2; have hpf := HPF.out w2) | (refine hpf.mono ?_; clear hpf; rintro e w' ⟨rfl, rfl⟩) | (refine hcd2.mono ?_; clear hcd2; rintro e w3 ⟨rfl, hm3⟩; have hm3 := hId hm3)))
              go_ret2
              exact REsc.some HQ.out rfl hm2.out
            · have d4 : decide (a < 55296) = false := by simp; omega
              by_cases a4 : 57344 ≤ a
              · have a5 : 56320 ≤ a := by omega
                have a6 : ¬ a < 57344 := by omega
                have HQ : Hid (escL (s.data.toList.drop i) = some (a, 5)) := hId (by rw [HE.out, if_neg (by omega), if_pos (.inr a4)])
                have d2 : decide (56320 ≤ a) = true := by simp; omega
                have d3 : decide (a < 57344) = false := by simp; omega
                have d5 : decide (57344 ≤ a) = true := by simp; omega
                clear a2 a1 a3 a4 a5 a6 a0
                go_enter Tryz.func98, Tryz.ntmps98
                (go_wp2_with (first | (refine hib.mono ?_; clear hib; rintro e w' ⟨rfl, rfl⟩) | (refine hcd.mono ?_; clear hcd; rintro e w2 ⟨rfl, hm2⟩; have hm2 := hId hm2; have hcd2 := HCD2.out w2; have hpf := HPF.out w2) | (refine hpf.mono ?_; clear hpf; rintro e w' ⟨rfl, rfl⟩) | (refine hcd2.mono ?_; clear hcd2; rintro e w3 ⟨rfl, hm3⟩; have hm3 := hId hm3)))
                go_ret2
                exact REsc.some HQ.out rfl hm2.out
              · have d2 : decide (56320 ≤ a) = false := by simp; omega
                have d5 : decide (57344 ≤ a) = false := by simp; omega
                have a5 : ¬ 56320 ≤ a := by omega
                have hi5 : (i : Int) + 5 ≤ (s.size : Int) := by omega
                have hi50 : (0 : Int) ≤ (i : Int) + 5 := by omega
                have hlo : 55296 ≤ a := by omega
                have hhi : a < 56320 := by omega
                clear a2 hw a1 a3 a4 a5 a0
                have HLO := hId hlo
                have HHI := hId hhi
                clear hlo hhi
                cases p
                · have HQ : Hid (escL (s.data.toList.drop i) = none) := hId (by have h1 := HLO.out; have h2 := HHI.out; rw [HE.out, if_neg (by omega), if_neg (by omega), if_pos rfl])
                  go_enter Tryz.func98, Tryz.ntmps98
                  (go_wp2_with (first | (refine hib.mono ?_; clear hib; rintro e w' ⟨rfl, rfl⟩) | (refine hcd.mono ?_; clear hcd; rintro e w2 ⟨rfl, hm2⟩; have hm2 := hId hm2; have hcd2 := HCD2.out w2; have hpf := HPF.out w2) | (refine hpf.mono ?_; clear hpf; rintro e w' ⟨rfl, rfl⟩) | (refine hcd2.mono ?_; clear hcd2; rintro e w3 ⟨rfl, hm3⟩; have hm3 := hId hm3)))
                  go_ret2
                  exact REsc.none HQ.out hm2.out
                · by_cases b1 : b < 56320
                  · have HQ : Hid (escL (s.data.toList.drop i) = none) := hId (by have h1 := HLO.out; have h2 := HHI.out; rw [HE.out, if_neg (by omega), if_neg (by omega), if_neg (by decide), if_pos (.inl b1)])
                    have e1 : decide (b < 56320) = true := by simp; omega
                    go_enter Tryz.func98, Tryz.ntmps98
                    (go_wp2_with (first | (refine hib.mono ?_; clear hib; rintro e w' ⟨rfl, rfl⟩) | (refine hcd.mono ?_; clear hcd; rintro e w2 ⟨rfl, hm2⟩; have hm2 := hId hm2; have hcd2 := HCD2.out w2; have hpf := HPF.out w2) | (refine hpf.mono ?_; clear hpf; rintro e w' ⟨rfl, rfl⟩) | (refine hcd2.mono ?_; clear hcd2; rintro e w3 ⟨rfl, hm3⟩; have hm3 := hId hm3)))
                    go_ret2
                    exact REsc.none HQ.out (hm2.out.trans hm3.out)
                  · by_cases b2 : 57344 ≤ b
                    · have HQ : Hid (escL (s.data.toList.drop i) = none) := hId (by have h1 := HLO.out; have h2 := HHI.out; rw [HE.out, if_neg (by omega), if_neg (by omega), if_neg (by decide), if_pos (.inr b2)])
                      have e1 : decide (b < 56320) = false := by simp; omega
                      have e2 : decide (57344 ≤ b) = true := by simp; omega
                      clear b1
                      go_enter Tryz.func98, Tryz.ntmps98
                      (go_wp2_with (first | (refine hib.mono ?_; clear hib; rintro e w' ⟨rfl, rfl⟩) | (refine hcd.mono ?_; clear hcd; rintro e w2 ⟨rfl, hm2⟩; have hm2 := hId hm2; have hcd2 := HCD2.out w2; have hpf := HPF.out w2) | (refine hpf.mono ?_; clear hpf; rintro e w' ⟨rfl, rfl⟩) | (refine hcd2.mono ?_; clear hcd2; rintro e w3 ⟨rfl, hm3⟩; have hm3 := hId hm3)))
                      go_ret2
                      exact REsc.none HQ.out (hm2.out.trans hm3.out)
                    · have HQ : Hid (escL (s.data.toList.drop i) = some (65536 + (a - 55296) * 1024 + b - 56320, 11)) := hId (by have h1 := HLO.out; have h2 := HHI.out; rw [HE.out, if_neg (by omega), if_neg (by omega), if_neg (by decide), if_neg (by omega)])
                      have e1 : decide (b < 56320) = false := by simp; omega
                      have e2 : decide (57344 ≤ b) = false := by simp; omega
                      have h1 := HLO.out
                      have h2 := HHI.out
                      have hw : IntKind.i32.wrap (65536 + (a - 55296) * 1024 + b - 56320) = 65536 + (a - 55296) * 1024 + b - 56320 := by
                        simp [IntKind.wrap, IntKind.signed, IntKind.bits]
                        omega
                      go_enter Tryz.func98, Tryz.ntmps98
                      (go_wp2_with (first | (refine hib.mono ?_; clear hib; rintro e w' ⟨rfl, rfl⟩) | (refine hcd.mono ?_; clear hcd; rintro e w2 ⟨rfl, hm2⟩; have hm2 := hId hm2; have hcd2 := HCD2.out w2; have hpf := HPF.out w2) | (refine hpf.mono ?_; clear hpf; rintro e w' ⟨rfl, rfl⟩) | (refine hcd2.mono ?_; clear hcd2; rintro e w3 ⟨rfl, hm3⟩; have hm3 := hId hm3)))
                      go_ret2
                      exact REsc.some HQ.out rfl (hm2.out.trans hm3.out)


theorem escL_rune {l : List UInt8} {x : Int} {k : Nat} (h : escL l = some (x, k)) : 0 ≤ x ∧ x ≤ 1114111 := by
  cases l with
  | nil => cases h
  | cons c r =>
    rw [escL] at h
    split at h
    · injection h with h; injection h with h1 h2
      have := (escV.getD (Lib.indexByte escB c).toNat 0).toNat_lt
      omega
    · split at h
      · cases h
      · split at h
        · cases h
        · have h3 := hexAt_lt r
          split at h
          · injection h with h; injection h with h1 h2
            omega
          · split at h
            · cases h
            · split at h
              · cases h
              · injection h with h; injection h with h1 h2
                omega
theorem runeB_length (x : Int) : (Lib.encodeRune x).length ≤ 4 := by
  unfold Lib.encodeRune Lib.encodeRuneZ
  rw [List.length_map]
  repeat' split
  all_goals simp
/-- the words, where they end, whether they are there; i0: where they begin -/
def RWords (q : Option (List UInt8 × Nat)) (i0 : Nat) (w : World) (e : Ending) (w' : World) : Prop :=
  ∃ x m b, e = .returned (.tuple #[.string x, .int .i64 m, .bool b]) ∧ New w w' ∧ ((q = none ∧ b = false) ∨ ∃ l k, q = some (l, k) ∧ b = true ∧ x = ⟨l.toArray⟩ ∧ m = ((i0 + k : Nat) : Int))
theorem RWords.none {q : Option (List UInt8 × Nat)} {i0 : Nat} {w w' : World} {x : ByteArray} {m : Int} (h : q = none) (hm : New w w') : RWords q i0 w (.returned (.tuple #[.string x, .int .i64 m, .bool false])) w' := ⟨_, _, _, rfl, hm, .inl ⟨h, rfl⟩⟩
theorem RWords.some {q : Option (List UInt8 × Nat)} {i0 : Nat} {w w' : World} {l : List UInt8} {k : Nat} {m : Int} (h : q = some (l, k)) (he : m = ((i0 + k : Nat) : Int)) (hm : New w w') : RWords q i0 w (.returned (.tuple #[.string ⟨l.toArray⟩, .int .i64 m, .bool true])) w' := ⟨_, _, _, rfl, hm, .inr ⟨l, k, h, rfl, rfl, he⟩⟩

set_option maxRecDepth 100000 in
set_option maxHeartbeats 700000 in
theorem val_words (s : ByteArray) (i : Nat) (w : World) (hs : s.size ≤ 300000) (hi : i < s.size) :
    Calls Tryz.prog 64 #[.string s, .int .i64 i] w (RWords (wordsOf (s.data.toList.drop (i + 1))) (i + 1) w) := by
  have hlen : s.data.toList.length = s.size := rfl
  have HLEN := hId hlen
  obtain ⟨Q, hQ⟩ : ∃ Q, wordsOf (s.data.toList.drop (i + 1)) = Q := ⟨_, rfl⟩
  have HQ0 : Hid (Q = wordsL ((s.data.toList.drop (i + 1)).length + 1) [] 0 (s.data.toList.drop (i + 1))) := hId (by rw [← hQ]; rfl)
  have HF0 : Hid ((s.data.toList.drop (i + 1)).length < (s.data.toList.drop (i + 1)).length + 1) := hId (by omega)
  rw [hQ]
  clear hQ hlen
  have hi1 : i + 1 ≤ s.size := by omega
  have HO0 := hId (OwnF.nil w)
  go_enter Tryz.func64, Tryz.ntmps64
  go_wp2_with fail
  go_loopw [7, 8] (fun o j wr => ∃ (k n c f m : Nat) (A : Option Addr) (l : List UInt8), j = .int .i64 k ∧ o = .slice A n c ∧ i + 1 ≤ k ∧ k ≤ s.size ∧ Hid (k = i + 1 + m) ∧ n ≤ 4 * k ∧ Hid ((s.data.toList.drop k).length < f) ∧ Hid (Q = wordsL f l m (s.data.toList.drop k)) ∧ Hid (OwnF w A n c l wr)) (fun _ j _ => s.size - (intOf j).toNat)
  case atStart => exact ⟨i + 1, 0, 0, _, 0, none, [], by go_num, rfl, by omega, by omega, hId (by omega), by omega, HF0, HQ0, HO0⟩
  case round =>
    clear HQ0 HF0 HO0
    rename World => wr
    obtain ⟨k, n, c, f, m, A, l, rfl, rfl, hk1, hk2, HKM, hn, HF, HQ, HO⟩ := hrel
    by_cases hlt : k < s.size
    · have hkl : k < s.data.toList.length := by have := HLEN.out; omega
      have hdrop : s.data.toList.drop k = s.data.toList[k] :: s.data.toList.drop (k + 1) := List.drop_eq_getElem_cons _
      have hgi : s[k]'hlt = s.data.toList[k] := rfl
      obtain ⟨b, hb⟩ : ∃ b, s.data.toList[k] = b := ⟨_, rfl⟩
      rw [hb] at hdrop hgi
      obtain ⟨f', rfl⟩ : ∃ f', f = f' + 1 := ⟨f - 1, by have := HF.out; omega⟩
      have hq := HQ.out
      rw [hdrop, wordsL] at hq
      have HD := hId hdrop
      have HB := hId hb
      have HF1 : Hid ((s.data.toList.drop (k + 1)).length < f') := hId (by
        have h1 := HF.out
        rw [hdrop, List.length_cons] at h1
        omega)
      have hkk : (k : Int) < (s.size : Int) := by omega
      have hk0 : (0 : Int) ≤ k := by omega
      clear hdrop hb HF HQ
      by_cases c34 : b = 34
      · subst c34
        have HE := hId hq
        rw [if_pos rfl] at HE
        have hcv := HO.out.string
        have HN := hId HO.out.news
        clear hq
        go_wp2_with fail
        go_ret3
        exact RWords.some HE.out (by have := HKM.out; omega) HN.out
      · rw [if_neg c34] at hq
        have n34 : ((b.toNat : Int) == 34) = false := by
          simp only [beq_eq_false_iff_ne, ne_eq]
          intro h
          exact c34 (UInt8.toNat_inj.1 (by have : (34 : UInt8).toNat = 34 := rfl; omega))
        by_cases c32 : b.toNat < 32
        · rw [if_pos c32] at hq
          have n32 : (b.toNat : Int) < 32 := by omega
          have HE := hId hq
          have HN := hId HO.out.news
          clear hq c34 c32
          go_wp2_with fail
          go_ret3
          exact RWords.none HE.out HN.out
        · rw [if_neg c32] at hq
          have n32 : ¬ (b.toNat : Int) < 32 := by omega
          by_cases c92 : b = 92
          · subst c92
            rw [if_pos rfl] at hq
            have he := val_escaped s (k + 1) wr (by omega) (by omega)
            rw [show ((k + 1 : Nat) : Int) = (k : Int) + 1 by omega] at he
            have hrn := fun x kk => escL_rune (l := s.data.toList.drop (k + 1)) (x := x) (k := kk)
            have hle := fun x kk => escL_le (l := s.data.toList.drop (k + 1)) (x := x) (k := kk)
            have hps := fun x kk => escL_len (l := s.data.toList.drop (k + 1)) (x := x) (k := kk)
            have HR := hId hrn
            have HL := hId hle
            have HP := hId hps
            generalize escL (s.data.toList.drop (k + 1)) = q at *
            have HQ := hId hq
            clear hq hrn hle hps c34 c32
            go_wp2_with fail
            refine he.mono ?_
            clear he
            rintro e w2 ⟨⟨r, nn, rfl, ⟨rfl, rfl⟩ | ⟨kk, rfl, rfl⟩⟩, hm2⟩
            · have HN : Hid (New w w2) := hId (HO.out.news.trans hm2)
              clear hm2
              go_wp2_with fail
              go_ret3
              exact RWords.none HQ.out HN.out
            · obtain ⟨r0, r1⟩ := HR.out r kk rfl
              have k1 := HL.out r kk rfl
              have k2 := (HP.out r kk rfl).1
              rw [List.length_drop, HLEN.out] at k1
              have hkn : ((kk : Int) == 0) = false := by simp; omega
              have HO2 := hId (HO.out.new hm2)
              have har := appendRune_any HO2.out r r0 (by omega) (by omega)
              have hrl := runeB_length r
              have HQ1 : Hid (Q = wordsL f' (l ++ Lib.encodeRune r) (m + 1 + kk) (s.data.toList.drop (k + (1 + kk)))) := hId (by
                rw [HQ.out]
                simp only
                rw [List.drop_drop, show k + 1 + kk = k + (1 + kk) by omega])
              have HF2 : Hid ((s.data.toList.drop (k + (1 + kk))).length < f') := hId (by have := HF1.out; rw [List.length_drop] at this ⊢; omega)
              have hln := HO.out.1
              clear hm2 HR HL HP HQ
              go_wp2_with fail
              refine har.mono ?_
              clear har
              rintro e w3 ⟨A3, n3, c3, rfl, hO3⟩
              have hl3 := hO3.1
              rw [List.length_append, hln] at hl3
              have HO3 := hId hO3
              clear hO3
              go_wp2_with fail
              go_roundw
              case rel => exact ⟨k + (1 + kk), n3, c3, f', m + 1 + kk, A3, l ++ Lib.encodeRune r, by go_num, rfl, by omega, by omega, hId (by have := HKM.out; omega), by omega, HF2, HQ1, HO3⟩
              case measure => simp [intOf]; omega
          · rw [if_neg c92] at hq
            have n92 : ((b.toNat : Int) == 92) = false := by
              simp only [beq_eq_false_iff_ne, ne_eq]
              intro h
              exact c92 (UInt8.toNat_inj.1 (by have : (92 : UInt8).toNat = 92 := rfl; omega))
            have HQ1 := hId hq
            have ho := HO.out
            clear hq c34 c32 c92
            go_wp2_with (at_builtin; refine wpList_pushF rfl _ _ rfl rfl ho b rfl (by omega) ?_; intro A8 c8 w8 hO8)
            have HO8 := hId hO8
            clear hO8 ho
            go_roundw
            case rel => exact ⟨k + 1, n + 1, c8, f', m + 1, A8, l ++ [b], by go_num, rfl, by omega, by omega, hId (by have := HKM.out; omega), by omega, HF1, HQ1, HO8⟩
            case measure => simp [intOf]; omega
    · have hks : k = s.size := by omega
      have HE : Hid (Q = none) := hId (by
        rw [HQ.out, List.drop_of_length_le (by have := HLEN.out; omega)]
        cases f <;> rfl)
      clear hks
      have HN := hId HO.out.news
      go_wp2_with fail
      go_ret3
      exact RWords.none HE.out HN.out


/-- the words and how many bytes they have with both quotation marks; no bytes: they are wrong -/
def RLoose (q : Option (List UInt8 × Nat)) (w : World) (e : Ending) (w' : World) : Prop :=
  ∃ x m, e = .returned (.tuple #[.string x, .int .i64 m]) ∧ New w w' ∧ ((q = none ∧ m = 0) ∨ ∃ l k, q = some (l, k) ∧ x = ⟨l.toArray⟩ ∧ m = ((k + 1 : Nat) : Int))
theorem RLoose.none {q : Option (List UInt8 × Nat)} {w w' : World} {x : ByteArray} (h : q = none) (hm : New w w') : RLoose q w (.returned (.tuple #[.string x, .int .i64 0])) w' := ⟨_, _, rfl, hm, .inl ⟨h, rfl⟩⟩
theorem RLoose.some {q : Option (List UInt8 × Nat)} {w w' : World} {l : List UInt8} {k : Nat} {m : Int} (h : q = some (l, k)) (he : m = ((k + 1 : Nat) : Int)) (hm : New w w') : RLoose q w (.returned (.tuple #[.string ⟨l.toArray⟩, .int .i64 m])) w' := ⟨_, _, rfl, hm, .inr ⟨l, k, h, rfl, he⟩⟩
theorem esc_nine (d : UInt8) : Lib.indexByte [34, 92, 47, 98, 102, 110, 114, 116, 117] d = if 0 ≤ Lib.indexByte escB d then Lib.indexByte escB d else if d = 117 then 8 else -1 := by
  revert d
  apply byteOf
  decide +kernel
theorem escL_u (r : List UInt8) : escL (117 :: r) = if hexAt r < 0 ∨ (56320 ≤ hexAt r ∧ hexAt r < 57344) then none
    else if hexAt r < 55296 ∨ 57344 ≤ hexAt r then some (hexAt r, 5)
    else if Lib.hasPrefix (r.drop 4) [92, 117] = false then none
    else if hexAt (r.drop 6) < 56320 ∨ 57344 ≤ hexAt (r.drop 6) then none
    else some (65536 + (hexAt r - 55296) * 1024 + hexAt (r.drop 6) - 56320, 11) := by
  rw [escL, if_neg (by decide), if_neg (by decide)]

set_option maxRecDepth 100000 in
set_option maxHeartbeats 700000 in
theorem ref_looseWords (s : ByteArray) (w : World) (hs : s.size ≤ 300000) (hs1 : 1 ≤ s.size) :
    Calls Tryz.prog 81 #[.string s] w (RLoose (wordsOf (s.data.toList.drop 1)) w) := by
  have hlen : s.data.toList.length = s.size := rfl
  have HLEN := hId hlen
  obtain ⟨Q, hQ⟩ : ∃ Q, wordsOf (s.data.toList.drop 1) = Q := ⟨_, rfl⟩
  have HQ0 : Hid (Q = wordsL ((s.data.toList.drop 1).length + 1) [] 0 (s.data.toList.drop 1)) := hId (by rw [← hQ]; rfl)
  have HF0 : Hid ((s.data.toList.drop 1).length < (s.data.toList.drop 1).length + 1) := hId (by omega)
  rw [hQ]
  clear hQ hlen
  have HO0 := hId (OwnF.nil w)
  go_enter Tryz.func81, Tryz.ntmps81
  go_wp2_with fail
  go_loopw [4, 5] (fun o j wr => ∃ (k n c f m : Nat) (A : Option Addr) (l : List UInt8), j = .int .i64 k ∧ o = .slice A n c ∧ 1 ≤ k ∧ k ≤ s.size ∧ Hid (k = 1 + m) ∧ n ≤ 4 * k ∧ Hid ((s.data.toList.drop k).length < f) ∧ Hid (Q = wordsL f l m (s.data.toList.drop k)) ∧ Hid (OwnF w A n c l wr)) (fun _ j _ => s.size - (intOf j).toNat)
  case atStart => exact ⟨1, 0, 0, _, 0, none, [], by go_num, rfl, by omega, by omega, hId rfl, by omega, HF0, HQ0, HO0⟩
  case round =>
    clear HQ0 HF0 HO0
    rename World => wr
    obtain ⟨k, n, c, f, m, A, l, rfl, rfl, hk1, hk2, HKM, hn, HF, HQ, HO⟩ := hrel
    by_cases hlt : k < s.size
    · have hkl : k < s.data.toList.length := by have := HLEN.out; omega
      have hdrop : s.data.toList.drop k = s.data.toList[k] :: s.data.toList.drop (k + 1) := List.drop_eq_getElem_cons _
      have hgi : s[k]'hlt = s.data.toList[k] := rfl
      obtain ⟨b, hb⟩ : ∃ b, s.data.toList[k] = b := ⟨_, rfl⟩
      rw [hb] at hdrop hgi
      obtain ⟨f', rfl⟩ : ∃ f', f = f' + 1 := ⟨f - 1, by have := HF.out; omega⟩
      have hq := HQ.out
      rw [hdrop, wordsL] at hq
      have HF1 : Hid ((s.data.toList.drop (k + 1)).length < f') := hId (by
        have h1 := HF.out
        rw [hdrop, List.length_cons] at h1
        omega)
      have hkk : (k : Int) < (s.size : Int) := by omega
      have hk0 : (0 : Int) ≤ k := by omega
      clear hdrop hb HF HQ
      by_cases c34 : b = 34
      · subst c34
        have HE := hId hq
        rw [if_pos rfl] at HE
        have hcv := HO.out.string
        have HN := hId HO.out.news
        clear hq
        go_wp2_with fail
        go_ret2
        exact RLoose.some HE.out (by have := HKM.out; omega) HN.out
      · rw [if_neg c34] at hq
        have n34 : ((b.toNat : Int) == 34) = false := by
          simp only [beq_eq_false_iff_ne, ne_eq]
          intro h
          exact c34 (UInt8.toNat_inj.1 (by have : (34 : UInt8).toNat = 34 := rfl; omega))
        by_cases c32 : b.toNat < 32
        · rw [if_pos c32] at hq
          have n32 : (b.toNat : Int) < 32 := by omega
          have HE := hId hq
          clear hq c34 c32
          go_wp2_with fail
          have HN := hId HO.out.news
          go_ret2
          exact RLoose.none HE.out HN.out
        · rw [if_neg c32] at hq
          have n32 : ¬ (b.toNat : Int) < 32 := by omega
          by_cases c92 : b = 92
          · subst c92
            rw [if_pos rfl] at hq
            by_cases hend : k + 1 = s.size
            · have hend' : ((k : Int) + 1 == (s.size : Int)) = true := by simp; omega
              have HE : Hid (Q = none) := hId (by
                rw [List.drop_of_length_le (show s.data.toList.length ≤ k + 1 by have := HLEN.out; omega)] at hq
                exact hq)
              clear hq c34 c32 hend
              go_wp2_with fail
              have HN := hId HO.out.news
              go_ret2
              exact RLoose.none HE.out HN.out
            · have hend' : ((k : Int) + 1 == (s.size : Int)) = false := by simp; omega
              have hlt1 : k + 1 < s.size := by omega
              have hkl1 : k + 1 < s.data.toList.length := by have := HLEN.out; omega
              have hdrop : s.data.toList.drop (k + 1) = s.data.toList[k + 1] :: s.data.toList.drop (k + 2) := List.drop_eq_getElem_cons _
              have hgi1 : s[k + 1]'hlt1 = s.data.toList[k + 1] := rfl
              obtain ⟨d, hdb⟩ : ∃ d, s.data.toList[k + 1] = d := ⟨_, rfl⟩
              rw [hdb] at hdrop hgi1
              have HD1 := hId hdrop
              have HQ := hId hq
              have hk1i : (k : Int) + 1 < (s.size : Int) := by omega
              have hk1j : (0 : Int) ≤ (k : Int) + 1 := by omega
              clear hdrop hq c34 c32 hend
              have hnine := esc_nine d
              by_cases he : 0 ≤ Lib.indexByte escB d
              · clear hnine
                rcases esc_byte he with rfl | rfl | rfl | rfl | rfl | rfl | rfl | rfl
                all_goals clear he
                · have hk : Lib.indexByte [34, 92, 47, 98, 102, 110, 114, 116, 117] 34 = 0 := by decide
                  have hib := Tryz.strings_IndexByte ⟨#[34, 92, 47, 98, 102, 110, 114, 116, 117]⟩ ((34 : UInt8).toNat : Int) wr
                  have hcc : (((34 : UInt8).toNat : Int)).toNat.toUInt8 = 34 := rfl
                  rw [hcc] at hib
                  simp only at hib
                  rw [hk] at hib
                  have hck : ((34 : UInt8).toNat : Int) = 34 := rfl
                  rw [hck] at hib
                  have HQ1 : Hid (Q = wordsL f' (l ++ [34]) (m + 1 + 1) (s.data.toList.drop (k + 2))) := hId (by
                    have h := HQ.out
                    rw [HD1.out, escL, if_pos (by decide)] at h
                    simp only at h
                    rw [List.drop_succ_cons, List.drop_zero] at h
                    exact h)
                  have HF2 : Hid ((s.data.toList.drop (k + 2)).length < f') := hId (by have := HF1.out; rw [List.length_drop] at this ⊢; omega)
                  have ho := HO.out
                  clear hk hcc hck hdb
                  go_wp2_with (first | (refine hib.mono ?_; clear hib; rintro e w' ⟨rfl, rfl⟩) | (at_builtin; refine wpList_pushF rfl _ _ rfl rfl ho _ rfl (by omega) ?_; intro A8 c8 w8 hO8))
                  have HO8 := hId hO8
                  clear hO8 ho
                  go_roundw
                  case rel => exact ⟨k + 2, n + 1, c8, f', m + 1 + 1, A8, l ++ [34], by go_num, rfl, by omega, by omega, hId (by have := HKM.out; omega), by omega, HF2, HQ1, HO8⟩
                  case measure => simp [intOf]; omega
                · have hk : Lib.indexByte [34, 92, 47, 98, 102, 110, 114, 116, 117] 92 = 1 := by decide
                  have hib := Tryz.strings_IndexByte ⟨#[34, 92, 47, 98, 102, 110, 114, 116, 117]⟩ ((92 : UInt8).toNat : Int) wr
                  have hcc : (((92 : UInt8).toNat : Int)).toNat.toUInt8 = 92 := rfl
                  rw [hcc] at hib
                  simp only at hib
                  rw [hk] at hib
                  have hck : ((92 : UInt8).toNat : Int) = 92 := rfl
                  rw [hck] at hib
                  have HQ1 : Hid (Q = wordsL f' (l ++ [92]) (m + 1 + 1) (s.data.toList.drop (k + 2))) := hId (by
                    have h := HQ.out
                    rw [HD1.out, escL, if_pos (by decide)] at h
                    simp only at h
                    rw [List.drop_succ_cons, List.drop_zero] at h
                    exact h)
                  have HF2 : Hid ((s.data.toList.drop (k + 2)).length < f') := hId (by have := HF1.out; rw [List.length_drop] at this ⊢; omega)
                  have ho := HO.out
                  clear hk hcc hck hdb
                  go_wp2_with (first | (refine hib.mono ?_; clear hib; rintro e w' ⟨rfl, rfl⟩) | (at_builtin; refine wpList_pushF rfl _ _ rfl rfl ho _ rfl (by omega) ?_; intro A8 c8 w8 hO8))
                  have HO8 := hId hO8
                  clear hO8 ho
                  go_roundw
                  case rel => exact ⟨k + 2, n + 1, c8, f', m + 1 + 1, A8, l ++ [92], by go_num, rfl, by omega, by omega, hId (by have := HKM.out; omega), by omega, HF2, HQ1, HO8⟩
                  case measure => simp [intOf]; omega
                · have hk : Lib.indexByte [34, 92, 47, 98, 102, 110, 114, 116, 117] 47 = 2 := by decide
                  have hib := Tryz.strings_IndexByte ⟨#[34, 92, 47, 98, 102, 110, 114, 116, 117]⟩ ((47 : UInt8).toNat : Int) wr
                  have hcc : (((47 : UInt8).toNat : Int)).toNat.toUInt8 = 47 := rfl
                  rw [hcc] at hib
                  simp only at hib
                  rw [hk] at hib
                  have hck : ((47 : UInt8).toNat : Int) = 47 := rfl
                  rw [hck] at hib
                  have HQ1 : Hid (Q = wordsL f' (l ++ [47]) (m + 1 + 1) (s.data.toList.drop (k + 2))) := hId (by
                    have h := HQ.out
                    rw [HD1.out, escL, if_pos (by decide)] at h
                    simp only at h
                    rw [List.drop_succ_cons, List.drop_zero] at h
                    exact h)
                  have HF2 : Hid ((s.data.toList.drop (k + 2)).length < f') := hId (by have := HF1.out; rw [List.length_drop] at this ⊢; omega)
                  have ho := HO.out
                  clear hk hcc hck hdb
                  go_wp2_with (first | (refine hib.mono ?_; clear hib; rintro e w' ⟨rfl, rfl⟩) | (at_builtin; refine wpList_pushF rfl _ _ rfl rfl ho _ rfl (by omega) ?_; intro A8 c8 w8 hO8))
                  have HO8 := hId hO8
                  clear hO8 ho
                  go_roundw
                  case rel => exact ⟨k + 2, n + 1, c8, f', m + 1 + 1, A8, l ++ [47], by go_num, rfl, by omega, by omega, hId (by have := HKM.out; omega), by omega, HF2, HQ1, HO8⟩
                  case measure => simp [intOf]; omega
                · have hk : Lib.indexByte [34, 92, 47, 98, 102, 110, 114, 116, 117] 98 = 3 := by decide
                  have hib := Tryz.strings_IndexByte ⟨#[34, 92, 47, 98, 102, 110, 114, 116, 117]⟩ ((98 : UInt8).toNat : Int) wr
                  have hcc : (((98 : UInt8).toNat : Int)).toNat.toUInt8 = 98 := rfl
                  rw [hcc] at hib
                  simp only at hib
                  rw [hk] at hib
                  have hck : ((98 : UInt8).toNat : Int) = 98 := rfl
                  rw [hck] at hib
                  have HQ1 : Hid (Q = wordsL f' (l ++ [8]) (m + 1 + 1) (s.data.toList.drop (k + 2))) := hId (by
                    have h := HQ.out
                    rw [HD1.out, escL, if_pos (by decide)] at h
                    simp only at h
                    rw [List.drop_succ_cons, List.drop_zero] at h
                    exact h)
                  have HF2 : Hid ((s.data.toList.drop (k + 2)).length < f') := hId (by have := HF1.out; rw [List.length_drop] at this ⊢; omega)
                  have ho := HO.out
                  clear hk hcc hck hdb
                  go_wp2_with (first | (refine hib.mono ?_; clear hib; rintro e w' ⟨rfl, rfl⟩) | (at_builtin; refine wpList_pushF rfl _ _ rfl rfl ho _ rfl (by omega) ?_; intro A8 c8 w8 hO8))
                  have HO8 := hId hO8
                  clear hO8 ho
                  go_roundw
                  case rel => exact ⟨k + 2, n + 1, c8, f', m + 1 + 1, A8, l ++ [8], by go_num, rfl, by omega, by omega, hId (by have := HKM.out; omega), by omega, HF2, HQ1, HO8⟩
                  case measure => simp [intOf]; omega
                · have hk : Lib.indexByte [34, 92, 47, 98, 102, 110, 114, 116, 117] 102 = 4 := by decide
                  have hib := Tryz.strings_IndexByte ⟨#[34, 92, 47, 98, 102, 110, 114, 116, 117]⟩ ((102 : UInt8).toNat : Int) wr
                  have hcc : (((102 : UInt8).toNat : Int)).toNat.toUInt8 = 102 := rfl
                  rw [hcc] at hib
                  simp only at hib
                  rw [hk] at hib
                  have hck : ((102 : UInt8).toNat : Int) = 102 := rfl
                  rw [hck] at hib
                  have HQ1 : Hid (Q = wordsL f' (l ++ [12]) (m + 1 + 1) (s.data.toList.drop (k + 2))) := hId (by
                    have h := HQ.out
                    rw [HD1.out, escL, if_pos (by decide)] at h
                    simp only at h
                    rw [List.drop_succ_cons, List.drop_zero] at h
                    exact h)
                  have HF2 : Hid ((s.data.toList.drop (k + 2)).length < f') := hId (by have := HF1.out; rw [List.length_drop] at this ⊢; omega)
                  have ho := HO.out
                  clear hk hcc hck hdb
                  go_wp2_with (first | (refine hib.mono ?_; clear hib; rintro e w' ⟨rfl, rfl⟩) | (at_builtin; refine wpList_pushF rfl _ _ rfl rfl ho _ rfl (by omega) ?_; intro A8 c8 w8 hO8))
                  have HO8 := hId hO8
                  clear hO8 ho
                  go_roundw
                  case rel => exact ⟨k + 2, n + 1, c8, f', m + 1 + 1, A8, l ++ [12], by go_num, rfl, by omega, by omega, hId (by have := HKM.out; omega), by omega, HF2, HQ1, HO8⟩
                  case measure => simp [intOf]; omega
                · have hk : Lib.indexByte [34, 92, 47, 98, 102, 110, 114, 116, 117] 110 = 5 := by decide
                  have hib := Tryz.strings_IndexByte ⟨#[34, 92, 47, 98, 102, 110, 114, 116, 117]⟩ ((110 : UInt8).toNat : Int) wr
                  have hcc : (((110 : UInt8).toNat : Int)).toNat.toUInt8 = 110 := rfl
                  rw [hcc] at hib
                  simp only at hib
                  rw [hk] at hib
                  have hck : ((110 : UInt8).toNat : Int) = 110 := rfl
                  rw [hck] at hib
                  have HQ1 : Hid (Q = wordsL f' (l ++ [10]) (m + 1 + 1) (s.data.toList.drop (k + 2))) := hId (by
                    have h := HQ.out
                    rw [HD1.out, escL, if_pos (by decide)] at h
                    simp only at h
                    rw [List.drop_succ_cons, List.drop_zero] at h
                    exact h)
                  have HF2 : Hid ((s.data.toList.drop (k + 2)).length < f') := hId (by have := HF1.out; rw [List.length_drop] at this ⊢; omega)
                  have ho := HO.out
                  clear hk hcc hck hdb
                  go_wp2_with (first | (refine hib.mono ?_; clear hib; rintro e w' ⟨rfl, rfl⟩) | (at_builtin; refine wpList_pushF rfl _ _ rfl rfl ho _ rfl (by omega) ?_; intro A8 c8 w8 hO8))
                  have HO8 := hId hO8
                  clear hO8 ho
                  go_roundw
                  case rel => exact ⟨k + 2, n + 1, c8, f', m + 1 + 1, A8, l ++ [10], by go_num, rfl, by omega, by omega, hId (by have := HKM.out; omega), by omega, HF2, HQ1, HO8⟩
                  case measure => simp [intOf]; omega
                · have hk : Lib.indexByte [34, 92, 47, 98, 102, 110, 114, 116, 117] 114 = 6 := by decide
                  have hib := Tryz.strings_IndexByte ⟨#[34, 92, 47, 98, 102, 110, 114, 116, 117]⟩ ((114 : UInt8).toNat : Int) wr
                  have hcc : (((114 : UInt8).toNat : Int)).toNat.toUInt8 = 114 := rfl
                  rw [hcc] at hib
                  simp only at hib
                  rw [hk] at hib
                  have hck : ((114 : UInt8).toNat : Int) = 114 := rfl
                  rw [hck] at hib
                  have HQ1 : Hid (Q = wordsL f' (l ++ [13]) (m + 1 + 1) (s.data.toList.drop (k + 2))) := hId (by
                    have h := HQ.out
                    rw [HD1.out, escL, if_pos (by decide)] at h
                    simp only at h
                    rw [List.drop_succ_cons, List.drop_zero] at h
                    exact h)
                  have HF2 : Hid ((s.data.toList.drop (k + 2)).length < f') := hId (by have := HF1.out; rw [List.length_drop] at this ⊢; omega)
                  have ho := HO.out
                  clear hk hcc hck hdb
                  go_wp2_with (first | (refine hib.mono ?_; clear hib; rintro e w' ⟨rfl, rfl⟩) | (at_builtin; refine wpList_pushF rfl _ _ rfl rfl ho _ rfl (by omega) ?_; intro A8 c8 w8 hO8))
                  have HO8 := hId hO8
                  clear hO8 ho
                  go_roundw
                  case rel => exact ⟨k + 2, n + 1, c8, f', m + 1 + 1, A8, l ++ [13], by go_num, rfl, by omega, by omega, hId (by have := HKM.out; omega), by omega, HF2, HQ1, HO8⟩
                  case measure => simp [intOf]; omega
                · have hk : Lib.indexByte [34, 92, 47, 98, 102, 110, 114, 116, 117] 116 = 7 := by decide
                  have hib := Tryz.strings_IndexByte ⟨#[34, 92, 47, 98, 102, 110, 114, 116, 117]⟩ ((116 : UInt8).toNat : Int) wr
                  have hcc : (((116 : UInt8).toNat : Int)).toNat.toUInt8 = 116 := rfl
                  rw [hcc] at hib
                  simp only at hib
                  rw [hk] at hib
                  have hck : ((116 : UInt8).toNat : Int) = 116 := rfl
                  rw [hck] at hib
                  have HQ1 : Hid (Q = wordsL f' (l ++ [9]) (m + 1 + 1) (s.data.toList.drop (k + 2))) := hId (by
                    have h := HQ.out
                    rw [HD1.out, escL, if_pos (by decide)] at h
                    simp only at h
                    rw [List.drop_succ_cons, List.drop_zero] at h
                    exact h)
                  have HF2 : Hid ((s.data.toList.drop (k + 2)).length < f') := hId (by have := HF1.out; rw [List.length_drop] at this ⊢; omega)
                  have ho := HO.out
                  clear hk hcc hck hdb
                  go_wp2_with (first | (refine hib.mono ?_; clear hib; rintro e w' ⟨rfl, rfl⟩) | (at_builtin; refine wpList_pushF rfl _ _ rfl rfl ho _ rfl (by omega) ?_; intro A8 c8 w8 hO8))
                  have HO8 := hId hO8
                  clear hO8 ho
                  go_roundw
                  case rel => exact ⟨k + 2, n + 1, c8, f', m + 1 + 1, A8, l ++ [9], by go_num, rfl, by omega, by omega, hId (by have := HKM.out; omega), by omega, HF2, HQ1, HO8⟩
                  case measure => simp [intOf]; omega
              · rw [if_neg he] at hnine
                have hib := Tryz.strings_IndexByte ⟨#[34, 92, 47, 98, 102, 110, 114, 116, 117]⟩ (d.toNat : Int) wr
                have hcc : (d.toNat : Int).toNat.toUInt8 = d := by simp
                rw [hcc] at hib
                simp only at hib
                rw [hnine] at hib
                by_cases h117 : d = 117
                rotate_left
                · rw [if_neg h117] at hib
                  have HE : Hid (Q = none) := hId (by
                    have h := HQ.out
                    rw [HD1.out, escL, if_neg he, if_pos h117] at h
                    exact h)
                  clear hnine hcc hdb he h117
                  go_wp2_with (first | (refine hib.mono ?_; clear hib; rintro e w' ⟨rfl, rfl⟩))
                  have HN := hId HO.out.news
                  go_ret2
                  exact RLoose.none HE.out HN.out
                · subst h117
                  rw [if_pos rfl] at hib
                  have hck : ((117 : UInt8).toNat : Int) = 117 := rfl
                  rw [hck] at hib
                  have hq := HQ.out
                  rw [HD1.out, escL_u, List.drop_drop, List.drop_drop] at hq
                  have hge := fun h => hexAt_ge (l := s.data.toList.drop (k + 2)) h
                  rw [List.length_drop, HLEN.out] at hge
                  have hge2 := fun h => hexAt_ge (l := s.data.toList.drop (k + 2 + 6)) h
                  rw [List.length_drop, HLEN.out] at hge2
                  have hd6 : (s.extract (k + 6) s.size).data.toList = s.data.toList.drop (k + 6) := by rw [extract_data, List.take_of_length_le]; rw [List.length_drop]; exact Nat.le_refl _
                  have hcd := ref_hexI s (k + 2) wr (by omega) (by omega)
                  have hpf := fun W => Tryz.strings_HasPrefix (s.extract (k + 6) s.size) ⟨#[92, 117]⟩ W
                  have hcd2 := fun W => ref_hexI s (k + 8) W (by omega) (by omega)
                  rw [show ((k + 2 : Nat) : Int) = (k : Int) + 2 by omega] at hcd
                  rw [show ((k + 8 : Nat) : Int) = (k : Int) + 8 by omega] at hcd2
                  rw [hd6] at hpf
                  simp only at hpf
                  rw [show k + 2 + 4 = k + 6 by omega, show k + 2 + 6 = k + 8 by omega] at hq
                  rw [show k + 2 + 6 = k + 8 by omega] at hge2
                  have ha := hexAt_lt (s.data.toList.drop (k + 2))
                  have hb' := hexAt_lt (s.data.toList.drop (k + 8))
                  generalize hexAt (s.data.toList.drop (k + 2)) = a at *
                  generalize hexAt (s.data.toList.drop (k + 8)) = b at *
                  generalize Lib.hasPrefix (s.data.toList.drop (k + 6)) [92, 117] = p at *
                  have HQ9 := hId hq
                  have HCD2 := hId hcd2
                  have HPF := hId hpf
                  clear hq hd6 hcc hdb hnine he hck hcd2 hpf HQ
                  by_cases a1 : a < 0
                  · have d1 : decide (a < 0) = true := by simp; omega
                    have HE : Hid (Q = none) := hId (by rw [HQ9.out, if_pos (.inl a1)])
                    have HIN1 : Hid (∀ W : World, True) := hId (fun _ => trivial)
                    have HIN2 : Hid (∀ W : World, True) := hId (fun _ => trivial)
                    (go_wp2_with (first | (refine hib.mono ?_; clear hib; rintro e w' ⟨rfl, rfl⟩) | (refine hcd.mono ?_; clear hcd; rintro e w2 ⟨rfl, hm2⟩; have HO2 := hId (HO.out.new hm2); clear hm2; have hin1 := HIN1.out w2; have hpf := HPF.out w2; have hcd2 := HCD2.out w2) | (refine hin1.mono ?_; clear hin1; rintro e w9 ⟨rfl, hww⟩; subst w9) | (refine hpf.mono ?_; clear hpf; rintro e w9 ⟨rfl, hww⟩; subst w9; have hin2 := HIN2.out w2) | (refine hcd2.mono ?_; clear hcd2; rintro e w3 ⟨rfl, hm3⟩; have HO3 := hId (HO2.out.new hm3); clear hm3; have hin2 := HIN2.out w3) | (refine hin2.mono ?_; clear hin2; rintro e w9 ⟨rfl, hww⟩; subst w9)))
                    have HN := hId HO2.out.news
                    go_ret2
                    exact RLoose.none HE.out HN.out
                  · have a0 : 0 ≤ a := by omega
                    have d1 : decide (a < 0) = false := by simp; omega
                    have hg := hge a0
                    have hw : IntKind.i32.wrap a = a := by
                      simp [IntKind.wrap, IntKind.signed, IntKind.bits]
                      omega
                    by_cases a2 : 55296 ≤ a ∧ a ≤ 57343
                    rotate_left
                    · have HIN1 : Hid (∀ W, Calls Tryz.prog 117 #[.int .i64 a, .int .i64 55296, .int .i64 57343] W fun e w' => e = .returned (.bool false) ∧ W = w') := hId (fun W => by
                        have h := ref1_in a 55296 57343 W
                        rw [show (decide (55296 ≤ a) && decide (a ≤ 57343)) = false by simp; omega] at h
                        exact h)
                      have HIN2 : Hid (∀ W : World, True) := hId (fun _ => trivial)
                      have HQ1 : Hid (Q = wordsL f' (l ++ Lib.encodeRune a) (m + 1 + 5) (s.data.toList.drop (k + (1 + 5)))) := hId (by
                        have h := HQ9.out
                        rw [if_neg (by omega), if_pos (by omega)] at h
                        simp only at h
                        rw [h]
                        rw [← HD1.out, List.drop_drop, show k + 1 + 5 = k + (1 + 5) by omega])
                      clear a1 a2
                      (go_wp2_with (first | (refine hib.mono ?_; clear hib; rintro e w' ⟨rfl, rfl⟩) | (refine hcd.mono ?_; clear hcd; rintro e w2 ⟨rfl, hm2⟩; have HO2 := hId (HO.out.new hm2); clear hm2; have hin1 := HIN1.out w2; have hpf := HPF.out w2; have hcd2 := HCD2.out w2) | (refine hin1.mono ?_; clear hin1; rintro e w9 ⟨rfl, hww⟩; subst w9) | (refine hpf.mono ?_; clear hpf; rintro e w9 ⟨rfl, hww⟩; subst w9; have hin2 := HIN2.out w2) | (refine hcd2.mono ?_; clear hcd2; rintro e w3 ⟨rfl, hm3⟩; have HO3 := hId (HO2.out.new hm3); clear hm3; have hin2 := HIN2.out w3) | (refine hin2.mono ?_; clear hin2; rintro e w9 ⟨rfl, hww⟩; subst w9)))
                      have har := appendRune_any HO2.out (a) (by omega) (by omega) (by omega)
                      have hrl := runeB_length (a)
                      have hln := HO.out.1
                      have HF2 : Hid ((s.data.toList.drop (k + (1 + 5))).length < f') := hId (by have := HF1.out; rw [List.length_drop] at this ⊢; omega)
                      go_wp2_with fail
                      refine har.mono ?_
                      clear har
                      rintro e w9 ⟨A3, n3, c3, rfl, hO3⟩
                      have hl3 := hO3.1
                      rw [List.length_append, hln] at hl3
                      have HO9 := hId hO3
                      clear hO3
                      go_wp2_with fail
                      go_roundw
                      case rel => exact ⟨k + (1 + 5), n3, c3, f', m + 1 + 5, A3, l ++ Lib.encodeRune (a), by go_num, rfl, by omega, by omega, hId (by have := HKM.out; omega), by omega, HF2, HQ1, HO9⟩
                      case measure => simp [intOf]; omega
                    · obtain ⟨a3, a4⟩ := a2
                      have HIN1 : Hid (∀ W, Calls Tryz.prog 117 #[.int .i64 a, .int .i64 55296, .int .i64 57343] W fun e w' => e = .returned (.bool true) ∧ W = w') := hId (fun W => by
                        have h := ref1_in a 55296 57343 W
                        rw [show (decide (55296 ≤ a) && decide (a ≤ 57343)) = true by simp; omega] at h
                        exact h)
                      have h6 : (k : Int) + 6 ≤ (s.size : Int) := by omega
                      have h60 : (0 : Int) ≤ (k : Int) + 6 := by omega
                      by_cases a5 : 56319 < a
                      · have d5 : decide (56319 < a) = true := by simp; omega
                        have HE : Hid (Q = none) := hId (by rw [HQ9.out, if_pos (.inr ⟨by omega, by omega⟩)])
                        have HIN2 : Hid (∀ W : World, True) := hId (fun _ => trivial)
                        cases p
                        · (go_wp2_with (first | (refine hib.mono ?_; clear hib; rintro e w' ⟨rfl, rfl⟩) | (refine hcd.mono ?_; clear hcd; rintro e w2 ⟨rfl, hm2⟩; have HO2 := hId (HO.out.new hm2); clear hm2; have hin1 := HIN1.out w2; have hpf := HPF.out w2; have hcd2 := HCD2.out w2) | (refine hin1.mono ?_; clear hin1; rintro e w9 ⟨rfl, hww⟩; subst w9) | (refine hpf.mono ?_; clear hpf; rintro e w9 ⟨rfl, hww⟩; subst w9; have hin2 := HIN2.out w2) | (refine hcd2.mono ?_; clear hcd2; rintro e w3 ⟨rfl, hm3⟩; have HO3 := hId (HO2.out.new hm3); clear hm3; have hin2 := HIN2.out w3) | (refine hin2.mono ?_; clear hin2; rintro e w9 ⟨rfl, hww⟩; subst w9)))
                          have HN := hId HO2.out.news
                          go_ret2
                          exact RLoose.none HE.out HN.out
                        · (go_wp2_with (first | (refine hib.mono ?_; clear hib; rintro e w' ⟨rfl, rfl⟩) | (refine hcd.mono ?_; clear hcd; rintro e w2 ⟨rfl, hm2⟩; have HO2 := hId (HO.out.new hm2); clear hm2; have hin1 := HIN1.out w2; have hpf := HPF.out w2; have hcd2 := HCD2.out w2) | (refine hin1.mono ?_; clear hin1; rintro e w9 ⟨rfl, hww⟩; subst w9) | (refine hpf.mono ?_; clear hpf; rintro e w9 ⟨rfl, hww⟩; subst w9; have hin2 := HIN2.out w2) | (refine hcd2.mono ?_; clear hcd2; rintro e w3 ⟨rfl, hm3⟩; have HO3 := hId (HO2.out.new hm3); clear hm3; have hin2 := HIN2.out w3) | (refine hin2.mono ?_; clear hin2; rintro e w9 ⟨rfl, hww⟩; subst w9)))
                          have HN := hId HO3.out.news
                          go_ret2
                          exact RLoose.none HE.out HN.out
                      · have d5 : decide (56319 < a) = false := by simp; omega
                        cases p
                        · have HE : Hid (Q = none) := hId (by rw [HQ9.out, if_neg (by omega), if_neg (by omega), if_pos rfl])
                          have HIN2 : Hid (∀ W, Calls Tryz.prog 117 #[.int .i64 (-1), .int .i64 56320, .int .i64 57343] W fun e w' => e = .returned (.bool false) ∧ W = w') := hId (fun W => ref1_in (-1) 56320 57343 W)
                          (go_wp2_with (first | (refine hib.mono ?_; clear hib; rintro e w' ⟨rfl, rfl⟩) | (refine hcd.mono ?_; clear hcd; rintro e w2 ⟨rfl, hm2⟩; have HO2 := hId (HO.out.new hm2); clear hm2; have hin1 := HIN1.out w2; have hpf := HPF.out w2; have hcd2 := HCD2.out w2) | (refine hin1.mono ?_; clear hin1; rintro e w9 ⟨rfl, hww⟩; subst w9) | (refine hpf.mono ?_; clear hpf; rintro e w9 ⟨rfl, hww⟩; subst w9; have hin2 := HIN2.out w2) | (refine hcd2.mono ?_; clear hcd2; rintro e w3 ⟨rfl, hm3⟩; have HO3 := hId (HO2.out.new hm3); clear hm3; have hin2 := HIN2.out w3) | (refine hin2.mono ?_; clear hin2; rintro e w9 ⟨rfl, hww⟩; subst w9)))
                          have HN := hId HO2.out.news
                          go_ret2
                          exact RLoose.none HE.out HN.out
                        · by_cases b1 : 56320 ≤ b ∧ b ≤ 57343
                          rotate_left
                          · have HE : Hid (Q = none) := hId (by rw [HQ9.out, if_neg (by omega), if_neg (by omega), if_neg (by decide), if_pos (by omega)])
                            have HIN2 : Hid (∀ W, Calls Tryz.prog 117 #[.int .i64 b, .int .i64 56320, .int .i64 57343] W fun e w' => e = .returned (.bool false) ∧ W = w') := hId (fun W => by
                              have h := ref1_in b 56320 57343 W
                              rw [show (decide (56320 ≤ b) && decide (b ≤ 57343)) = false by simp; omega] at h
                              exact h)
                            clear b1
                            (go_wp2_with (first | (refine hib.mono ?_; clear hib; rintro e w' ⟨rfl, rfl⟩) | (refine hcd.mono ?_; clear hcd; rintro e w2 ⟨rfl, hm2⟩; have HO2 := hId (HO.out.new hm2); clear hm2; have hin1 := HIN1.out w2; have hpf := HPF.out w2; have hcd2 := HCD2.out w2) | (refine hin1.mono ?_; clear hin1; rintro e w9 ⟨rfl, hww⟩; subst w9) | (refine hpf.mono ?_; clear hpf; rintro e w9 ⟨rfl, hww⟩; subst w9; have hin2 := HIN2.out w2) | (refine hcd2.mono ?_; clear hcd2; rintro e w3 ⟨rfl, hm3⟩; have HO3 := hId (HO2.out.new hm3); clear hm3; have hin2 := HIN2.out w3) | (refine hin2.mono ?_; clear hin2; rintro e w9 ⟨rfl, hww⟩; subst w9)))
                            have HN := hId HO3.out.news
                            go_ret2
                            exact RLoose.none HE.out HN.out
                          · obtain ⟨b2, b3⟩ := b1
                            have HIN2 : Hid (∀ W, Calls Tryz.prog 117 #[.int .i64 b, .int .i64 56320, .int .i64 57343] W fun e w' => e = .returned (.bool true) ∧ W = w') := hId (fun W => by
                              have h := ref1_in b 56320 57343 W
                              rw [show (decide (56320 ≤ b) && decide (b ≤ 57343)) = true by simp; omega] at h
                              exact h)
                            have hg2 := hge2 (by omega)
                            have HQ1 : Hid (Q = wordsL f' (l ++ Lib.encodeRune (65536 + (a - 55296) * 1024 + b - 56320)) (m + 1 + 11) (s.data.toList.drop (k + (1 + 11)))) := hId (by
                              have h := HQ9.out
                              rw [if_neg (by omega), if_neg (by omega), if_neg (by decide), if_neg (by omega)] at h
                              simp only at h
                              rw [h]
                              rw [← HD1.out, List.drop_drop, show k + 1 + 11 = k + (1 + 11) by omega])
                            have hw2 : IntKind.i32.wrap (65536 + (a - 55296) * 1024 + b - 56320) = 65536 + (a - 55296) * 1024 + b - 56320 := by
                              simp [IntKind.wrap, IntKind.signed, IntKind.bits]
                              omega
                            clear hw
                            (go_wp2_with (first | (refine hib.mono ?_; clear hib; rintro e w' ⟨rfl, rfl⟩) | (refine hcd.mono ?_; clear hcd; rintro e w2 ⟨rfl, hm2⟩; have HO2 := hId (HO.out.new hm2); clear hm2; have hin1 := HIN1.out w2; have hpf := HPF.out w2; have hcd2 := HCD2.out w2) | (refine hin1.mono ?_; clear hin1; rintro e w9 ⟨rfl, hww⟩; subst w9) | (refine hpf.mono ?_; clear hpf; rintro e w9 ⟨rfl, hww⟩; subst w9; have hin2 := HIN2.out w2) | (refine hcd2.mono ?_; clear hcd2; rintro e w3 ⟨rfl, hm3⟩; have HO3 := hId (HO2.out.new hm3); clear hm3; have hin2 := HIN2.out w3) | (refine hin2.mono ?_; clear hin2; rintro e w9 ⟨rfl, hww⟩; subst w9)))
                            have har := appendRune_any HO3.out (65536 + (a - 55296) * 1024 + b - 56320) (by omega) (by omega) (by omega)
                            have hrl := runeB_length (65536 + (a - 55296) * 1024 + b - 56320)
                            have hln := HO.out.1
                            have HF2 : Hid ((s.data.toList.drop (k + (1 + 11))).length < f') := hId (by have := HF1.out; rw [List.length_drop] at this ⊢; omega)
                            go_wp2_with fail
                            refine har.mono ?_
                            clear har
                            rintro e w9 ⟨A3, n3, c3, rfl, hO3⟩
                            have hl3 := hO3.1
                            rw [List.length_append, hln] at hl3
                            have HO9 := hId hO3
                            clear hO3
                            go_wp2_with fail
                            go_roundw
                            case rel => exact ⟨k + (1 + 11), n3, c3, f', m + 1 + 11, A3, l ++ Lib.encodeRune (65536 + (a - 55296) * 1024 + b - 56320), by go_num, rfl, by omega, by omega, hId (by have := HKM.out; omega), by omega, HF2, HQ1, HO9⟩
                            case measure => simp [intOf]; omega
          · rw [if_neg c92] at hq
            have n92 : ((b.toNat : Int) != 92) = true := by
              simp only [bne_iff_ne, ne_eq]
              intro h
              exact c92 (UInt8.toNat_inj.1 (by have : (92 : UInt8).toNat = 92 := rfl; omega))
            have HQ1 := hId hq
            have ho := HO.out
            clear hq c34 c32 c92
            go_wp2_with (at_builtin; refine wpList_pushF rfl _ _ rfl rfl ho b rfl (by omega) ?_; intro A8 c8 w8 hO8)
            have HO8 := hId hO8
            clear hO8 ho
            go_roundw
            case rel => exact ⟨k + 1, n + 1, c8, f', m + 1, A8, l ++ [b], by go_num, rfl, by omega, by omega, hId (by have := HKM.out; omega), by omega, HF1, HQ1, HO8⟩
            case measure => simp [intOf]; omega
    · have hks : k = s.size := by omega
      have HE : Hid (Q = none) := hId (by
        rw [HQ.out, List.drop_of_length_le (by have := HLEN.out; omega)]
        cases f <;> rfl)
      clear hks
      go_wp2_with fail
      have HN := hId HO.out.news
      go_ret2
      exact RLoose.none HE.out HN.out

end Go.Proofs.YtjmnkdkdjnmejaaGreatDoor
