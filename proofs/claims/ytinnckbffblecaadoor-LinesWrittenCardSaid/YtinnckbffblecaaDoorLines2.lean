/- limit.Lines. Conditions: limits that can be read, of modest size; strconv's table. -/
import Derived.Test.YtinnckbffblecaaDoorLines1
import Derived.Test.YtinnckbffblecaaDoorHeld3
namespace Go.Proofs.YtinnckbffblecaaDoor
open Go.RowKit
set_option linter.unusedVariables false
set_option linter.unusedSimpArgs false


theorem lims_self {ls : List Lim} (h : limsFault ls = 0) (k : Nat) (hk : k < ls.length) : limSelf ls[k] = 0 := by
  unfold limsFault at h
  split at h
  · cases h
  · have hall : ∀ n, firstFault (limAt ls) n = 0 → ∀ k, k < n → limAt ls k = 0 := by
      intro n
      induction n with
      | zero => intro _ k hk; omega
      | succ n ih =>
        intro h k hk
        unfold firstFault at h
        split at h
        · rename_i h0
          by_cases e : k = n
          · subst e; exact h
          · exact ih h0 k (by omega)
        · rename_i h0; exact absurd h h0
    have h1 := hall _ h k hk
    unfold limAt at h1
    rw [List.getElem?_eq_getElem hk] at h1
    simp only at h1
    split at h1
    · cases h1
    · split at h1
      · cases h1
      · exact h1

abbrev xlim : ByteArray := ⟨#[120, 45, 108, 105, 109, 105, 116, 45]⟩
def hdVal (l : Lim) : ByteArray := if l.per = 0 then (kindWord l.kind ++ ⟨#[32]⟩) ++ itoaB l.most else ((kindWord l.kind ++ ⟨#[32]⟩) ++ itoaB l.most) ++ (⟨#[47]⟩ ++ itoaB l.per)
def hdOf (l : Lim) : HdD := ⟨xlim ++ l.key, hdVal l⟩
def waitS (n : Int) : ByteArray := if n = -1 then ⟨#[110, 101, 118, 101, 114]⟩ else itoaB (upDiv n 1000)
def tailH (v : VerdictD) : List HdD := if v.ok then [] else [⟨⟨#[114, 101, 116, 114, 121, 45, 97, 102, 116, 101, 114]⟩, waitS v.wait⟩, ⟨⟨#[120, 45, 108, 105, 109, 105, 116, 101, 100, 45, 98, 121]⟩, v.by_⟩]
def linesL (ls : List Lim) (v : VerdictD) : List HdD := ls.map hdOf ++ tailH v
def inW (n : Int) : Bool := decide (-1 ≤ n) && decide (n ≤ 345686400000)
def linesE (ls : List Lim) (v : VerdictD) : Int :=
  if v.ok && (v.by_.toList != [] || v.wait != 0) then 3 else if !v.ok && !hasL ls v then 8 else if !inW v.wait then 1 else 0
def linesF (ls : List Lim) (v : VerdictD) : Int := if limsFault ls ≠ 0 then limsFault ls else linesE ls v

abbrev HdOwn (w : World) (B : Nat) (A : Option Addr) (n c : Nat) (xs : List HdD) : Prop := Own w B 41 2 HdD.enc A n c xs
def RLines (w : World) (ls : List Lim) (v : VerdictD) (e : Ending) (w' : World) : Prop :=
  ((linesF ls v ≠ 0 ∧ e = .returned (.tuple #[.slice none 0 0, .int .i64 (linesF ls v)])) ∨ (linesF ls v = 0 ∧ ∃ A n c, e = .returned (.tuple #[.slice A n c, .int .i64 0]) ∧ HdOwn w' w.heap.size A n c (linesL ls v))) ∧ New w w'

set_option maxRecDepth 100000 in
set_option maxHeartbeats 2000000 in
theorem limit_Lines (w : World) (ls : List Lim) (A : Option Addr) (n c : Nat) (v : VerdictD) (hl : LimRows w A n ls) (hn : n ≤ 4) (hf : ∀ l ∈ ls, l.Fine) (hv : v.by_.size ≤ 2) (ht : Pow10 w) :
    Calls Tryd.prog 8 #[.slice A n c, v.val] w (RLines w ls v) := by
  obtain ⟨ok, by_, wait⟩ := v
  have hlen := hl.1
  have hks : ∀ l ∈ ls, l.key.size ≤ maxLen := fun l hl => by have := (hf l hl).1; unfold maxLen; omega
  have hA1 := (Mod.refl (fun _ => False) w).alloc (.cells #[.bool ok, .string by_, .int .i64 wait] 31)
  have hx1 := Blk.new w 31 #[.bool ok, .string by_, .int .i64 wait]
  have hcl := limit_checkLimits ls A n c (w.alloc (.cells #[.bool ok, .string by_, .int .i64 wait] 31)) (hl.new hA1) (by omega) hks
  unfold VerdictD.val
  have HL := Lib.hid hl
  have HX := Lib.hid hx1
  have HF := Lib.hid hf
  have HT := Lib.hid ht
  have HKS := Lib.hid hks
  clear hl hx1 hf ht hks
  go_enter Tryd.func8, Tryd.ntmps8
  go_upto_region 1 with (fail)
  generalize hvb : w.heap.size = vb at *
  generalize w.alloc (.cells #[.bool ok, .string by_, .int .i64 wait] 31) = w1 at *
  go_upto_region 2 with (go_at_call 16; refine hcl.mono ?_; clear hcl; rintro e w2 ⟨rfl, hm2⟩)
  have hm2w : New w w2 := hA1.trans hm2
  have hvl : vb < w2.heap.size := by have := HX.out.lt; have := hm2.size; omega
  by_cases hf1 : limsFault ls = 0
  case neg =>
    have hf1' : (limsFault ls != 0) = true := by simpa using hf1
    have HE : Hid (linesF ls ⟨ok, by_, wait⟩ = limsFault ls) := Lib.hid (by unfold linesF; rw [if_pos hf1])
    have HF1 := Lib.hid hf1
    clear hf1
    go_wp2_with fail
    go_ret2
    exact ⟨.inl ⟨by rw [HE.out]; exact HF1.out, by rw [HE.out]; rfl⟩, hm2w⟩
  case pos =>
  have HF1 := Lib.hid hf1
  rw [hf1]
  have HLE : Hid (linesF ls ⟨ok, by_, wait⟩ = linesE ls ⟨ok, by_, wait⟩) := Lib.hid (by unfold linesF; rw [if_neg (by simp [hf1])])
  clear hf1
  have hcf := containsFunc_lim w2 A n c ls (HL.out.new hm2w) vb ⟨ok, by_, wait⟩ (HX.out.mod hm2 (fun e => e)) (by omega)
  go_upto_region 5 with (first | (go_at_call 17; refine hcf.mono ?_; clear hcf; rintro e w3 ⟨rfl, hm3⟩))
  have hm3w : New w w3 := hm2w.trans hm3
  have X3 := Lib.hid (HX.out.mod (hm2.trans hm3) (fun e => e))
  have x0 := X3.out.cell 0
  have x1 := X3.out.cell 1
  have x2 := X3.out.cell 2
  simp at x0 x1 x2
  cases ok with
  | true =>
    by_cases hw0 : wait = 0
    case neg =>
      have HE : Hid (linesF ls ⟨true, by_, wait⟩ = 3) := Lib.hid (by rw [HLE.out]; unfold linesE; simp [hw0])
      have hw1 : (wait == 0) = false := by simpa using hw0
      go_wp2_with fail
      all_goals go_ret2
      all_goals exact ⟨.inl ⟨by rw [HE.out]; decide, by rw [HE.out]; rfl⟩, hm3w⟩
    case pos =>
    subst hw0
    cases hb : (by_.toList == []) with
    | false =>
      have hb' : ¬ by_.toList = [] := by simpa using hb
      have HE : Hid (linesF ls ⟨true, by_, 0⟩ = 3) := Lib.hid (by rw [HLE.out]; unfold linesE; simp [hb'])
      clear hb'
      go_wp2_with fail
      all_goals go_ret2
      all_goals exact ⟨.inl ⟨by rw [HE.out]; decide, by rw [HE.out]; rfl⟩, hm3w⟩
    | true =>
    have hb' : by_.toList = [] := by simpa using hb
    have HE : Hid (linesF ls ⟨true, by_, 0⟩ = 0) := Lib.hid (by rw [HLE.out]; unfold linesE; simp [hb', inW])
    clear hb'
    have hou := outside_any 0 (-1) 345686400000
    have e1 : (decide (-1 ≤ (0 : Int)) && decide ((0 : Int) ≤ 345686400000)) = true := by decide
    rw [e1] at hou
    clear e1
    go_upto_region 13 with (first | (go_at_call 19; refine (hou _).mono ?_; clear hou; rintro e w4 ⟨rfl, rfl⟩))
    go_loopw [8, 10, 11, 43] (fun t _ _ i wr => ∃ (k c2 : Nat) (A2 : Option Addr), k ≤ n ∧ i = .int .i64 k ∧ t = .slice A2 k c2 ∧ Hid (HdOwn wr w3.heap.size A2 k c2 ((ls.take k).map hdOf)) ∧ New w3 wr) (fun _ _ _ i _ => n - (intOf i).toNat)
    case atStart => exact ⟨0, 0, none, Nat.zero_le _, rfl, rfl, Lib.hid (by simpa using Own.nil), Mod.refl _ _⟩
    case round =>
      rename World => wr
      obtain ⟨k, c2, A2, hk, rfl, rfl, HOW, hmr⟩ := hrel
      have hmrw : New w wr := (hm3w).trans hmr
      by_cases hlt : k < n
      · obtain ⟨g, o, hA, hg, hc⟩ := (HL.out.new hmrw).2 (by omega)
        subst hA
        have hgl := hg.lt
        have hkl : k < ls.length := by omega
        have HTK : Hid ((ls.take (k + 1)).map hdOf = (ls.take k).map hdOf ++ [hdOf ls[k]]) := Lib.hid (by rw [List.take_succ_eq_append_getElem hkl, List.map_append]; rfl)
        obtain ⟨hki, hmo, _, hpe, _⟩ := limSelf_zero (lims_self HF1.out k hkl)
        have hsm := (HF.out ls[k] (List.getElem_mem _)).2
        have hkz := (HF.out ls[k] (List.getElem_mem _)).1
        have c0 := hc k hkl 0 (by omega)
        have c1 := hc k hkl 1 (by omega)
        have c2' := hc k hkl 2 (by omega)
        have c3 := hc k hkl 3 (by omega)
        have c4 := hc k hkl 4 (by omega)
        simp only [Lim.enc, Nat.add_zero] at c0 c1 c2' c3 c4
        have hb1 : (0 : Int) ≤ k := by omega
        have hb2 : (k : Int) < n := by omega
        clear hc
        generalize ls[k] = l at *
        go_upto_region 15 with (fail)
        have hAl := (Mod.refl (fun _ => False) wr).alloc (.cells #[.string l.key, .int .i64 l.kind, .int .i64 l.most, .int .i64 l.per, .int .i64 l.burst] 45)
        have hbx := Blk.new wr 45 #[.string l.key, .int .i64 l.kind, .int .i64 l.most, .int .i64 l.per, .int .i64 l.burst]
        have hown4 := HOW.out.new hAl
        have hm4 : New w3 (wr.alloc (.cells #[.string l.key, .int .i64 l.kind, .int .i64 l.most, .int .i64 l.per, .int .i64 l.burst] 45)) := hmr.trans hAl
        clear c0 c1 c2' c3 c4 hAl
        generalize wr.alloc (.cells #[.string l.key, .int .i64 l.kind, .int .i64 l.most, .int .i64 l.per, .int .i64 l.burst] 45) = w4 at *
        generalize wr.heap.size = xb at *
        have x1 := hbx.cell 1
        have x2 := hbx.cell 2
        simp at x1 x2
        have hxl := hbx.lt
        have HBX := Lib.hid hbx
        have HO4 := Lib.hid hown4
        have hm4w : New w w4 := (hm3w).trans hm4
        obtain ⟨kn, hkn⟩ := Int.eq_ofNat_of_zero_le (show 0 ≤ l.kind by omega)
        have hkn1 : (0 : Int) ≤ kn := by omega
        have hkn2 : (kn : Int) < 5 := by omega
        rw [hkn] at x1
        have hkw := fun (w' : World) (h : Blk w' w4.heap.size 9 wordsCs) => words_at h hki.1 hki.2
        rw [hkn] at hkw
        simp only [Int.toNat_natCast] at hkw
        have i64m : I64 l.most := ⟨by omega, by omega⟩
        have z1 := kindWord_size kn
        have z2 := itoaB_size i64m
        have z3 : ¬ 9223372036854775807 < (kindWord kn).size + 1 := by omega
        have z4 : ¬ 9223372036854775807 < (kindWord kn).size + 1 + (itoaB l.most).size := by omega
        have z5 : ¬ 9223372036854775807 < 8 + l.key.size := by omega
        have hit := fun (w' : World) (h : New w w') => itoa_any l.most i64m w' (HT.out.new h)
        refine wp_region_held_mark (fun w' => w'.cell? ⟨xb, 1, none⟩ = some (.int .i64 kn) ∧ w'.cell? ⟨xb, 2, none⟩ = some (.int .i64 l.most)) (fun _ w' => w'.cell? ⟨w4.heap.size, kn, none⟩ = some (.string (kindWord kn))) [0, 8] [1, 2, 6, 7, 0, 3, 4, 5, 8] (by kernel_rfl) (by kernel_rfl) (fun _ _ d _ _ h => by cases d <;> exact h) ?_ (fun hHeld => ?_)
        · exact ⟨x1, x2⟩
        simp only [List.length_cons, List.length_nil, List.drop_succ_cons, List.drop_zero]
        refine heldM_take ?_ (by rfl) (by rfl) (by rfl) (fun w hSw => ?_) ?_
        rotate_left
        · (try simp only [heldBy] at hSw); go_simp; any_goals (with_reducible rfl)
        simp only [Act.put, List.setIfInBounds_toArray, List.set_cons_zero, List.set_cons_succ]
        refine heldM_take ?_ (by rfl) (by rfl) (by rfl) (fun w hSw => ?_) ?_
        rotate_left
        · (try simp only [heldBy] at hSw); go_simp; any_goals (with_reducible rfl)
        simp only [Act.put, List.setIfInBounds_toArray, List.set_cons_zero, List.set_cons_succ]
        refine heldM_take ?_ (by rfl) (by rfl) (by rfl) (fun w hSw => ?_) ?_
        rotate_left
        · (try simp only [heldBy] at hSw); go_simp; any_goals (with_reducible rfl)
        simp only [Act.put, List.setIfInBounds_toArray, List.set_cons_zero, List.set_cons_succ]
        refine heldM_take ?_ (by rfl) (by rfl) (by rfl) (fun w hSw => ?_) ?_
        rotate_left
        · (try simp only [heldBy] at hSw); go_simp; any_goals (with_reducible rfl)
        simp only [Act.put, List.setIfInBounds_toArray, List.set_cons_zero, List.set_cons_succ]
        refine heldM_step (by rfl) (by rfl) (by rfl) (fun K hK => ?_)
        go_simp
        refine (kindWords_any _).mono ?_
        rintro e w5 ⟨rfl, hw5⟩
        have hm5 : New w4 w5 := by rw [hw5]; exact ((Mod.refl _ w4).drewN 1).alloc _
        have hb5 : Blk w5 w4.heap.size 9 wordsCs := by rw [hw5]; exact Blk.new _ _ _
        have hbx5 := HBX.out.mod hm5 (fun e => e)
        have k1 : w5.cell? ⟨xb, 1, none⟩ = some (.int .i64 kn) := (hbx5.cell 1).trans (by rw [← hkn]; rfl)
        have k2 : w5.cell? ⟨xb, 2, none⟩ = some (.int .i64 l.most) := (hbx5.cell 2).trans rfl
        have kw := hkw w5 hb5
        have hb5l := hb5.lt
        have hxl5 := hbx5.lt
        have hit := hit w5 (hm4w.trans hm5)
        clear hw5 hkw
        go_wp2_with fail
        refine hK.out _ _ ⟨kw, k1, k2⟩ (fun hHeld => ?_)
        clear hK K
        try simp only [Act.put, List.setIfInBounds_toArray, List.set_cons_zero, List.set_cons_succ]
        refine heldM_take ?_ (by rfl) (by rfl) (by rfl) (fun w hSw => ?_) ?_
        rotate_left
        · (try simp only [heldBy] at hSw); go_simp; any_goals (with_reducible rfl)
        simp only [Act.put, List.setIfInBounds_toArray, List.set_cons_zero, List.set_cons_succ]
        refine heldM_take ?_ (by rfl) (by rfl) (by rfl) (fun w hSw => ?_) ?_
        rotate_left
        · (try simp only [heldBy] at hSw); go_simp; any_goals (with_reducible rfl)
        simp only [Act.put, List.setIfInBounds_toArray, List.set_cons_zero, List.set_cons_succ]
        refine heldM_take ?_ (by rfl) (by rfl) (by rfl) (fun w hSw => ?_) ?_
        rotate_left
        · (try simp only [heldBy] at hSw); go_simp; any_goals (with_reducible rfl)
        simp only [Act.put, List.setIfInBounds_toArray, List.set_cons_zero, List.set_cons_succ]
        refine heldM_step (by rfl) (by rfl) (by rfl) (fun K hK => ?_)
        go_simp
        refine hit.mono ?_
        clear hit
        rintro e w6 ⟨rfl, hm6⟩
        have hb6 := hb5.mod hm6 (fun e => e)
        have hbx6 := hbx5.mod hm6 (fun e => e)
        have j1 : w6.cell? ⟨xb, 1, none⟩ = some (.int .i64 kn) := (hbx6.cell 1).trans (by rw [← hkn]; rfl)
        have j2 : w6.cell? ⟨xb, 2, none⟩ = some (.int .i64 l.most) := (hbx6.cell 2).trans rfl
        have jw : w6.cell? ⟨w4.heap.size, kn, none⟩ = some (.string (kindWord kn)) := by
          have := hm6.cell (p := ⟨w4.heap.size, kn, none⟩) hb5l (fun e => e)
          rw [this]; exact kw
        have j0 := hbx6.cell 0
        have j3 := hbx6.cell 3
        simp at j0 j3
        have hxl6 := hbx6.lt
        have hm6w : New w3 w6 := (hm4.trans hm5).trans hm6
        have HO6 := Lib.hid (HO4.out.new (hm5.trans hm6))
        have HBX6 := Lib.hid hbx6
        go_wp2_with fail
        refine hK.out _ _ ⟨jw, jw, j1, j2⟩ (fun hHeld => ?_)
        clear hK K x1 x2 k1 k2 kw hbx5 hb5 hb6 hbx6 hHeld
        try simp only [Act.put, List.setIfInBounds_toArray, List.set_cons_zero, List.set_cons_succ]
        refine heldM_nil ?_
        by_cases hper : l.per = 0
        · have hp0 : (l.per != 0) = false := by simp [hper]
          have HHD : Hid (hdOf l = ⟨xlim ++ l.key, (kindWord kn ++ ⟨#[32]⟩) ++ itoaB l.most⟩) := Lib.hid (by unfold hdOf hdVal; rw [if_pos hper, hkn])
          clear hper
          go_wp2_with (at_builtin; refine wpList_push rfl _ _ _ rfl 32 Tryd.underlying33 einfo_hd rfl (HO6.out.alloc _) ⟨xlim ++ l.key, (kindWord kn ++ ⟨#[32]⟩) ++ itoaB l.most⟩ w6.heap.size rfl (Blk.new _ _ _) (fun j hj => HdD.one _ j hj) (by omega) (by omega) (by have := hm6w.size; simp; omega) ?_; intro g7 cap7 w7 own7 hm7 hat7 hlt7)
          refine ⟨⟨k + 1, cap7, some ⟨g7, 0, none⟩, by omega, by go_num, rfl, Lib.hid (by rw [HTK.out, HHD.out]; exact own7), ?_⟩, by simp [intOf]; omega⟩
          exact (hm6w.alloc _).step hm7 (fun i hi e => by have := (HO6.out.far i e).1; omega)
        · have hp0 : (l.per != 0) = true := by simp [hper]
          have HHD : Hid (hdOf l = ⟨xlim ++ l.key, ((kindWord kn ++ ⟨#[32]⟩) ++ itoaB l.most) ++ (⟨#[47]⟩ ++ itoaB l.per)⟩) := Lib.hid (by unfold hdOf hdVal; rw [if_neg hper, hkn])
          have i64p : I64 l.per := ⟨by have := hsm.2.2.1; omega, by have := hsm.2.2.1; omega⟩
          have z6 := itoaB_size i64p
          have z7 : ¬ 9223372036854775807 < 1 + (itoaB l.per).size := by omega
          have z8 : ¬ 9223372036854775807 < (kindWord kn).size + 1 + (itoaB l.most).size + (1 + (itoaB l.per).size) := by omega
          have hip := itoa_any l.per i64p w6 (HT.out.new ((hm3w).trans hm6w))
          clear hper
          go_upto_region 18 with (first | (go_at_call 21; refine hip.mono ?_; clear hip; rintro e w8 ⟨rfl, hm8⟩; have hm8w : New w3 w8 := hm6w.trans hm8))
          have HO8 := Lib.hid (HO6.out.new hm8)
          have hbx8 := HBX6.out.mod hm8 (fun e => e)
          have j0' := hbx8.cell 0
          simp at j0'
          have hxl8 := hbx8.lt
          clear HO6 j0 j3 hxl6 hm6w j1 j2 jw
          go_wp2_with (at_builtin; refine wpList_push rfl _ _ _ rfl 32 Tryd.underlying33 einfo_hd rfl (HO8.out.alloc _) ⟨xlim ++ l.key, ((kindWord kn ++ ⟨#[32]⟩) ++ itoaB l.most) ++ (⟨#[47]⟩ ++ itoaB l.per)⟩ w8.heap.size rfl (Blk.new _ _ _) (fun j hj => HdD.one _ j hj) (by omega) (by omega) (by have := hm8w.size; simp; omega) ?_; intro g7 cap7 w7 own7 hm7 hat7 hlt7)
          refine ⟨⟨k + 1, cap7, some ⟨g7, 0, none⟩, by omega, by go_num, rfl, Lib.hid (by rw [HTK.out, HHD.out]; exact own7), ?_⟩, by simp [intOf]; omega⟩
          exact (hm8w.alloc _).step hm7 (fun i hi e => by have := (HO8.out.far i e).1; omega)
      · obtain rfl : k = n := by omega
        have HOWn : Hid (HdOwn wr w3.heap.size A2 k c2 (ls.map hdOf)) := Lib.hid (by have := HOW.out; rwa [List.take_of_length_le (by omega)] at this)
        have hxr := X3.out.mod hmr (fun e => e)
        have x0r := hxr.cell 0
        have x1r := hxr.cell 1
        have x2r := hxr.cell 2
        simp at x0r x1r x2r
        have hxrl := hxr.lt
        clear HOW x0 x1 x2
        have hlong : ¬ (50 : Int) < k := by omega
        go_wp2_with fail
        go_ret2
        refine ⟨.inr ⟨HE.out, A2, k, c2, rfl, ?_⟩, hmrw⟩
        have : linesL ls ⟨true, by_, 0⟩ = ls.map hdOf := by unfold linesL tailH; simp
        rw [this]
        exact HOWn.out.less (by have := hm3w.size; omega)
  | false =>
    cases hh : hasL ls ⟨false, by_, wait⟩ with
    | false =>
      have HE : Hid (linesF ls ⟨false, by_, wait⟩ = 8) := Lib.hid (by rw [HLE.out]; unfold linesE; simp [hh])
      go_wp2_with fail
      go_ret2
      exact ⟨.inl ⟨by rw [HE.out]; decide, by rw [HE.out]; rfl⟩, hm3w⟩
    | true =>
    have hou := outside_any wait (-1) 345686400000
    have e1 : (decide (-1 ≤ wait) && decide (wait ≤ 345686400000)) = inW wait := rfl
    rw [e1] at hou
    clear e1
    cases hi : inW wait with
    | false =>
      rw [hi] at hou
      have HE : Hid (linesF ls ⟨false, by_, wait⟩ = 1) := Lib.hid (by rw [HLE.out]; unfold linesE; simp [hh, hi])
      clear hi
      go_wp2_with (first | (go_at_call 19; refine (hou _).mono ?_; clear hou; rintro e w4 ⟨rfl, rfl⟩))
      go_ret2
      exact ⟨.inl ⟨by rw [HE.out]; decide, by rw [HE.out]; rfl⟩, hm3w⟩
    | true =>
    rw [hi] at hou
    have HE : Hid (linesF ls ⟨false, by_, wait⟩ = 0) := Lib.hid (by rw [HLE.out]; unfold linesE; simp [hh, hi])
    have hw : -1 ≤ wait ∧ wait ≤ 345686400000 := by unfold inW at hi; simpa using hi
    clear hi hh
    go_upto_region 13 with (first | (go_at_call 19; refine (hou _).mono ?_; clear hou; rintro e w4 ⟨rfl, rfl⟩))
    go_loopw [8, 10, 11, 43] (fun t _ _ i wr => ∃ (k c2 : Nat) (A2 : Option Addr), k ≤ n ∧ i = .int .i64 k ∧ t = .slice A2 k c2 ∧ Hid (HdOwn wr w3.heap.size A2 k c2 ((ls.take k).map hdOf)) ∧ New w3 wr) (fun _ _ _ i _ => n - (intOf i).toNat)
    case atStart => exact ⟨0, 0, none, Nat.zero_le _, rfl, rfl, Lib.hid (by simpa using Own.nil), Mod.refl _ _⟩
    case round =>
      rename World => wr
      obtain ⟨k, c2, A2, hk, rfl, rfl, HOW, hmr⟩ := hrel
      have hmrw : New w wr := (hm3w).trans hmr
      by_cases hlt : k < n
      · obtain ⟨g, o, hA, hg, hc⟩ := (HL.out.new hmrw).2 (by omega)
        subst hA
        have hgl := hg.lt
        have hkl : k < ls.length := by omega
        have HTK : Hid ((ls.take (k + 1)).map hdOf = (ls.take k).map hdOf ++ [hdOf ls[k]]) := Lib.hid (by rw [List.take_succ_eq_append_getElem hkl, List.map_append]; rfl)
        obtain ⟨hki, hmo, _, hpe, _⟩ := limSelf_zero (lims_self HF1.out k hkl)
        have hsm := (HF.out ls[k] (List.getElem_mem _)).2
        have hkz := (HF.out ls[k] (List.getElem_mem _)).1
        have c0 := hc k hkl 0 (by omega)
        have c1 := hc k hkl 1 (by omega)
        have c2' := hc k hkl 2 (by omega)
        have c3 := hc k hkl 3 (by omega)
        have c4 := hc k hkl 4 (by omega)
        simp only [Lim.enc, Nat.add_zero] at c0 c1 c2' c3 c4
        have hb1 : (0 : Int) ≤ k := by omega
        have hb2 : (k : Int) < n := by omega
        clear hc
        generalize ls[k] = l at *
        go_upto_region 15 with (fail)
        have hAl := (Mod.refl (fun _ => False) wr).alloc (.cells #[.string l.key, .int .i64 l.kind, .int .i64 l.most, .int .i64 l.per, .int .i64 l.burst] 45)
        have hbx := Blk.new wr 45 #[.string l.key, .int .i64 l.kind, .int .i64 l.most, .int .i64 l.per, .int .i64 l.burst]
        have hown4 := HOW.out.new hAl
        have hm4 : New w3 (wr.alloc (.cells #[.string l.key, .int .i64 l.kind, .int .i64 l.most, .int .i64 l.per, .int .i64 l.burst] 45)) := hmr.trans hAl
        clear c0 c1 c2' c3 c4 hAl
        generalize wr.alloc (.cells #[.string l.key, .int .i64 l.kind, .int .i64 l.most, .int .i64 l.per, .int .i64 l.burst] 45) = w4 at *
        generalize wr.heap.size = xb at *
        have x1 := hbx.cell 1
        have x2 := hbx.cell 2
        simp at x1 x2
        have hxl := hbx.lt
        have HBX := Lib.hid hbx
        have HO4 := Lib.hid hown4
        have hm4w : New w w4 := (hm3w).trans hm4
        obtain ⟨kn, hkn⟩ := Int.eq_ofNat_of_zero_le (show 0 ≤ l.kind by omega)
        have hkn1 : (0 : Int) ≤ kn := by omega
        have hkn2 : (kn : Int) < 5 := by omega
        rw [hkn] at x1
        have hkw := fun (w' : World) (h : Blk w' w4.heap.size 9 wordsCs) => words_at h hki.1 hki.2
        rw [hkn] at hkw
        simp only [Int.toNat_natCast] at hkw
        have i64m : I64 l.most := ⟨by omega, by omega⟩
        have z1 := kindWord_size kn
        have z2 := itoaB_size i64m
        have z3 : ¬ 9223372036854775807 < (kindWord kn).size + 1 := by omega
        have z4 : ¬ 9223372036854775807 < (kindWord kn).size + 1 + (itoaB l.most).size := by omega
        have z5 : ¬ 9223372036854775807 < 8 + l.key.size := by omega
        have hit := fun (w' : World) (h : New w w') => itoa_any l.most i64m w' (HT.out.new h)
        refine wp_region_held_mark (fun w' => w'.cell? ⟨xb, 1, none⟩ = some (.int .i64 kn) ∧ w'.cell? ⟨xb, 2, none⟩ = some (.int .i64 l.most)) (fun _ w' => w'.cell? ⟨w4.heap.size, kn, none⟩ = some (.string (kindWord kn))) [0, 8] [1, 2, 6, 7, 0, 3, 4, 5, 8] (by kernel_rfl) (by kernel_rfl) (fun _ _ d _ _ h => by cases d <;> exact h) ?_ (fun hHeld => ?_)
        · exact ⟨x1, x2⟩
        simp only [List.length_cons, List.length_nil, List.drop_succ_cons, List.drop_zero]
        refine heldM_take ?_ (by rfl) (by rfl) (by rfl) (fun w hSw => ?_) ?_
        rotate_left
        · (try simp only [heldBy] at hSw); go_simp; any_goals (with_reducible rfl)
        simp only [Act.put, List.setIfInBounds_toArray, List.set_cons_zero, List.set_cons_succ]
        refine heldM_take ?_ (by rfl) (by rfl) (by rfl) (fun w hSw => ?_) ?_
        rotate_left
        · (try simp only [heldBy] at hSw); go_simp; any_goals (with_reducible rfl)
        simp only [Act.put, List.setIfInBounds_toArray, List.set_cons_zero, List.set_cons_succ]
        refine heldM_take ?_ (by rfl) (by rfl) (by rfl) (fun w hSw => ?_) ?_
        rotate_left
        · (try simp only [heldBy] at hSw); go_simp; any_goals (with_reducible rfl)
        simp only [Act.put, List.setIfInBounds_toArray, List.set_cons_zero, List.set_cons_succ]
        refine heldM_take ?_ (by rfl) (by rfl) (by rfl) (fun w hSw => ?_) ?_
        rotate_left
        · (try simp only [heldBy] at hSw); go_simp; any_goals (with_reducible rfl)
        simp only [Act.put, List.setIfInBounds_toArray, List.set_cons_zero, List.set_cons_succ]
        refine heldM_step (by rfl) (by rfl) (by rfl) (fun K hK => ?_)
        go_simp
        refine (kindWords_any _).mono ?_
        rintro e w5 ⟨rfl, hw5⟩
        have hm5 : New w4 w5 := by rw [hw5]; exact ((Mod.refl _ w4).drewN 1).alloc _
        have hb5 : Blk w5 w4.heap.size 9 wordsCs := by rw [hw5]; exact Blk.new _ _ _
        have hbx5 := HBX.out.mod hm5 (fun e => e)
        have k1 : w5.cell? ⟨xb, 1, none⟩ = some (.int .i64 kn) := (hbx5.cell 1).trans (by rw [← hkn]; rfl)
        have k2 : w5.cell? ⟨xb, 2, none⟩ = some (.int .i64 l.most) := (hbx5.cell 2).trans rfl
        have kw := hkw w5 hb5
        have hb5l := hb5.lt
        have hxl5 := hbx5.lt
        have hit := hit w5 (hm4w.trans hm5)
        clear hw5 hkw
        go_wp2_with fail
        refine hK.out _ _ ⟨kw, k1, k2⟩ (fun hHeld => ?_)
        clear hK K
        try simp only [Act.put, List.setIfInBounds_toArray, List.set_cons_zero, List.set_cons_succ]
        refine heldM_take ?_ (by rfl) (by rfl) (by rfl) (fun w hSw => ?_) ?_
        rotate_left
        · (try simp only [heldBy] at hSw); go_simp; any_goals (with_reducible rfl)
        simp only [Act.put, List.setIfInBounds_toArray, List.set_cons_zero, List.set_cons_succ]
        refine heldM_take ?_ (by rfl) (by rfl) (by rfl) (fun w hSw => ?_) ?_
        rotate_left
        · (try simp only [heldBy] at hSw); go_simp; any_goals (with_reducible rfl)
        simp only [Act.put, List.setIfInBounds_toArray, List.set_cons_zero, List.set_cons_succ]
        refine heldM_take ?_ (by rfl) (by rfl) (by rfl) (fun w hSw => ?_) ?_
        rotate_left
        · (try simp only [heldBy] at hSw); go_simp; any_goals (with_reducible rfl)
        simp only [Act.put, List.setIfInBounds_toArray, List.set_cons_zero, List.set_cons_succ]
        refine heldM_step (by rfl) (by rfl) (by rfl) (fun K hK => ?_)
        go_simp
        refine hit.mono ?_
        clear hit
        rintro e w6 ⟨rfl, hm6⟩
        have hb6 := hb5.mod hm6 (fun e => e)
        have hbx6 := hbx5.mod hm6 (fun e => e)
        have j1 : w6.cell? ⟨xb, 1, none⟩ = some (.int .i64 kn) := (hbx6.cell 1).trans (by rw [← hkn]; rfl)
        have j2 : w6.cell? ⟨xb, 2, none⟩ = some (.int .i64 l.most) := (hbx6.cell 2).trans rfl
        have jw : w6.cell? ⟨w4.heap.size, kn, none⟩ = some (.string (kindWord kn)) := by
          have := hm6.cell (p := ⟨w4.heap.size, kn, none⟩) hb5l (fun e => e)
          rw [this]; exact kw
        have j0 := hbx6.cell 0
        have j3 := hbx6.cell 3
        simp at j0 j3
        have hxl6 := hbx6.lt
        have hm6w : New w3 w6 := (hm4.trans hm5).trans hm6
        have HO6 := Lib.hid (HO4.out.new (hm5.trans hm6))
        have HBX6 := Lib.hid hbx6
        go_wp2_with fail
        refine hK.out _ _ ⟨jw, jw, j1, j2⟩ (fun hHeld => ?_)
        clear hK K x1 x2 k1 k2 kw hbx5 hb5 hb6 hbx6 hHeld
        try simp only [Act.put, List.setIfInBounds_toArray, List.set_cons_zero, List.set_cons_succ]
        refine heldM_nil ?_
        by_cases hper : l.per = 0
        · have hp0 : (l.per != 0) = false := by simp [hper]
          have HHD : Hid (hdOf l = ⟨xlim ++ l.key, (kindWord kn ++ ⟨#[32]⟩) ++ itoaB l.most⟩) := Lib.hid (by unfold hdOf hdVal; rw [if_pos hper, hkn])
          clear hper
          go_wp2_with (at_builtin; refine wpList_push rfl _ _ _ rfl 32 Tryd.underlying33 einfo_hd rfl (HO6.out.alloc _) ⟨xlim ++ l.key, (kindWord kn ++ ⟨#[32]⟩) ++ itoaB l.most⟩ w6.heap.size rfl (Blk.new _ _ _) (fun j hj => HdD.one _ j hj) (by omega) (by omega) (by have := hm6w.size; simp; omega) ?_; intro g7 cap7 w7 own7 hm7 hat7 hlt7)
          refine ⟨⟨k + 1, cap7, some ⟨g7, 0, none⟩, by omega, by go_num, rfl, Lib.hid (by rw [HTK.out, HHD.out]; exact own7), ?_⟩, by simp [intOf]; omega⟩
          exact (hm6w.alloc _).step hm7 (fun i hi e => by have := (HO6.out.far i e).1; omega)
        · have hp0 : (l.per != 0) = true := by simp [hper]
          have HHD : Hid (hdOf l = ⟨xlim ++ l.key, ((kindWord kn ++ ⟨#[32]⟩) ++ itoaB l.most) ++ (⟨#[47]⟩ ++ itoaB l.per)⟩) := Lib.hid (by unfold hdOf hdVal; rw [if_neg hper, hkn])
          have i64p : I64 l.per := ⟨by have := hsm.2.2.1; omega, by have := hsm.2.2.1; omega⟩
          have z6 := itoaB_size i64p
          have z7 : ¬ 9223372036854775807 < 1 + (itoaB l.per).size := by omega
          have z8 : ¬ 9223372036854775807 < (kindWord kn).size + 1 + (itoaB l.most).size + (1 + (itoaB l.per).size) := by omega
          have hip := itoa_any l.per i64p w6 (HT.out.new ((hm3w).trans hm6w))
          clear hper
          go_upto_region 18 with (first | (go_at_call 21; refine hip.mono ?_; clear hip; rintro e w8 ⟨rfl, hm8⟩; have hm8w : New w3 w8 := hm6w.trans hm8))
          have HO8 := Lib.hid (HO6.out.new hm8)
          have hbx8 := HBX6.out.mod hm8 (fun e => e)
          have j0' := hbx8.cell 0
          simp at j0'
          have hxl8 := hbx8.lt
          clear HO6 j0 j3 hxl6 hm6w j1 j2 jw
          go_wp2_with (at_builtin; refine wpList_push rfl _ _ _ rfl 32 Tryd.underlying33 einfo_hd rfl (HO8.out.alloc _) ⟨xlim ++ l.key, ((kindWord kn ++ ⟨#[32]⟩) ++ itoaB l.most) ++ (⟨#[47]⟩ ++ itoaB l.per)⟩ w8.heap.size rfl (Blk.new _ _ _) (fun j hj => HdD.one _ j hj) (by omega) (by omega) (by have := hm8w.size; simp; omega) ?_; intro g7 cap7 w7 own7 hm7 hat7 hlt7)
          refine ⟨⟨k + 1, cap7, some ⟨g7, 0, none⟩, by omega, by go_num, rfl, Lib.hid (by rw [HTK.out, HHD.out]; exact own7), ?_⟩, by simp [intOf]; omega⟩
          exact (hm8w.alloc _).step hm7 (fun i hi e => by have := (HO8.out.far i e).1; omega)
      · obtain rfl : k = n := by omega
        have HOWn : Hid (HdOwn wr w3.heap.size A2 k c2 (ls.map hdOf)) := Lib.hid (by have := HOW.out; rwa [List.take_of_length_le (by omega)] at this)
        have hxr := X3.out.mod hmr (fun e => e)
        have x0r := hxr.cell 0
        have x1r := hxr.cell 1
        have x2r := hxr.cell 2
        simp at x0r x1r x2r
        have hxrl := hxr.lt
        clear HOW x0 x1 x2
        have hlong : ¬ (50 : Int) < (k : Int) + 2 := by omega
        by_cases hw1 : wait = -1
        · have hw2 : (wait != -1) = false := by simp [hw1]
          have HWS : Hid (waitS wait = ⟨#[110, 101, 118, 101, 114]⟩) := Lib.hid (by unfold waitS; rw [if_pos hw1])
          clear hw1
          go_wp2_with (at_builtin; refine wpList_pushAll rfl _ _ _ rfl 32 Tryd.underlying33 einfo_hd rfl (HOWn.out.alloc _) [⟨⟨#[114, 101, 116, 114, 121, 45, 97, 102, 116, 101, 114]⟩, ⟨#[110, 101, 118, 101, 114]⟩⟩, ⟨⟨#[120, 45, 108, 105, 109, 105, 116, 101, 100, 45, 98, 121]⟩, by_⟩] wr.heap.size 0 2 2 rfl (Sl.of_blk (Blk.new _ _ _) rfl (fun i hi j hj => by rcases (by simp at hi; omega : i = 0 ∨ i = 1) with rfl | rfl <;> rcases (by omega : j = 0 ∨ j = 1) with rfl | rfl <;> rfl)) (by omega) (fun y _ j hj => HdD.one y j hj) (by omega) (by omega) (by have := hmr.size; simp; omega) ?_; intro g7 cap7 w7 own7 hm7 hat7 hlt7)
          go_ret2
          refine ⟨.inr ⟨HE.out, some ⟨g7, 0, none⟩, k + 2, cap7, rfl, ?_⟩, ?_⟩
          · have : linesL ls ⟨false, by_, wait⟩ = ls.map hdOf ++ [⟨⟨#[114, 101, 116, 114, 121, 45, 97, 102, 116, 101, 114]⟩, ⟨#[110, 101, 118, 101, 114]⟩⟩, ⟨⟨#[120, 45, 108, 105, 109, 105, 116, 101, 100, 45, 98, 121]⟩, by_⟩] := by unfold linesL tailH; rw [HWS.out]; rfl
            rw [this]
            exact own7.less (by have := hm3w.size; omega)
          · exact (hm3w.trans hmr |>.alloc _).step hm7 (fun i hi e => by have := (HOWn.out.far i e).1; have := hm3w.size; omega)
        · have hw2 : (wait != -1) = true := by simp [hw1]
          have HWS : Hid (waitS wait = itoaB (upDiv wait 1000)) := Lib.hid (by unfold waitS; rw [if_neg hw1])
          have hup := up_any wait 1000 wr (by omega) (by omega) (by omega) (by omega)
          have hud := upDiv_bd wait 1000 (by omega) (by omega)
          have hiw := itoa_any (upDiv wait 1000) ⟨by omega, by omega⟩ wr (HT.out.new hmrw)
          clear hw1
          go_upto_region 24 with (first | (go_at_call 22; refine hup.mono ?_; clear hup; rintro e wu ⟨rfl, rfl⟩) | (go_at_call 21; refine hiw.mono ?_; clear hiw; rintro e w8 ⟨rfl, hm8⟩))
          have hm8r : New w3 w8 := hmr.trans hm8
          have HO8 := Lib.hid (HOWn.out.new hm8)
          have hx8 := hxr.mod hm8 (fun e => e)
          have x18 := hx8.cell 1
          simp at x18
          have hx8l := hx8.lt
          clear x0r x1r x2r
          go_wp2_with (at_builtin; refine wpList_pushAll rfl _ _ _ rfl 32 Tryd.underlying33 einfo_hd rfl (HO8.out.alloc _) [⟨⟨#[114, 101, 116, 114, 121, 45, 97, 102, 116, 101, 114]⟩, itoaB (upDiv wait 1000)⟩, ⟨⟨#[120, 45, 108, 105, 109, 105, 116, 101, 100, 45, 98, 121]⟩, by_⟩] w8.heap.size 0 2 2 rfl (Sl.of_blk (Blk.new _ _ _) rfl (fun i hi j hj => by rcases (by simp at hi; omega : i = 0 ∨ i = 1) with rfl | rfl <;> rcases (by omega : j = 0 ∨ j = 1) with rfl | rfl <;> rfl)) (by omega) (fun y _ j hj => HdD.one y j hj) (by omega) (by omega) (by have := hm8r.size; simp; omega) ?_; intro g7 cap7 w7 own7 hm7 hat7 hlt7)
          go_ret2
          refine ⟨.inr ⟨HE.out, some ⟨g7, 0, none⟩, k + 2, cap7, rfl, ?_⟩, ?_⟩
          · have : linesL ls ⟨false, by_, wait⟩ = ls.map hdOf ++ [⟨⟨#[114, 101, 116, 114, 121, 45, 97, 102, 116, 101, 114]⟩, itoaB (upDiv wait 1000)⟩, ⟨⟨#[120, 45, 108, 105, 109, 105, 116, 101, 100, 45, 98, 121]⟩, by_⟩] := by unfold linesL tailH; rw [HWS.out]; rfl
            rw [this]
            exact own7.less (by have := hm3w.size; omega)
          · exact (hm3w.trans hm8r |>.alloc _).step hm7 (fun i hi e => by have := (HO8.out.far i e).1; have := hm3w.size; omega)

end Go.Proofs.YtinnckbffblecaaDoor
