/- Several texts in one. (1) Parameters of templates: is there one with a name among parts? (both sides: slices.ContainsFunc over a function value). Conditions: at most 100000 parts. (2) slices.IndexFunc and ContainsFunc of parts, over a function value that asks anything of a part (printed by mkparq.py). Conditions: at most 100000 parts. -/
import Derived.Test.YtnbcfpjalgfikaaGreatDoorTplLaw
import Derived.Test.YtnbcfpjalgfikaaGreatDoorOwn

namespace Go.Proofs.YtnbcfpjalgfikaaGreatDoor
open Go.RowKit
set_option linter.unusedVariables false
set_option linter.unusedSimpArgs false

def PartD.val (p : PartD) : Value := .agg #[.int .i64 p.kind, .string p.name]
abbrev PSl (w : World) (A : Option Addr) (n : Nat) (ps : List PartD) : Prop := Sl w 80 2 PartD.enc A n ps
abbrev isPar (s : ByteArray) (p : PartD) : Bool := decide (p.kind ≠ 1) && decide (p.name = s)
theorem str_beq (a b : ByteArray) : (a.toList == b.toList) = decide (a = b) := by
  rw [Bool.eq_iff_iff, ByteArray.toList_eq, ByteArray.toList_eq]
  simp only [beq_iff_eq, decide_eq_true_eq]
  exact ⟨fun h => ByteArray.ext (Array.toList_inj.mp h), fun h => by rw [h]⟩
/-- the place of the first one among the first n, or -1 -/
def firstP (b : Nat → Bool) : Nat → Int
  | 0 => -1
  | n + 1 => if firstP b n = -1 then (if b n then n else -1) else firstP b n
theorem firstP_none {b : Nat → Bool} {n : Nat} (h : ∀ i, i < n → b i = false) : firstP b n = -1 := by
  induction n with
  | zero => rfl
  | succ n ih => rw [firstP, ih (fun i hi => h i (by omega)), h n (by omega)]; simp
theorem firstP_hit {b : Nat → Bool} {n k : Nat} (hk : k < n) (ht : b k = true) (h : ∀ i, i < k → b i = false) : firstP b n = k := by
  induction n with
  | zero => omega
  | succ n ih =>
    rw [firstP]
    by_cases e : k = n
    · subst e; rw [firstP_none h, ht]; simp
    · rw [ih (by omega)]; rw [if_neg (by omega)]
theorem firstP_any (b : Nat → Bool) : ∀ n, decide (0 ≤ firstP b n) = (List.range n).any b
  | 0 => rfl
  | n + 1 => by
    have ih := firstP_any b n
    rw [List.range_succ, List.any_append, ← ih, firstP]
    split
    · rename_i h
      rw [h]
      cases hb : b n <;> simp [hb]
    · rename_i h
      have : 0 ≤ firstP b n := by
        have hge : ∀ m, -1 ≤ firstP b m := by
          intro m
          induction m with
          | zero => exact Int.le_refl _
          | succ m ih2 => unfold firstP; split <;> (try split) <;> omega
        have := hge n
        omega
      simp [this]
theorem anyRange {α : Type} (p : α → Bool) (l : List α) : (List.range l.length).any (fun i => (l[i]?).any p) = l.any p := by
  rw [Bool.eq_iff_iff, List.any_eq_true, List.any_eq_true]
  constructor
  · rintro ⟨i, hi, h⟩
    have hi := List.mem_range.1 hi
    rw [List.getElem?_eq_getElem hi] at h
    exact ⟨l[i], List.getElem_mem hi, h⟩
  · rintro ⟨x, hx, h⟩
    obtain ⟨i, hi, rfl⟩ := List.getElem_of_mem hx
    exact ⟨i, List.mem_range.2 hi, by rw [List.getElem?_eq_getElem hi]; exact h⟩

/-- a closure that asks whether a part is a parameter with the name -/
def ParPred (w : World) (F : Nat) (cp : Value) (s : ByteArray) : Prop :=
  ∀ (p : PartD) wr, New w wr → Calls Tryz.prog F #[p.val, cp] wr fun e w' => e = .returned (.bool (isPar s p)) ∧ New wr w'
set_option maxHeartbeats 1000000 in
theorem indexFunc_part (F : Nat) (cp : Value) (eg : ∀ args w, (callFunc F args).run Tryz.prog w = .ok (.enter F args) w) (w : World) (A : Option Addr) (n c : Nat) (ps : List PartD) (s : ByteArray) (hs : PSl w A n ps) (hF : ParPred w F cp s) (hn : n ≤ 100000) :
    Calls Tryz.prog 120 #[.slice A n c, .func (.func F) #[] #[cp]] w fun e w' => e = .returned (.int .i64 (firstP (fun i => (ps[i]?).any (isPar s)) n)) ∧ New w w' := by
  have HS := Lib.hid hs
  have HF := Lib.hid hF
  have HL := Lib.hid hs.1
  obtain ⟨b, hb⟩ : ∃ b : Nat → Bool, b = (fun i => (ps[i]?).any (isPar s)) := ⟨_, rfl⟩
  rw [← hb]
  have HB := Lib.hid hb
  clear hs hF hb
  go_enter Tryz.func120, Tryz.ntmps120
  go_wp2_with fail
  go_loopw [8] (fun i wr => ∃ k : Nat, k ≤ n ∧ i = .int .i64 k ∧ Hid (New w wr) ∧ Hid (∀ j, j < k → b j = false)) (fun i _ => n - (intOf i).toNat)
  case atStart => exact ⟨0, Nat.zero_le _, rfl, Lib.hid (Mod.refl _ _), Lib.hid (fun j hj => absurd hj (by omega))⟩
  case round =>
    rename World => wr
    obtain ⟨k, hk, rfl, HM, HA⟩ := hrel
    by_cases hlt : k < n
    · have hkx : k < ps.length := by have := HL.out; omega
      obtain ⟨g, o, hA, htb, hc0⟩ := (HS.out.new HM.out).2 (by omega)
      have hgl := htb.lt
      have hc := fun q (hq : q < 2) => hc0 k hkx q hq
      have hbk : b k = isPar s ps[k] := by rw [HB.out]; simp [hkx]
      have HBK := Lib.hid hbk
      clear hc0 htb hbk
      have hcall := HF.out ps[k] wr HM.out
      generalize ps[k] = y at *
      subst hA
      have hb1 : (0 : Int) ≤ k := by omega
      have hb2 : (k : Int) < n := by omega
      obtain ⟨yk, yn⟩ := y
      have b0 := hc 0 (by omega)
      have b1 := hc 1 (by omega)
      simp only [PartD.enc, Nat.add_zero, Nat.zero_add] at b0 b1
      clear hc
      simp only [PartD.val] at hcall
      generalize isPar s ⟨yk, yn⟩ = r at *
      go_wp2_with fail
      refine hcall.mono ?_
      clear hcall
      rintro e w5 ⟨rfl, m5⟩
      have HM5 := Lib.hid (HM.out.trans m5)
      clear m5
      cases r with
      | true =>
        go_wp2_with fail
        go_ret
        exact ⟨ret_int (firstP_hit hlt HBK.out HA.out).symm, HM5.out⟩
      | false =>
        go_wp2_with fail
        go_roundw
        case rel => exact ⟨k + 1, by omega, by go_num, HM5, Lib.hid (fun j hj => by
          by_cases e : j = k
          · subst e; exact HBK.out
          · exact HA.out j (by omega))⟩
        case measure => simp [intOf]; omega
    · obtain rfl : k = n := by omega
      go_wp2_with fail
      go_ret
      exact ⟨ret_int (firstP_none HA.out).symm, HM.out⟩
set_option maxHeartbeats 1000000 in
theorem containsFunc_part (F : Nat) (cp : Value) (eg : ∀ args w, (callFunc F args).run Tryz.prog w = .ok (.enter F args) w) (w : World) (A : Option Addr) (n c : Nat) (ps : List PartD) (s : ByteArray) (hs : PSl w A n ps) (hF : ParPred w F cp s) (hn : n ≤ 100000) :
    Calls Tryz.prog 81 #[.slice A n c, .func (.func F) #[] #[cp]] w fun e w' => e = .returned (.bool (hasP ps s)) ∧ New w w' := by
  have hif := indexFunc_part F cp eg w A n c ps s hs hF hn
  have hany : decide (0 ≤ firstP (fun i => (ps[i]?).any (isPar s)) n) = hasP ps s := by
    rw [firstP_any, ← hs.1]
    exact anyRange _ _
  have HA := Lib.hid hany
  clear hany hs hF eg
  generalize firstP (fun i => (ps[i]?).any (isPar s)) n = r at *
  generalize hasP ps s = q at *
  go_enter Tryz.func81, Tryz.ntmps81
  go_wp2_with (first | (refine hif.mono ?_; clear hif; rintro e w' ⟨rfl, hm⟩; have hm := Lib.hid hm))
  go_ret
  exact ⟨ret_bool HA.out, hm.out⟩

theorem Blk.new2 {w w' : World} {g : Nat} {t : TypeId} {cs : Array Value} (h : Blk w g t cs) (hm : New w w') : Blk w' g t cs := h.mod hm (fun e => e)
set_option maxHeartbeats 1000000 in
theorem route_par (p : PartD) (g : Nat) (s : ByteArray) (w : World) (hg : Blk w g 9 #[.string s]) :
    Calls Tryz.prog 130 #[p.val, .pointer (some ⟨g, 0, none⟩)] w fun e w' => e = .returned (.bool (isPar s p)) ∧ New w w' := by
  obtain ⟨pk, pn⟩ := p
  have hb := hg.new2 ((Mod.refl (fun _ => False) w).alloc (.cells #[.int .i64 pk, .string pn] 80))
  have hlt := hb.lt
  have hgl := hg.lt
  have hc := hb.cell 0
  simp only [List.getElem?_toArray, List.getElem?_cons_zero] at hc
  have hbq := str_beq pn s
  have HM : Hid (New w (w.alloc (.cells #[.int .i64 pk, .string pn] 80))) := Lib.hid ((Mod.refl _ _).alloc _)
  unfold PartD.val isPar
  simp only
  clear hb hg
  by_cases hk : pk = 1
  · subst hk
    go_enter Tryz.func130, Tryz.ntmps130
    go_wp2_with fail
    go_ret
    exact ⟨rfl, HM.out⟩
  · have hk1 : ((pk : Int) != 1) = true := by simpa using hk
    generalize decide (pn = s) = r at *
    rw [decide_eq_true hk]
    go_enter Tryz.func130, Tryz.ntmps130
    go_wp2_with fail
    all_goals go_ret
    all_goals exact ⟨ret_bool (by simp_all), HM.out⟩
theorem enters_rpar (args : Array Value) (w : World) : (callFunc 130 args).run Tryz.prog w = .ok (.enter 130 args) w := by
  go_simp
theorem enters_gpar (args : Array Value) (w : World) : (callFunc 121 args).run Tryz.prog w = .ok (.enter 121 args) w := by
  go_simp
set_option maxHeartbeats 1000000 in
theorem route_hasParam (A : Option Addr) (n c : Nat) (ps : List PartD) (s : ByteArray) (w : World) (hs : PSl w A n ps) (hn : n ≤ 100000) :
    Calls Tryz.prog 94 #[.slice A n c, .string s] w fun e w' => e = .returned (.bool (hasP ps s)) ∧ New w w' := by
  have hm : New w (w.alloc (.cells #[.string s] 9)) := (Mod.refl _ _).alloc _
  have hbk := Blk.new w 9 #[.string s]
  have hcf := containsFunc_part 130 (.pointer (some ⟨w.heap.size, 0, none⟩)) enters_rpar (w.alloc (.cells #[.string s] 9)) A n c ps s (hs.new hm) (fun p wr hw => route_par p w.heap.size s wr (hbk.new2 hw)) hn
  have HM := Lib.hid hm
  clear hs hm hbk
  go_enter Tryz.func94, Tryz.ntmps94
  go_wp2_with (first | (refine hcf.mono ?_; clear hcf; rintro e w' ⟨rfl, hm⟩; have hm := Lib.hid hm))
  go_ret
  exact ⟨rfl, HM.out.trans hm.out⟩
set_option maxHeartbeats 1000000 in
theorem ref_par (p : PartD) (g : Nat) (s : ByteArray) (w : World) (hg : Blk w g 9 #[.string s]) :
    Calls Tryz.prog 121 #[p.val, .pointer (some ⟨g, 0, none⟩)] w fun e w' => e = .returned (.bool (isPar s p)) ∧ New w w' := by
  obtain ⟨pk, pn⟩ := p
  have hb := hg.new2 ((Mod.refl (fun _ => False) w).alloc (.cells #[.int .i64 pk, .string pn] 80))
  have hlt := hb.lt
  have hgl := hg.lt
  have hc := hb.cell 0
  simp only [List.getElem?_toArray, List.getElem?_cons_zero] at hc
  have hbq := str_beq pn s
  have HM : Hid (New w (w.alloc (.cells #[.int .i64 pk, .string pn] 80))) := Lib.hid ((Mod.refl _ _).alloc _)
  unfold PartD.val isPar
  simp only
  clear hb hg
  by_cases hk : pk = 1
  · subst hk
    go_enter Tryz.func121, Tryz.ntmps121
    go_wp2_with fail
    go_ret
    exact ⟨rfl, HM.out⟩
  · have hk1 : ((pk : Int) != 1) = true := by simpa using hk
    generalize decide (pn = s) = r at *
    rw [decide_eq_true hk]
    go_enter Tryz.func121, Tryz.ntmps121
    go_wp2_with fail
    all_goals go_ret
    all_goals exact ⟨ret_bool (by simp_all), HM.out⟩
set_option maxHeartbeats 1000000 in
theorem ref_hasParam (A : Option Addr) (n c : Nat) (ps : List PartD) (s : ByteArray) (w : World) (hs : PSl w A n ps) (hn : n ≤ 100000) :
    Calls Tryz.prog 83 #[.slice A n c, .string s] w fun e w' => e = .returned (.bool (hasP ps s)) ∧ New w w' := by
  have hm : New w (w.alloc (.cells #[.string s] 9)) := (Mod.refl _ _).alloc _
  have hbk := Blk.new w 9 #[.string s]
  have hcf := containsFunc_part 121 (.pointer (some ⟨w.heap.size, 0, none⟩)) enters_gpar (w.alloc (.cells #[.string s] 9)) A n c ps s (hs.new hm) (fun p wr hw => ref_par p w.heap.size s wr (hbk.new2 hw)) hn
  have HM := Lib.hid hm
  clear hs hm hbk
  go_enter Tryz.func83, Tryz.ntmps83
  go_wp2_with (first | (refine hcf.mono ?_; clear hcf; rintro e w' ⟨rfl, hm⟩; have hm := Lib.hid hm))
  go_ret
  exact ⟨rfl, HM.out.trans hm.out⟩

end Go.Proofs.YtnbcfpjalgfikaaGreatDoor

namespace Go.Proofs.YtnbcfpjalgfikaaGreatDoor
open Go.RowKit
set_option linter.unusedVariables false
set_option linter.unusedSimpArgs false

def PPredQ (w : World) (F : Nat) (cp : Value) (f : PartD → Bool) : Prop :=
  ∀ (p : PartD) wr, New w wr → Calls Tryz.prog F #[p.val, cp] wr fun e w' => e = .returned (.bool (f p)) ∧ New wr w'
set_option maxHeartbeats 1000000 in
theorem indexFunc_partQ (F : Nat) (cp : Value) (eg : ∀ args w, (callFunc F args).run Tryz.prog w = .ok (.enter F args) w) (w : World) (A : Option Addr) (n c : Nat) (ps : List PartD) (f : PartD → Bool) (hs : PSl w A n ps) (hF : PPredQ w F cp f) (hn : n ≤ 100000) :
    Calls Tryz.prog 120 #[.slice A n c, .func (.func F) #[] #[cp]] w fun e w' => e = .returned (.int .i64 (firstP (fun i => (ps[i]?).any (f)) n)) ∧ New w w' := by
  have HS := Lib.hid hs
  have HF := Lib.hid hF
  have HL := Lib.hid hs.1
  obtain ⟨b, hb⟩ : ∃ b : Nat → Bool, b = (fun i => (ps[i]?).any (f)) := ⟨_, rfl⟩
  rw [← hb]
  have HB := Lib.hid hb
  clear hs hF hb
  go_enter Tryz.func120, Tryz.ntmps120
  go_wp2_with fail
  go_loopw [8] (fun i wr => ∃ k : Nat, k ≤ n ∧ i = .int .i64 k ∧ Hid (New w wr) ∧ Hid (∀ j, j < k → b j = false)) (fun i _ => n - (intOf i).toNat)
  case atStart => exact ⟨0, Nat.zero_le _, rfl, Lib.hid (Mod.refl _ _), Lib.hid (fun j hj => absurd hj (by omega))⟩
  case round =>
    rename World => wr
    obtain ⟨k, hk, rfl, HM, HA⟩ := hrel
    by_cases hlt : k < n
    · have hkx : k < ps.length := by have := HL.out; omega
      obtain ⟨g, o, hA, htb, hc0⟩ := (HS.out.new HM.out).2 (by omega)
      have hgl := htb.lt
      have hc := fun q (hq : q < 2) => hc0 k hkx q hq
      have hbk : b k = f ps[k] := by rw [HB.out]; simp [hkx]
      have HBK := Lib.hid hbk
      clear hc0 htb hbk
      have hcall := HF.out ps[k] wr HM.out
      generalize ps[k] = y at *
      subst hA
      have hb1 : (0 : Int) ≤ k := by omega
      have hb2 : (k : Int) < n := by omega
      obtain ⟨yk, yn⟩ := y
      have b0 := hc 0 (by omega)
      have b1 := hc 1 (by omega)
      simp only [PartD.enc, Nat.add_zero, Nat.zero_add] at b0 b1
      clear hc
      simp only [PartD.val] at hcall
      generalize f ⟨yk, yn⟩ = r at *
      go_wp2_with fail
      refine hcall.mono ?_
      clear hcall
      rintro e w5 ⟨rfl, m5⟩
      have HM5 := Lib.hid (HM.out.trans m5)
      clear m5
      cases r with
      | true =>
        go_wp2_with fail
        go_ret
        exact ⟨ret_int (firstP_hit hlt HBK.out HA.out).symm, HM5.out⟩
      | false =>
        go_wp2_with fail
        go_roundw
        case rel => exact ⟨k + 1, by omega, by go_num, HM5, Lib.hid (fun j hj => by
          by_cases e : j = k
          · subst e; exact HBK.out
          · exact HA.out j (by omega))⟩
        case measure => simp [intOf]; omega
    · obtain rfl : k = n := by omega
      go_wp2_with fail
      go_ret
      exact ⟨ret_int (firstP_none HA.out).symm, HM.out⟩
set_option maxHeartbeats 1000000 in
theorem containsFunc_partQ (F : Nat) (cp : Value) (eg : ∀ args w, (callFunc F args).run Tryz.prog w = .ok (.enter F args) w) (w : World) (A : Option Addr) (n c : Nat) (ps : List PartD) (f : PartD → Bool) (hs : PSl w A n ps) (hF : PPredQ w F cp f) (hn : n ≤ 100000) :
    Calls Tryz.prog 81 #[.slice A n c, .func (.func F) #[] #[cp]] w fun e w' => e = .returned (.bool (ps.any f)) ∧ New w w' := by
  have hif := indexFunc_partQ F cp eg w A n c ps f hs hF hn
  have hany : decide (0 ≤ firstP (fun i => (ps[i]?).any (f)) n) = ps.any f := by
    rw [firstP_any, ← hs.1]
    exact anyRange _ _
  have HA := Lib.hid hany
  clear hany hs hF eg
  generalize firstP (fun i => (ps[i]?).any (f)) n = r at *
  generalize ps.any f = q at *
  go_enter Tryz.func81, Tryz.ntmps81
  go_wp2_with (first | (refine hif.mono ?_; clear hif; rintro e w' ⟨rfl, hm⟩; have hm := Lib.hid hm))
  go_ret
  exact ⟨ret_bool HA.out, hm.out⟩

end Go.Proofs.YtnbcfpjalgfikaaGreatDoor
