/- The bytes that a text's units stand for (gateref2.bytesOf); append of a text onto bytes of one's own. Conditions: a text of modest size; the library's variable ErrSyntax holds an error or nil. -/
import Derived.Test.YtjehlecgnepgmaaGreatDoorUnits
import Derived.Test.YtjehlecgnepgmaaGreatDoorTplR1Grp
import Derived.Lib.AppendStr
namespace Go.Proofs.YtjehlecgnepgmaaGreatDoor
open Go.RowKit
set_option linter.unusedVariables false
set_option linter.unusedSimpArgs false

theorem strCells_enc (s : ByteArray) : Lib.strCells s = s.data.toList.flatMap (encL 1 bEnc) := by
  unfold Lib.strCells
  rw [List.flatMap_def]
  induction s.data.toList with
  | nil => rfl
  | cons c l ih => simp only [List.map_cons, List.flatten_cons]; rw [← ih]; rfl
/-- append of a text's bytes -/
theorem wpList_pushStr {ops : Array Oper} {rest : List Oper} {o : Oper} {a : Act} {w : World} {Q : Exit → Act → World → Prop} {B : Nat} {A : Option Addr} {n c : Nat} {l : List UInt8} (hgd : o.guard = none) (sl x : Operand)
    (ho : o.op = .call { callee := .builtin .append, args := #[sl, x], argTypes := #[67, 9] }) (hs : a.eval sl = .slice A n c) (hown : Own w B 5 1 bEnc A n c l) (s : ByteArray) (hx : a.eval x = .string s)
    (hn : n + s.size ≤ 1000000) (hB : B ≤ w.heap.size)
    (h : ∀ A' c' w', Own w' B 5 1 bEnc A' (n + s.size) c' (l ++ s.data.toList) → Mod (fun k => blkOf A = some k) w w' → wpList Tryz.prog ops Q rest (a.put o.dst (.slice A' (n + s.size) c')) w') : wpList Tryz.prog ops Q (o :: rest) a w := by
  obtain ⟨i, z, hi0, hz, hsz, hby, hzs, h0⟩ := einfo_byte
  have hz' : i.zero = some (.int .u8 0) := by
    have e : (Tryz.prog.info? 5).map (fun i => i.zero) = some (some (.int .u8 0)) := by kernel_rfl
    rw [hi0] at e
    simpa using e
  refine Lib.wpList_append_own_string (P := Tryz.prog) w hgd sl x 67 9 ho B 5 i Tryz.underlying67 Tryz.underlying9 hi0 hz' hsz hby _ n _ hs hown.2 s hx (by unfold maxLen; omega) (by omega) hB ?_
  intro v' w' hown' hg _
  rw [ownBlock_eq] at hg
  have hm : Mod (fun k => blkOf A = some k) w w' := (Mod.refl (fun k => blkOf A = some k) w).grown hg (fun k e => .inl e)
  have hl : (l ++ s.data.toList).length = n + s.size := by rw [List.length_append, hown.1]; rfl
  rw [strCells_enc, ← List.flatMap_append] at hown'
  rcases hown'.2 with ⟨rfl, hz0⟩ | ⟨g, cap, cur, rfl, hr⟩
  · have e : n + s.size = 0 := hz0
    have hh := h none 0 w' ⟨hl, by rw [e]; rw [e] at hown'; exact hown'⟩ hm
    rw [e] at hh
    exact hh
  · exact h _ _ w' ⟨hl, hown'⟩ hm

set_option maxRecDepth 100000 in
set_option maxHeartbeats 1000000 in
theorem ref2_bytesOf (s : ByteArray) (w : World) (hs : s.size ≤ 300000) (he : ErrSyn w) :
    Calls Tryz.prog 89 #[.string s] w fun e w' => e = .returned (.string (decB s)) ∧ New w w' := by
  have hu := ref2_units s w hs he
  have HD : Hid (decB s = ⟨(((unitsL s.data.toList).getD []).map Prod.fst).toArray⟩) := Lib.hid (by
    unfold decB
    rw [decL_units _ _ (Nat.le_refl _)]
    cases unitsL s.data.toList <;> rfl)
  have hul : ((unitsL s.data.toList).getD []).length ≤ 300000 := by
    cases h : unitsL s.data.toList with
    | none => simp
    | some u =>
      have := unitsL_length _ _ u (Nat.le_refl _) h
      have e : s.data.toList.length = s.size := rfl
      simp only [Option.getD_some]
      omega
  generalize unitsL s.data.toList = q at *
  unfold RUnits at hu
  generalize q.getD [] = us at *
  go_enter Tryz.func89, Tryz.ntmps89
  go_wp2_with fail
  refine hu.mono ?_
  clear hu
  rintro e w1 ⟨A, n, c, rfl, hsl, hm, hn9⟩
  have HUS := Lib.hid hsl
  have HM := Lib.hid hm
  have hnl : us.length = n := hsl.1
  obtain ⟨BB, hBB⟩ : ∃ BB, BB = w1.heap.size := ⟨_, rfl⟩
  have HBW : Hid (w.heap.size ≤ BB) := Lib.hid (by rw [hBB]; exact hm.size)
  have HW1 : Hid (New w1 w1) := Lib.hid (Mod.refl _ _)
  have hB1 : BB ≤ w1.heap.size := by omega
  have HNL := Lib.hid hnl
  have hn3 : n ≤ 300000 := by omega
  clear hsl hm hnl hul
  go_wp2_with fail
  go_loopw [5, 15] (fun o i wr => ∃ (k : Nat) (A' : Option Addr) (c' : Nat), k ≤ n ∧ i = .int .i64 k ∧ o = .slice A' k c' ∧ Hid (Own wr BB 5 1 bEnc A' k c' ((us.map Prod.fst).take k)) ∧ Hid (New w1 wr) ∧ BB ≤ wr.heap.size) (fun _ i _ => n - (intOf i).toNat)
  case atStart => exact ⟨0, none, 0, Nat.zero_le _, rfl, rfl, Lib.hid (by rw [List.take_zero]; exact Own.nil), HW1, hB1⟩
  case round =>
    clear HW1 hB1
    rename World => wr
    obtain ⟨k, A', c', hk, rfl, rfl, HO, HW, hBw⟩ := hrel
    by_cases hlt : k < n
    · have hkl : k < us.length := by have := HNL.out; omega
      obtain ⟨g, o, hA, ht, hc⟩ := (HUS.out.new HW.out).2 (by omega)
      subst hA
      have a0 := hc k hkl 0 (by omega)
      have a1 := hc k hkl 1 (by omega)
      have hgl := ht.lt
      have htk : (us.map Prod.fst).take (k + 1) = (us.map Prod.fst).take k ++ [us[k].1] := by
        rw [List.take_succ_eq_append_getElem (by simpa using hkl)]
        simp
      have hb1 : (0 : Int) ≤ k := by omega
      have hb2 : (k : Int) < n := by omega
      clear hc ht
      generalize us[k] = x at *
      obtain ⟨xc, xp⟩ := x
      simp only [unitEnc, Nat.add_zero] at a0 a1
      simp only at htk
      have HTK := Lib.hid htk
      have hbx := Blk.new wr 135 #[.int .u8 (xc.toNat : Int), .bool xp]
      have hmx : New wr (wr.alloc (.cells #[.int .u8 (xc.toNat : Int), .bool xp] 135)) := (Mod.refl _ _).alloc _
      have HOA := Lib.hid (HO.out.new hmx)
      have HWA := Lib.hid (HW.out.trans hmx)
      have HOF : Hid (∀ g', blkOf A' = some g' → BB ≤ g') := Lib.hid (fun g' e => HO.out.farS g' e)
      have hza := hmx.size
      clear htk hmx HO HW hbx
      go_upto_region 6 with fail
      have p0 : (wr.alloc (.cells #[.int .u8 (xc.toNat : Int), .bool xp] 135)).cell? ⟨wr.heap.size, 0, none⟩ = some (.int .u8 (xc.toNat : Int)) := (Blk.new wr 135 #[.int .u8 (xc.toNat : Int), .bool xp]).cell 0
      have pl := (Blk.new wr 135 #[.int .u8 (xc.toNat : Int), .bool xp]).lt
      generalize wr.alloc (.cells #[.int .u8 (xc.toNat : Int), .bool xp] 135) = wA at *
      generalize wr.heap.size = xb at *
      have hBq : BB ≤ (wA.alloc (.cells #[.int .u8 (xc.toNat : Int)] 5)).heap.size := by simp; omega
      have HOB := HOA.out.alloc (.cells #[.int .u8 (xc.toNat : Int)] 5)
      have hBn := Blk.new wA 5 #[.int .u8 (xc.toNat : Int)]
      go_wp2_with (at_builtin; refine wpList_push rfl _ _ _ rfl 1 Tryz.underlying67 einfo_byte rfl HOB xc wA.heap.size rfl hBn (fun j hj => bEnc_one _ j hj) (by omega) (by omega) hBq ?_; intro g8 cap8 w8 own8 hm8 hat8 hlt8)
      have HO8 : Hid (Own w8 BB 5 1 bEnc (some ⟨g8, 0, none⟩) (k + 1) cap8 ((us.map Prod.fst).take (k + 1))) := Lib.hid (by rw [HTK.out]; exact own8)
      have HW8 : Hid (New w1 w8) := Lib.hid ((HWA.out.alloc (.cells #[.int .u8 (xc.toNat : Int)] 5)).step hm8 (fun i hi e => by have := HOF.out i e; omega))
      have hB8 : BB ≤ w8.heap.size := by have := hm8.size; omega
      clear own8 hm8
      go_roundw
      case rel => exact ⟨k + 1, some ⟨g8, 0, none⟩, cap8, by omega, by go_num, rfl, HO8, HW8, hB8⟩
      case measure => simp [intOf]; omega
    · obtain rfl : k = n := by omega
      have hfull : (us.map Prod.fst).take k = us.map Prod.fst := List.take_of_length_le (by have := HNL.out; simp; omega)
      have ho := HO.out
      rw [hfull] at ho
      have hcv := own_string ho
      have HN : Hid (New w wr) := Lib.hid (HM.out.trans HW.out)
      clear ho hfull
      go_wp2_with fail
      go_ret
      exact ⟨by rw [HD.out]; rfl, HN.out⟩

end Go.Proofs.YtjehlecgnepgmaaGreatDoor
