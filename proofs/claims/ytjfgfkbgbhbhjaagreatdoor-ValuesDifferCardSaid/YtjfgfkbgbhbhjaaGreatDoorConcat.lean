/- slices.Grow of no members, slices.Concat of two rows of members. Conditions: at most 100000 members. -/
import Derived.Test.YtjfgfkbgbhbhjaaGreatDoorDRef0Grp
import Derived.Lib.AppendZerosOnto
namespace Go.Proofs.YtjfgfkbgbhbhjaaGreatDoor
open Go.RowKit
set_option linter.unusedVariables false
set_option linter.unusedSimpArgs false

theorem wpList_pushRow {α : Type} {w : World} {B : Nat} {t : TypeId} {sz : Nat} {enc : α → Nat → Value} {A : Option Addr} {n c : Nat} {xs : List α} {P : Program} {ops : Array Oper} {rest : List Oper} {o : Oper} {a : Act} {Q : Exit → Act → World → Prop} (hgd : o.guard = none) (s x : Operand) (ts : TypeId)
    (ho : o.op = .call { callee := .builtin .append, args := #[s, x], argTypes := #[ts, ts] }) (bytes : Nat) (ht : P.underlying ts = some (.slice t)) (hi : EInfo P t sz bytes)
    (hs : a.eval s = .slice A n c) (hown : Own w B t sz enc A n c xs) (ys : List α) (Ax : Option Addr) (m cm : Nat) (hx : a.eval x = .slice Ax m cm) (hy : Sl w t sz enc Ax m ys)
    (h1 : ∀ y ∈ ys, ∀ j, j < sz → (enc y j).oneCell' = true) (hn : n + m < 1000000) (hbytes : bytes ≤ 1000000) (hB : B ≤ w.heap.size)
    (h : ∀ A' cap w', Own w' B t sz enc A' (n + m) cap (xs ++ ys) → Mod (fun k => blkOf A = some k) w w' → (∀ g, blkOf A' = some g → blkOf A = some g ∨ w.heap.size ≤ g) →
      wpList P ops Q rest (a.put o.dst (.slice A' (n + m) cap)) w') : wpList P ops Q (o :: rest) a w :=
  wpList_plain hgd fun K hK => wp_pushRow s x ts ho bytes ht hi hs hown ys Ax m cm hx hy h1 hn hbytes hB (fun A' cap w' h2 h3 h4 => hK _ _ (h A' cap w' h2 h3 h4))
def RGrow0 (w : World) (e : Ending) (w' : World) : Prop := ∃ (A : Option Addr) (c : Nat), e = .returned (.slice A 0 c) ∧ Own w' w.heap.size 54 7 MA.enc A 0 c [] ∧ New w w'
set_option maxHeartbeats 1000000 in
theorem grow_nil (k : Nat) (w : World) (hk : k ≤ 200000) : Calls Tryz.prog 71 #[.slice none 0 0, .int .i64 (k : Int)] w (RGrow0 w) := by
  rcases Nat.eq_zero_or_pos k with h0 | h0
  · subst h0
    go_enter Tryz.func71, Tryz.ntmps71
    go_wp2_with fail
    go_ret
    exact ⟨none, 0, rfl, Own.nil, Mod.refl _ _⟩
  · obtain ⟨i, z, hi0, hz, hsz, hby, hzs, h00⟩ := einfo_mem
    have hold : (Builtin.firstCells i.size 0 (.slice none 0 0)).run Tryz.prog w.drew = .ok ([] : List Value).toArray w.drew := by
      simp [Builtin.firstCells]
    have h := fun ty => Lib.run_append_grow_zeros w 27 3 ty 54 i z .i64 .i64 (Tryz.underlying27) Tryz.underlying3 hi0 hz none 0 0 [] hold k h0 (by omega) (by omega) (by omega) (by rw [hby]; omega) (by rw [hby]; exact growslice_fits (by omega) (by omega))
    have hGm := grownCap_le_maxLen w (0 + k) 0 54 (by unfold maxLen; omega)
    have hGn : 0 + k ≤ grownCap w (0 + k) 0 54 := grownCap_ge w _ _ _
    generalize grownCap w (0 + k) 0 54 = G at *
    simp only [Nat.zero_add] at h hGn
    obtain ⟨R, hR⟩ : ∃ R : Array Value, R = (([] : List Value).toArray ++ Builtin.zeroCells z.cells k ++ Builtin.zeroCells z.cells (G - k)) := ⟨_, rfl⟩
    rw [← hR] at h
    have hRs : R.size = G * 7 := by
      rw [hR]
      simp only [Array.size_append, List.size_toArray, List.length_nil, Builtin.zeroCells, Array.size_map, Array.size_range, hzs]
      omega
    have hm : New w (w.drew.alloc (.cells R 54)) := ((Mod.refl _ w).drew).alloc _
    have hb : Blk (w.drew.alloc (.cells R 54)) w.heap.size 54 R := Blk.new' (w := w.drew) _ _ rfl
    have HOWN : Hid (Own (w.drew.alloc (.cells R 54)) w.heap.size 54 7 MA.enc (some ⟨w.heap.size, 0, none⟩) 0 G []) := Lib.hid (Own.of_row hb (Nat.le_refl _) (by omega) hGm hRs rfl (by simp))
    have HM := Lib.hid hm
    have hk1 : (0 : Int) < k := by omega
    have hG0 : 0 ≤ G := by omega
    have hGG : (G : Int) ≤ 9223372036854775807 := by unfold maxLen at hGm; omega
    clear hR hm hb hold hi0 hz hsz hby hzs h00 hRs
    go_enter Tryz.func71, Tryz.ntmps71
    go_wp2_with (at_builtin; refine wpList_append_by2 rfl _ _ 27 3 rfl rfl rfl h ?_)
    go_ret
    exact ⟨_, G, rfl, HOWN.out, HM.out⟩
/-- how many of the first k rows -/
def catL (xs ys : List MA) (k : Nat) : List MA := if k = 0 then [] else if k = 1 then xs else xs ++ ys
def RConcat (w : World) (n : Nat) (xs : List MA) (e : Ending) (w' : World) : Prop := ∃ (A : Option Addr) (c : Nat), e = .returned (.slice A n c) ∧ Own w' w.heap.size 54 7 MA.enc A n c xs ∧ New w w'
set_option maxHeartbeats 1000000 in
theorem concat_ma (A1 A2 : Option Addr) (n1 n2 c1 c2 gb : Nat) (xs ys : List MA) (w : World) (hb : Blk w gb 27 #[.slice A1 n1 c1, .slice A2 n2 c2]) (h1 : Sl w 54 7 MA.enc A1 n1 xs) (h2 : Sl w 54 7 MA.enc A2 n2 ys) (hn1 : n1 ≤ 100000) (hn2 : n2 ≤ 100000) :
    Calls Tryz.prog 40 #[.slice (some ⟨gb, 0, none⟩) 2 2] w (RConcat w (n1 + n2) (xs ++ ys)) := by
  have HB := Lib.hid hb
  have H1 := Lib.hid h1
  have H2 := Lib.hid h2
  have HGR := Lib.hid (fun W => grow_nil (n1 + n2) W (by omega))
  clear hb h1 h2
  go_enter Tryz.func40, Tryz.ntmps40
  go_wp2_with fail
  go_loopw [11, 3] (fun i s wr => ∃ k : Nat, k ≤ 2 ∧ i = .int .i64 k ∧ s = .int .i64 ((if k = 0 then 0 else if k = 1 then n1 else n1 + n2 : Nat) : Int) ∧ Hid (New w wr)) (fun i _ _ => 2 - (intOf i).toNat)
  case atStart => exact ⟨0, by omega, rfl, rfl, Lib.hid (Mod.refl _ _)⟩
  case round =>
    rename World => wr
    obtain ⟨k, hk, rfl, rfl, HM⟩ := hrel
    have hbb := HB.out.mod HM.out (fun e => e)
    have b0 := hbb.cell 0
    have b1 := hbb.cell 1
    have bl := hbb.lt
    simp only [List.getElem?_toArray, List.getElem?_cons_zero, List.getElem?_cons_succ] at b0 b1
    clear hbb
    by_cases hlt : k < 2
    · obtain rfl | rfl : k = 0 ∨ k = 1 := by omega
      · have hb1 : ¬ (n1 : Int) < 0 := by omega
        go_wp2_with fail
        go_roundw
        case rel => exact ⟨1, by omega, by go_num, by simp, HM⟩
        case measure => first | (simp [intOf]; done) | (simp [intOf]; omega)
      · have hb1 : ¬ (n1 : Int) + (n2 : Int) < 0 := by omega
        go_wp2_with fail
        go_roundw
        case rel => exact ⟨2, by omega, by go_num, by simp, HM⟩
        case measure => first | (simp [intOf]; done) | (simp [intOf]; omega)
    · obtain rfl : k = 2 := by omega
      clear b0 b1 bl
      have hgr := HGR.out wr
      rw [Int.natCast_add] at hgr
      simp only [Nat.succ_ne_zero, if_false, Nat.reduceEqDiff]
      go_wp2_with fail
      refine hgr.mono ?_
      clear hgr
      rintro e w5 ⟨A5, c5, rfl, own5, m5⟩
      have HM5 := Lib.hid (HM.out.trans m5)
      have HO5 := Lib.hid (own5.less HM.out.size)
      have hle5 : w.heap.size ≤ w5.heap.size := (HM.out.trans m5).size
      have HLE5 := Lib.hid hle5
      clear own5 m5 hle5 HM HGR
      go_wp2_with fail
      go_loopw [27, 6] (fun i s wr => ∃ (k : Nat) (Aq : Option Addr) (cq : Nat), k ≤ 2 ∧ i = .int .i64 k ∧ s = .slice Aq (catL xs ys k).length cq ∧ Hid (Own wr w.heap.size 54 7 MA.enc Aq (catL xs ys k).length cq (catL xs ys k)) ∧ Hid (New w wr)) (fun i _ _ => 2 - (intOf i).toNat)
      case atStart => exact ⟨0, A5, c5, by omega, rfl, rfl, HO5, HM5⟩
      clear HO5 HM5
      case round =>
        rename World => wr
        obtain ⟨k, Aq, cq, hk, rfl, rfl, HO, HM⟩ := hrel
        have hbb := HB.out.mod HM.out (fun e => e)
        have b0 := hbb.cell 0
        have b1 := hbb.cell 1
        have bl := hbb.lt
        simp only [List.getElem?_toArray, List.getElem?_cons_zero, List.getElem?_cons_succ] at b0 b1
        clear hbb
        have hx1 := H1.out.1
        have hx2 := H2.out.1
        have hrow := HO.out
        have hle : w.heap.size ≤ wr.heap.size := HM.out.size
        by_cases hlt : k < 2
        · obtain rfl | rfl : k = 0 ∨ k = 1 := by omega
          · simp only [show catL xs ys 0 = [] from rfl, List.length_nil] at hrow ⊢
            have hsl := H1.out.new HM.out
            go_wp2_with (at_builtin; refine wpList_pushRow rfl _ _ _ rfl 104 Tryz.underlying27 einfo_mem rfl hrow xs A1 n1 c1 rfl hsl (fun y _ j hj => MA.one y j hj) (by omega) (by omega) hle ?_; intro A9 cap9 w9 own9 hm9 hat9; have HO9 := Lib.hid own9; have HM9 := Lib.hid hm9; clear own9 hm9 hat9 hrow hsl)
            go_roundw
            case rel => exact ⟨1, A9, cap9, by omega, by go_num, by rw [show catL xs ys 1 = xs from rfl, hx1], Lib.hid (by rw [show catL xs ys 1 = xs from rfl, hx1]; have h := HO9.out; rw [Nat.zero_add, List.nil_append] at h; exact h), Lib.hid (HM.out.step HM9.out (fun i hi e => by have := (HO.out.tbO _ e).2; omega))⟩
            case measure => first | (simp [intOf]; done) | (simp [intOf]; omega)
          · simp only [show catL xs ys 1 = xs from rfl] at hrow ⊢
            have hsl := H2.out.new HM.out
            have hxl : xs.length ≤ 100000 := by omega
            clear hx1
            go_wp2_with (at_builtin; refine wpList_pushRow rfl _ _ _ rfl 104 Tryz.underlying27 einfo_mem rfl hrow ys A2 n2 c2 rfl hsl (fun y _ j hj => MA.one y j hj) (by omega) (by omega) hle ?_; intro A9 cap9 w9 own9 hm9 hat9; have HO9 := Lib.hid own9; have HM9 := Lib.hid hm9; clear own9 hm9 hat9 hrow hsl)
            go_roundw
            case rel => exact ⟨2, A9, cap9, by omega, by go_num, by rw [show catL xs ys 2 = xs ++ ys from rfl, List.length_append, hx2], Lib.hid (by rw [show catL xs ys 2 = xs ++ ys from rfl, List.length_append, hx2]; exact HO9.out), Lib.hid (HM.out.step HM9.out (fun i hi e => by have := (HO.out.tbO _ e).2; omega))⟩
            case measure => first | (simp [intOf]; done) | (simp [intOf]; omega)
        · obtain rfl : k = 2 := by omega
          clear b0 b1 bl
          go_wp2_with fail
          go_ret
          have e : (catL xs ys 2).length = n1 + n2 := by rw [show catL xs ys 2 = xs ++ ys from rfl, List.length_append, hx1, hx2]
          have h := HO.out
          rw [e] at h
          refine ⟨Aq, cq, ?_, h, HM.out⟩
          show Ending.returned (.slice Aq (catL xs ys 2).length cq) = _
          rw [e]
end Go.Proofs.YtjfgfkbgbhbhjaaGreatDoor
