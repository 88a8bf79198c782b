/- The headers of limits as data, and the small functions that both sides use. No conditions beside those of strconv's table. -/
import Derived.Test.YtinnckbffblecaaDoorLimsMake
import Derived.Test.YtinnckbffblecaaDoorBucket
import Derived.Test.YtinnckbffblecaaDoorLimited
import Derived.Test.YtinnckbffblecaaDoorShelf
import Derived.Lib.LaidTab
import Derived.Lib.ItoaLen
namespace Go.Proofs.YtinnckbffblecaaDoor
open Go.RowKit
set_option linter.unusedVariables false
set_option linter.unusedSimpArgs false

/-- strconv's table of powers of ten lies as its initialiser lays it -/
def Pow10 (w : World) : Prop := Lib.TabIs Tryd.prog w "internal/strconv.uint64pow10" .u64 Lib.pow10Tab
theorem Pow10.new {w w' : World} (h : Pow10 w) (hm : New w w') : Pow10 w' := by
  unfold Pow10 Lib.TabIs World.var? at *
  cases hg : Tryd.prog.globalNamed "internal/strconv.uint64pow10" with
  | none => rw [hg] at h; simp at h
  | some g =>
    rw [hg] at h
    simp only [Option.bind_some] at h ⊢
    have hlt : g < w.heap.size := by
      rcases Nat.lt_or_ge g w.heap.size with hlt | hge
      · exact hlt
      · rw [Array.getElem?_eq_none hge] at h; simp at h
    rw [hm.block g hlt (fun e => e)]
    exact h

theorem New.grow (w : World) (k : Nat) (os : Array Obj) : New w (Sort.grow (w.drewN k) os) :=
  ⟨rfl, rfl, rfl, by rw [Sort.size_grow]; exact Nat.le_add_right _ _, fun i hi _ => Sort.heap_grow_old (w.drewN k) os hi⟩

def itoaB (n : Int) : ByteArray := ⟨(Lib.itoa n).toArray⟩
theorem itoa_any (n : Int) (h : I64 n) (w : World) (ht : Pow10 w) : Calls Tryd.prog 21 #[.int .i64 n] w fun e w' => e = .returned (.string (itoaB n)) ∧ New w w' :=
  (Tryd.strconv_Itoa n h.1 h.2 w ht).mono (by rintro e w' ⟨rfl, k, os, rfl⟩; exact ⟨rfl, New.grow w k os⟩)

def kindWord (k : Int) : ByteArray := if k = 1 then ⟨#[119, 105, 110, 100, 111, 119]⟩ else if k = 2 then ⟨#[115, 108, 105, 100, 105, 110, 103]⟩ else if k = 3 then ⟨#[98, 117, 99, 107, 101, 116]⟩ else ⟨#[111, 110, 99, 101]⟩
theorem itoaB_size {n : Int} (h : I64 n) : (itoaB n).size ≤ 21 := Lib.itoa_length_le n h.1 h.2
theorem kindWord_size (k : Int) : (kindWord k).size ≤ 7 := by unfold kindWord; split <;> (try split) <;> (try split) <;> decide
structure HdD where
  name : ByteArray
  value : ByteArray
def HdD.enc (h : HdD) : Nat → Value
  | 0 => .string h.name
  | 1 => .string h.value
  | _ => .nilFunc
theorem HdD.one (h : HdD) (j : Nat) (hj : j < 2) : (h.enc j).oneCell' = true := by
  obtain rfl | rfl : j = 0 ∨ j = 1 := by omega
  all_goals rfl
theorem einfo_hd : EInfo Tryd.prog 41 2 32 := EInfo.of (z := .agg #[.string ⟨#[]⟩, .string ⟨#[]⟩]) (by kernel_rfl) rfl (by decide)

abbrev wordsCs : Array Value := #[.string ⟨#[]⟩, .string ⟨#[119, 105, 110, 100, 111, 119]⟩, .string ⟨#[115, 108, 105, 100, 105, 110, 103]⟩, .string ⟨#[98, 117, 99, 107, 101, 116]⟩, .string ⟨#[111, 110, 99, 101]⟩]
theorem kindWords_any (w : World) : Calls Tryd.prog 20 #[] w fun e w' => e = .returned (.slice (some ⟨w.heap.size, 0, none⟩) 5 5) ∧ w' = w.alloc (.cells wordsCs 9) := by
  go_enter Tryd.func20, Tryd.ntmps20
  go_wp2_with fail
  go_ret
  exact ⟨rfl, rfl⟩
theorem words_at {w : World} {g : Nat} (h : Blk w g 9 wordsCs) {k : Int} (h1 : 1 ≤ k) (h4 : k ≤ 4) : w.cell? ⟨g, k.toNat, none⟩ = some (.string (kindWord k)) := by
  obtain rfl | rfl | rfl | rfl : k = 1 ∨ k = 2 ∨ k = 3 ∨ k = 4 := by omega
  · exact (h.cell 1).trans rfl
  · exact (h.cell 2).trans rfl
  · exact (h.cell 3).trans rfl
  · exact (h.cell 4).trans rfl
theorem kindWord_any (k : Int) (h1 : 1 ≤ k) (h4 : k ≤ 4) (w : World) : Calls Tryd.prog 27 #[.int .i64 k] w fun e w' => e = .returned (.string (kindWord k)) ∧ w' = w.alloc (.cells wordsCs 9) := by
  obtain rfl | rfl | rfl | rfl : k = 1 ∨ k = 2 ∨ k = 3 ∨ k = 4 := by omega
  all_goals go_enter Tryd.func27, Tryd.ntmps27
  all_goals go_wp2_with fail
  all_goals go_ret
  all_goals exact ⟨rfl, rfl⟩

theorem lines1 (l : Lim) (vb : Nat) (v : VerdictD) (w : World) (h : Blk w vb 31 #[.bool v.ok, .string v.by_, .int .i64 v.wait]) :
    Calls Tryd.prog 18 #[l.val, .pointer (some ⟨vb, 0, none⟩)] w fun e w' => e = .returned (.bool (l.key.toList == v.by_.toList)) ∧ New w w' := by
  have c1 := h.cell 1
  simp at c1
  have hl := h.lt
  unfold Lim.val
  go_enter Tryd.func18, Tryd.ntmps18
  go_wp2_with fail
  go_ret
  exact ⟨rfl, (Mod.refl _ _).alloc _⟩
theorem enters_lines1 (args : Array Value) (w : World) : (callFunc 18 args).run Tryd.prog w = .ok (.enter 18 args) w := by
  go_simp

def hasL (ls : List Lim) (v : VerdictD) : Bool := ls.any fun l => l.key.toList == v.by_.toList
theorem hasL_yes {ls : List Lim} {v : VerdictD} {k : Nat} (hk : k < ls.length) (h : (ls[k].key.toList == v.by_.toList) = true) : hasL ls v = true :=
  List.any_eq_true.2 ⟨ls[k], List.getElem_mem _, h⟩
theorem hasL_no {ls : List Lim} {v : VerdictD} (h : ∀ j (hj : j < ls.length), (ls[j].key.toList == v.by_.toList) = false) : hasL ls v = false := by
  unfold hasL
  rw [List.any_eq_false]
  intro x hx
  obtain ⟨i, hi, rfl⟩ := List.getElem_of_mem hx
  rw [h i hi]; simp

set_option maxHeartbeats 1000000 in
theorem indexFunc_lim (w : World) (A : Option Addr) (n c : Nat) (ls : List Lim) (hs : LimRows w A n ls) (vb : Nat) (v : VerdictD) (h : Blk w vb 31 #[.bool v.ok, .string v.by_, .int .i64 v.wait]) (hn : n ≤ 1000000) :
    Calls Tryd.prog 32 #[.slice A n c, .func (.func 18) #[] #[.pointer (some ⟨vb, 0, none⟩)]] w fun e w' => ∃ r : Int, e = .returned (.int .i64 r) ∧ decide (0 ≤ r) = hasL ls v ∧ New w w' := by
  have hlen := hs.1
  have HS := Lib.hid hs
  have HB := Lib.hid h
  have eg := enters_lines1
  clear hs h
  go_enter Tryd.func32, Tryd.ntmps32
  go_wp2_with fail
  go_loopw [5, 8] (fun _ i wr => ∃ k : Nat, k ≤ n ∧ i = .int .i64 k ∧ New w wr ∧ Hid (∀ j (hj : j < ls.length), j < k → (ls[j].key.toList == v.by_.toList) = false)) (fun _ i _ => n - (intOf i).toNat)
  case atStart => exact ⟨0, Nat.zero_le _, rfl, Mod.refl _ _, Lib.hid (fun j _ hj => absurd hj (by omega))⟩
  case round =>
    rename World => wr
    obtain ⟨k, hk, rfl, hm, HA⟩ := hrel
    by_cases hlt : k < n
    · obtain ⟨g, o, rfl, hg, hc⟩ := (HS.out.new hm).2 (by omega)
      have k0 := hc k (by omega) 0 (by omega)
      have k1 := hc k (by omega) 1 (by omega)
      have k2 := hc k (by omega) 2 (by omega)
      have k3 := hc k (by omega) 3 (by omega)
      have k4 := hc k (by omega) 4 (by omega)
      simp only [Lim.enc, Nat.add_zero] at k0 k1 k2 k3 k4
      have hcall := lines1 (ls[k]'(by omega)) vb v wr (HB.out.mod hm (fun e => e))
      have hb1 : (0 : Int) ≤ k := by omega
      have hb2 : (k : Int) < n := by omega
      have hyes := hasL_yes (v := v) (ls := ls) (k := k) (by omega)
      have HY := Lib.hid hyes
      unfold Lim.val at hcall
      clear hc hyes
      cases hq : ((ls[k]'(by omega)).key.toList == v.by_.toList) with
      | true =>
        rw [hq] at hcall
        have HQ := Lib.hid hq
        clear hq
        go_wp2_with (refine hcall.mono ?_; clear hcall; rintro e w' ⟨rfl, hm'⟩)
        go_ret
        exact ⟨k, rfl, by rw [HY.out HQ.out]; simp, hm.trans hm'⟩
      | false =>
        rw [hq] at hcall
        have HQ := Lib.hid hq
        clear hq
        go_wp2_with (refine hcall.mono ?_; clear hcall; rintro e w' ⟨rfl, hm'⟩)
        refine ⟨⟨k + 1, by omega, by go_num, hm.trans hm', Lib.hid (fun j hj1 hj2 => ?_)⟩, by simp [intOf]; omega⟩
        by_cases e : j = k
        · subst e; exact HQ.out
        · exact HA.out j hj1 (by omega)
    · obtain rfl : k = n := by omega
      go_wp2_with fail
      go_ret
      exact ⟨-1, rfl, by rw [hasL_no (fun j hj => HA.out j hj (by omega))]; rfl, hm⟩

set_option maxHeartbeats 1000000 in
theorem containsFunc_lim (w : World) (A : Option Addr) (n c : Nat) (ls : List Lim) (hs : LimRows w A n ls) (vb : Nat) (v : VerdictD) (h : Blk w vb 31 #[.bool v.ok, .string v.by_, .int .i64 v.wait]) (hn : n ≤ 1000000) :
    Calls Tryd.prog 17 #[.slice A n c, .func (.func 18) #[] #[.pointer (some ⟨vb, 0, none⟩)]] w fun e w' => e = .returned (.bool (hasL ls v)) ∧ New w w' := by
  have hif := indexFunc_lim w A n c ls hs vb v h hn
  clear hs h
  go_enter Tryd.func17, Tryd.ntmps17
  go_wp2_with (refine hif.mono ?_; clear hif; rintro e w' ⟨r, rfl, hr, hm⟩)
  go_ret
  exact ⟨rfl, hm⟩

end Go.Proofs.YtinnckbffblecaaDoor
