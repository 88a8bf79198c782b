/- What the maker of values hands out: right values. Conditions: as for the stream; no deeper than 3. -/
import Derived.Test.YtjmnkdkdjnmejaaGreatDoorVal1Grp
import Derived.Test.YtjmnkdkdjnmejaaGreatDoorHeldGrp
import Derived.Deep.CutBlock
namespace Go.Proofs.YtjmnkdkdjnmejaaGreatDoor
open Go.RowKit
set_option linter.unusedVariables false
set_option linter.unusedSimpArgs false


theorem SStep.mod {S : Nat → Prop} {b k : Nat} {w w' w'' : World} (h : SStep b w w' k) (hm : Mod S w' w'') (hS : ∀ i, S i → w.heap.size ≤ i) : SStep b w w'' k :=
  ⟨h.lt, h.only.step hm (fun i hi e => by have := hS i e; omega), h.inv.mod hm (fun i hi e => by have := hS i e; have := h.lt; omega)⟩
theorem leaf_tree (w : World) (G : Nat → Prop) (d : Nat) (kind : Int) (flag : Bool) (num : Int) (words : ByteArray) : Tree w G (d + 1) ⟨kind, flag, num, words, none, 0, 0, none, 0, 0⟩ (.mk kind flag num words [] []) :=
  ⟨[], [], rfl, ⟨[], Row.nil, rfl, fun i h => absurd h (by simp)⟩, ⟨[], Row.nil, rfl, fun i h => absurd h (by simp)⟩⟩
theorem einfo_memM : EInfo Tryz.prog 60 7 104 := EInfo.of (z := .agg #[.string ⟨#[]⟩, .int .i64 0, .bool false, .int .i64 0, .string ⟨#[]⟩, .slice none 0 0, .slice none 0 0]) (by kernel_rfl) rfl (by decide)
/-- how often the maker asks the stream, how large its values are -/
def rvK : Nat → Nat | 0 => 12 | d + 1 => 12 + 6 * (rvK d + 1)
def rvW : Nat → Nat | 0 => 100 | d + 1 => 100 + 6 * (rvW d + 30)
theorem rvK_ge : ∀ d, 12 ≤ rvK d
  | 0 => by decide
  | d + 1 => by simp only [rvK]; omega
def rvP : Nat → Nat | 0 => 0 | d + 1 => rvK d + 1
theorem rvP_le : ∀ d, 4 + 6 * rvP d ≤ rvK d
  | 0 => by decide
  | d + 1 => by simp only [rvP, rvK]; omega
theorem rvW_ge : ∀ d, 100 ≤ rvW d
  | 0 => by decide
  | d + 1 => by simp only [rvW]; omega
theorem leaf_w (d : Nat) (kind : Int) (flag : Bool) (num : Int) (words : ByteArray) (h : words.size ≤ 6) : vW (d + 1) (.mk kind flag num words [] []) ≤ rvW d := by
  have := rvW_ge d
  simp only [vW, VT.words, VT.list, VT.mem, List.map_nil, List.sum_nil]
  omega
theorem leaf_wide (d : Nat) (kind : Int) (flag : Bool) (num : Int) (words : ByteArray) (h : words.size ≤ 6) : Wide 6 (d + 1) (.mk kind flag num words [] []) :=
  ⟨Nat.zero_le _, Nat.zero_le _, by show words.size ≤ 1000000; omega, fun x hx => by simp [VT.list] at hx, fun x hx => by simp [VT.mem] at hx⟩
def nms6 : List ByteArray := [⟨#[]⟩, ⟨#[97]⟩, ⟨#[98]⟩, ⟨#[99, 32, 100]⟩, ⟨#[110]⟩, ⟨#[115]⟩]
theorem nms6_le (j : Nat) (h : j < nms6.length) : nms6[j].size ≤ 3 := by
  have : ∀ s ∈ nms6, s.size ≤ 3 := by decide
  exact this _ (List.getElem_mem h)
theorem sumList_fit {d d' : Nat} {vs : List VT} (hd : d = d' + 1) (hl : vs.length ≤ 3) (hv : ∀ u ∈ vs, vW d u ≤ rvW d' ∧ Wide 6 d u) : (vs.map fun x => vW d x + 1).sum ≤ 3 * (rvW d' + 1) := by
  have := sum_le_all (fun x => vW d x + 1) (rvW d' + 1) vs (fun x hx => by have := (hv x hx).1; omega)
  have h2 : vs.length * (rvW d' + 1) ≤ 3 * (rvW d' + 1) := Nat.mul_le_mul_right _ hl
  omega
theorem list_fit {d : Nat} {vs : List VT} (hl : vs.length ≤ 3) (h0 : d = 0 → vs = []) (hv : ∀ d', d = d' + 1 → ∀ u ∈ vs, vW d u ≤ rvW d' ∧ Wide 6 d u) : vW (d + 1) (.mk 4 false 0 ⟨#[]⟩ vs []) ≤ rvW d ∧ Wide 6 (d + 1) (.mk 4 false 0 ⟨#[]⟩ vs []) := by
  have hs0 : (⟨#[]⟩ : ByteArray).size = 0 := rfl
  cases d with
  | zero =>
    rw [h0 rfl]
    exact ⟨leaf_w _ _ _ _ _ (by decide), leaf_wide _ _ _ _ _ (by decide)⟩
  | succ d' =>
    have h1 := sumList_fit rfl hl (hv d' rfl)
    constructor
    · show 40 + 6 * (⟨#[]⟩ : ByteArray).size + ((vs.map fun x => vW (d' + 1) x + 1).sum + ([].map fun p : ByteArray × VT => vW (d' + 1) p.2 + (6 * p.1.size + 4)).sum) ≤ rvW (d' + 1)
      simp only [List.map_nil, List.sum_nil, rvW, hs0]
      omega
    · exact ⟨by show vs.length ≤ 6; omega, Nat.zero_le _, by show (⟨#[]⟩ : ByteArray).size ≤ 1000000; rw [hs0]; omega, fun x hx => (hv d' rfl x hx).2, fun x hx => by simp [VT.mem] at hx⟩
theorem mem_fit {d : Nat} {ps : List (ByteArray × VT)} (hl : ps.length ≤ 6) (h0 : d = 0 → ps = []) (hv : ∀ d', d = d' + 1 → ∀ p ∈ ps, p.1.size ≤ 3 ∧ vW d p.2 ≤ rvW d' ∧ Wide 6 d p.2) : vW (d + 1) (.mk 5 false 0 ⟨#[]⟩ [] ps) ≤ rvW d ∧ Wide 6 (d + 1) (.mk 5 false 0 ⟨#[]⟩ [] ps) := by
  have hs0 : (⟨#[]⟩ : ByteArray).size = 0 := rfl
  cases d with
  | zero =>
    rw [h0 rfl]
    exact ⟨leaf_w _ _ _ _ _ (by decide), leaf_wide _ _ _ _ _ (by decide)⟩
  | succ d' =>
    have h1 := sum_le_all (fun p : ByteArray × VT => vW (d' + 1) p.2 + (6 * p.1.size + 4)) (rvW d' + 22) ps (fun p hp => by have := hv d' rfl p hp; omega)
    have h2 : ps.length * (rvW d' + 22) ≤ 6 * (rvW d' + 22) := Nat.mul_le_mul_right _ hl
    constructor
    · show 40 + 6 * (⟨#[]⟩ : ByteArray).size + (([].map fun x : VT => vW (d' + 1) x + 1).sum + (ps.map fun p : ByteArray × VT => vW (d' + 1) p.2 + (6 * p.1.size + 4)).sum) ≤ rvW (d' + 1)
      simp only [List.map_nil, List.sum_nil, rvW, hs0]
      omega
    · exact ⟨Nat.zero_le _, by show ps.length ≤ 6; omega, by show (⟨#[]⟩ : ByteArray).size ≤ 1000000; rw [hs0]; omega, fun x hx => by simp [VT.list] at hx, fun x hx => ⟨by have := (hv d' rfl x hx).1; omega, (hv d' rfl x hx).2.2⟩⟩
theorem rvK_le {d : Nat} (h : d ≤ 3) : rvK d ≤ 10000 := by
  obtain rfl | rfl | rfl | rfl : d = 0 ∨ d = 1 ∨ d = 2 ∨ d = 3 := by omega
  all_goals decide
end Go.Proofs.YtjmnkdkdjnmejaaGreatDoor
