/- Several texts in one. (1) Two lists side by side. No conditions. (2) Changes in memory: rows of trees that a call is making over. No conditions. -/
import Derived.Test.YtjmnkdkdjnmejaaGreatDoorBaseGrp
import Derived.Test.YtjmnkdkdjnmejaaGreatDoorVal1Grp
import Derived.Test.YtjmnkdkdjnmejaaGreatDoorValCloneGrp
import Derived.Test.YtjmnkdkdjnmejaaGreatDoorChgLaw2Grp

namespace Go.Proofs.YtjmnkdkdjnmejaaGreatDoor
open Go.RowKit
set_option linter.unusedVariables false
set_option linter.unusedSimpArgs false

/-- two lists side by side -/
def Al {α β : Type} (T : α → β → Prop) : List α → List β → Prop
  | [], [] => True
  | x :: xs, y :: ys => T x y ∧ Al T xs ys
  | _, _ => False
section
variable {α β : Type} {T T' : α → β → Prop}
theorem Al.len : ∀ {xs : List α} {ys : List β}, Al T xs ys → xs.length = ys.length
  | [], [], _ => rfl
  | x :: xs, y :: ys, h => by simp [Al.len h.2]
  | [], _ :: _, h => h.elim
  | _ :: _, [], h => h.elim
theorem Al.imp (hT : ∀ x y, T x y → T' x y) : ∀ {xs : List α} {ys : List β}, Al T xs ys → Al T' xs ys
  | [], [], _ => trivial
  | x :: xs, y :: ys, h => ⟨hT _ _ h.1, Al.imp hT h.2⟩
  | [], _ :: _, h => h.elim
  | _ :: _, [], h => h.elim
theorem Al.take : ∀ (k : Nat) {xs : List α} {ys : List β}, Al T xs ys → Al T (xs.take k) (ys.take k)
  | 0, _, _, _ => by simp [Al]
  | k + 1, [], [], _ => trivial
  | k + 1, x :: xs, y :: ys, h => ⟨h.1, Al.take k h.2⟩
  | k + 1, [], _ :: _, h => h.elim
  | k + 1, _ :: _, [], h => h.elim
theorem Al.drop : ∀ (k : Nat) {xs : List α} {ys : List β}, Al T xs ys → Al T (xs.drop k) (ys.drop k)
  | 0, _, _, h => h
  | k + 1, [], [], _ => trivial
  | k + 1, x :: xs, y :: ys, h => by
    rw [List.drop_succ_cons, List.drop_succ_cons]
    exact Al.drop k h.2
  | k + 1, [], _ :: _, h => h.elim
  | k + 1, _ :: _, [], h => h.elim
theorem Al.append : ∀ {xs : List α} {ys : List β} {xs' : List α} {ys' : List β}, Al T xs ys → Al T xs' ys' → Al T (xs ++ xs') (ys ++ ys')
  | [], [], _, _, _, h => h
  | x :: xs, y :: ys, _, _, h, h' => ⟨h.1, Al.append h.2 h'⟩
  | [], _ :: _, _, _, h, _ => h.elim
  | _ :: _, [], _, _, h, _ => h.elim
theorem Al.one {x : α} {y : β} (h : T x y) : Al T [x] [y] := ⟨h, trivial⟩
theorem Al.ins {xs : List α} {ys : List β} (h : Al T xs ys) (k : Nat) {x : α} {y : β} (hx : T x y) : Al T (xs.take k ++ x :: xs.drop k) (ys.take k ++ y :: ys.drop k) := (h.take k).append ⟨hx, h.drop k⟩
theorem Al.cut {xs : List α} {ys : List β} (h : Al T xs ys) (k : Nat) : Al T (xs.eraseIdx k) (ys.take k ++ ys.drop (k + 1)) := by
  rw [List.eraseIdx_eq_take_drop_succ]
  exact (h.take k).append (h.drop (k + 1))
theorem Al.set : ∀ {xs : List α} {ys : List β}, Al T xs ys → ∀ (k : Nat) {x : α} {y : β}, T x y → Al T (xs.set k x) (ys.set k y)
  | [], [], _, _, _, _, _ => trivial
  | x :: xs, y :: ys, h, 0, _, _, hx => ⟨hx, h.2⟩
  | x :: xs, y :: ys, h, k + 1, _, _, hx => ⟨h.1, Al.set h.2 k hx⟩
  | [], _ :: _, h, _, _, _, _ => h.elim
  | _ :: _, [], h, _, _, _, _ => h.elim
theorem Al.filter {p : α → Bool} {q : β → Bool} (hpq : ∀ x y, T x y → p x = q y) : ∀ {xs : List α} {ys : List β}, Al T xs ys → Al T (xs.filter p) (ys.filter q)
  | [], [], _ => trivial
  | x :: xs, y :: ys, h => by
    have e := hpq _ _ h.1
    rw [List.filter_cons, List.filter_cons, e]
    split
    · exact ⟨h.1, Al.filter hpq h.2⟩
    · exact Al.filter hpq h.2
  | [], _ :: _, h => h.elim
  | _ :: _, [], h => h.elim
end


/-- what lies in blocks below N -/
abbrev Old (N : Nat) : Nat → Prop := fun g => g < N
abbrev Fresh (N : Nat) (w w' : World) : Prop := Mod (fun k => N ≤ k) w w'
theorem Tree.kept {w w' : World} {N d : Nat} {x : VA} {v : VT} (h : Tree w (Old N) d x v) (hm : Fresh N w w') : Tree w' (Old N) d x v := Tree.mod hm (fun g hg _ e => by have : g < N := hg; omega) _ _ _ h
theorem Tree.any {w : World} {G : Nat → Prop} {d : Nat} {x : VA} {v : VT} (h : Tree w G d x v) : Tree w (fun _ => True) d x v := Tree.imp (fun _ _ _ => trivial) _ _ _ h
theorem Tree.old {w : World} {G : Nat → Prop} {d : Nat} {x : VA} {v : VT} (h : Tree w G d x v) {N : Nat} (hN : w.heap.size ≤ N) : Tree w (Old N) d x v := Tree.imp (fun g _ hl => by show g < N; omega) _ _ _ h
/-- stores of a whole element of six cells -/
theorem flat_set6 {α : Type} (enc : α → Nat → Value) (y : α) : ∀ (xs : List α) (i : Nat), i < xs.length →
    ((((((xs.flatMap (encL 6 enc)).set (i * 6) (enc y 0)).set (i * 6 + 1) (enc y 1)).set (i * 6 + 2) (enc y 2)).set (i * 6 + 3) (enc y 3)).set (i * 6 + 4) (enc y 4)).set (i * 6 + 5) (enc y 5) = (xs.set i y).flatMap (encL 6 enc)
  | [], i, h => by simp at h
  | x :: xs, 0, _ => by simp [encL, List.range_succ, List.range_zero]
  | x :: xs, i + 1, h => by
    have ih := flat_set6 enc y xs i (by simpa using h)
    have e : (i + 1) * 6 = i * 6 + 6 := by omega
    rw [e, show i * 6 + 6 + 1 = i * 6 + 1 + 6 by omega, show i * 6 + 6 + 2 = i * 6 + 2 + 6 by omega, show i * 6 + 6 + 3 = i * 6 + 3 + 6 by omega, show i * 6 + 6 + 4 = i * 6 + 4 + 6 by omega, show i * 6 + 6 + 5 = i * 6 + 5 + 6 by omega]
    simp only [List.flatMap_cons, lss]
    rw [← ih]
    simp [encL, List.range_succ, List.range_zero]
theorem Own.set6 {α : Type} {w : World} {B : Nat} {t : TypeId} {enc : α → Nat → Value} {n c g : Nat} {xs : List α} (h : Own w B t 6 enc (some ⟨g, 0, none⟩) n c xs) {i : Nat} (hi : i < xs.length) (y : α) :
    Own ((((((w.setCell ⟨g, i * 6, none⟩ (enc y 0)).setCell ⟨g, i * 6 + 1, none⟩ (enc y 1)).setCell ⟨g, i * 6 + 2, none⟩ (enc y 2)).setCell ⟨g, i * 6 + 3, none⟩ (enc y 3)).setCell ⟨g, i * 6 + 4, none⟩ (enc y 4)).setCell ⟨g, i * 6 + 5, none⟩ (enc y 5)) B t 6 enc (some ⟨g, 0, none⟩) n c (xs.set i y) :=
  ⟨by simpa using h.1, by rw [← flat_set6 enc y xs i hi]; exact ((((((h.2.stored _ _).1.stored _ _).1.stored _ _).1.stored _ _).1.stored _ _).1.stored _ _).1⟩
/-- stores of a whole element of seven cells -/
theorem flat_set7 {α : Type} (enc : α → Nat → Value) (y : α) : ∀ (xs : List α) (i : Nat), i < xs.length →
    (((((((xs.flatMap (encL 7 enc)).set (i * 7) (enc y 0)).set (i * 7 + 1) (enc y 1)).set (i * 7 + 2) (enc y 2)).set (i * 7 + 3) (enc y 3)).set (i * 7 + 4) (enc y 4)).set (i * 7 + 5) (enc y 5)).set (i * 7 + 6) (enc y 6) = (xs.set i y).flatMap (encL 7 enc)
  | [], i, h => by simp at h
  | x :: xs, 0, _ => by simp [encL, List.range_succ, List.range_zero]
  | x :: xs, i + 1, h => by
    have ih := flat_set7 enc y xs i (by simpa using h)
    have e : (i + 1) * 7 = i * 7 + 7 := by omega
    rw [e, show i * 7 + 7 + 1 = i * 7 + 1 + 7 by omega, show i * 7 + 7 + 2 = i * 7 + 2 + 7 by omega, show i * 7 + 7 + 3 = i * 7 + 3 + 7 by omega, show i * 7 + 7 + 4 = i * 7 + 4 + 7 by omega, show i * 7 + 7 + 5 = i * 7 + 5 + 7 by omega, show i * 7 + 7 + 6 = i * 7 + 6 + 7 by omega]
    simp only [List.flatMap_cons, lss]
    rw [← ih]
    simp [encL, List.range_succ, List.range_zero]
theorem Own.set7 {α : Type} {w : World} {B : Nat} {t : TypeId} {enc : α → Nat → Value} {n c g : Nat} {xs : List α} (h : Own w B t 7 enc (some ⟨g, 0, none⟩) n c xs) {i : Nat} (hi : i < xs.length) (y : α) :
    Own (((((((w.setCell ⟨g, i * 7, none⟩ (enc y 0)).setCell ⟨g, i * 7 + 1, none⟩ (enc y 1)).setCell ⟨g, i * 7 + 2, none⟩ (enc y 2)).setCell ⟨g, i * 7 + 3, none⟩ (enc y 3)).setCell ⟨g, i * 7 + 4, none⟩ (enc y 4)).setCell ⟨g, i * 7 + 5, none⟩ (enc y 5)).setCell ⟨g, i * 7 + 6, none⟩ (enc y 6)) B t 7 enc (some ⟨g, 0, none⟩) n c (xs.set i y) :=
  ⟨by simpa using h.1, by rw [← flat_set7 enc y xs i hi]; exact (((((((h.2.stored _ _).1.stored _ _).1.stored _ _).1.stored _ _).1.stored _ _).1.stored _ _).1.stored _ _).1⟩

theorem Tree.deep {w : World} {G : Nat → Prop} : ∀ (d : Nat) (x : VA) (v : VT), Tree w G d x v → Deep d v
  | 0, _, _, h => h
  | d + 1, x, v, h => by
    obtain ⟨vs, ps, rfl, ⟨xs, -, h2, h3⟩, ⟨ms, -, h5, h6⟩⟩ := h
    refine ⟨fun y hy => ?_, fun p hp => ?_⟩
    · obtain ⟨i, hi, rfl⟩ := List.mem_iff_getElem.1 hy
      have hi' : i < vs.length := hi
      exact Tree.deep d _ _ (h3 i (by omega) hi')
    · obtain ⟨i, hi, rfl⟩ := List.mem_iff_getElem.1 hp
      have hi' : i < ps.length := hi
      exact Tree.deep d _ _ (h6 i (by omega) hi').2
def St.enc (s : St) : Nat → Value
  | 0 => .bool s.named
  | 1 => .string s.name
  | 2 => .int .i64 s.at_
  | _ => .nilFunc
abbrev St.val (s : St) : Value := .agg #[.bool s.named, .string s.name, .int .i64 s.at_]
theorem St.one (x : St) (j : Nat) (hj : j < 3) : (x.enc j).oneCell' = true := by
  obtain rfl | rfl | rfl : j = 0 ∨ j = 1 ∨ j = 2 := by omega
  all_goals rfl
/-- a change as its cells say -/
structure CA where
  kind : Int
  pa : Option Addr
  pn : Nat
  pc : Nat
  v : VA
def CA.enc (m : CA) : Nat → Value
  | 0 => .int .i64 m.kind
  | 1 => .slice m.pa m.pn m.pc
  | j + 2 => m.v.enc j
abbrev CA.val (m : CA) : Value := .agg #[.int .i64 m.kind, .slice m.pa m.pn m.pc, .int .i64 m.v.kind, .bool m.v.flag, .int .i64 m.v.num, .string m.v.words, .slice m.v.la m.v.ln m.v.lc, .slice m.v.ma m.v.mn m.v.mc]
theorem CA.one (x : CA) (j : Nat) (hj : j < 8) : (x.enc j).oneCell' = true := by
  obtain rfl | rfl | rfl | rfl | rfl | rfl | rfl | rfl : j = 0 ∨ j = 1 ∨ j = 2 ∨ j = 3 ∨ j = 4 ∨ j = 5 ∨ j = 6 ∨ j = 7 := by omega
  all_goals rfl
end Go.Proofs.YtjmnkdkdjnmejaaGreatDoor
