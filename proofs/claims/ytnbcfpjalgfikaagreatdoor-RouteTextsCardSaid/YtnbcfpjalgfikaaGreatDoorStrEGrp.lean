/- Several texts in one. (1) Rows of strings, as cells. No conditions. (2) Two lists side by side. No conditions. -/
import Derived.Test.YtnbcfpjalgfikaaGreatDoorOwn
import Derived.Test.YtnbcfpjalgfikaaGreatDoorBase

namespace Go.Proofs.YtnbcfpjalgfikaaGreatDoor
open Go.RowKit
set_option linter.unusedVariables false
set_option linter.unusedSimpArgs false

def sEnc (x : ByteArray) (_ : Nat) : Value := .string x
theorem sEnc_one (x : ByteArray) (j : Nat) (hj : j < 1) : (sEnc x j).oneCell' = true := rfl
theorem einfo_str : EInfo Tryz.prog 9 1 16 := EInfo.of (z := .string ⟨#[]⟩) (by kernel_rfl) rfl (by decide)
end Go.Proofs.YtnbcfpjalgfikaaGreatDoor

namespace Go.Proofs.YtnbcfpjalgfikaaGreatDoor
open Go.RowKit
set_option linter.unusedVariables false
set_option linter.unusedSimpArgs false

/-- two lists side by side -/
def Al {α β : Type} (T : α → β → Prop) : List α → List β → Prop
  | [], [] => True
  | x :: xs, y :: ys => T x y ∧ Al T xs ys
  | _, _ => False
section
variable {α β : Type} {T T' : α → β → Prop}
theorem Al.len : ∀ {xs : List α} {ys : List β}, Al T xs ys → xs.length = ys.length
  | [], [], _ => rfl
  | x :: xs, y :: ys, h => by simp [Al.len h.2]
  | [], _ :: _, h => h.elim
  | _ :: _, [], h => h.elim
theorem Al.get : ∀ {xs : List α} {ys : List β}, Al T xs ys → ∀ i (h : i < xs.length) (h' : i < ys.length), T xs[i] ys[i]
  | x :: xs, y :: ys, h, 0, _, _ => h.1
  | x :: xs, y :: ys, h, i + 1, h1, h2 => by
    simp only [List.getElem_cons_succ]
    exact Al.get h.2 i (by simpa using h1) (by simpa using h2)
  | [], _, _, i, h1, _ => absurd h1 (by simp)
theorem Al.imp (hT : ∀ x y, T x y → T' x y) : ∀ {xs : List α} {ys : List β}, Al T xs ys → Al T' xs ys
  | [], [], _ => trivial
  | x :: xs, y :: ys, h => ⟨hT _ _ h.1, Al.imp hT h.2⟩
  | [], _ :: _, h => h.elim
  | _ :: _, [], h => h.elim
theorem Al.take : ∀ (k : Nat) {xs : List α} {ys : List β}, Al T xs ys → Al T (xs.take k) (ys.take k)
  | 0, _, _, _ => by simp [Al]
  | k + 1, [], [], _ => trivial
  | k + 1, x :: xs, y :: ys, h => ⟨h.1, Al.take k h.2⟩
  | k + 1, [], _ :: _, h => h.elim
  | k + 1, _ :: _, [], h => h.elim
theorem Al.drop : ∀ (k : Nat) {xs : List α} {ys : List β}, Al T xs ys → Al T (xs.drop k) (ys.drop k)
  | 0, _, _, h => h
  | k + 1, [], [], _ => trivial
  | k + 1, x :: xs, y :: ys, h => by
    rw [List.drop_succ_cons, List.drop_succ_cons]
    exact Al.drop k h.2
  | k + 1, [], _ :: _, h => h.elim
  | k + 1, _ :: _, [], h => h.elim
theorem Al.append : ∀ {xs : List α} {ys : List β} {xs' : List α} {ys' : List β}, Al T xs ys → Al T xs' ys' → Al T (xs ++ xs') (ys ++ ys')
  | [], [], _, _, _, h => h
  | x :: xs, y :: ys, _, _, h, h' => ⟨h.1, Al.append h.2 h'⟩
  | [], _ :: _, _, _, h, _ => h.elim
  | _ :: _, [], _, _, h, _ => h.elim
theorem Al.one {x : α} {y : β} (h : T x y) : Al T [x] [y] := ⟨h, trivial⟩
theorem Al.cut {xs : List α} {ys : List β} (h : Al T xs ys) (k : Nat) : Al T (xs.eraseIdx k) (ys.take k ++ ys.drop (k + 1)) := by
  rw [List.eraseIdx_eq_take_drop_succ]
  exact (h.take k).append (h.drop (k + 1))
theorem Al.set : ∀ {xs : List α} {ys : List β}, Al T xs ys → ∀ (k : Nat) {x : α} {y : β}, T x y → Al T (xs.set k x) (ys.set k y)
  | [], [], _, _, _, _, _ => trivial
  | x :: xs, y :: ys, h, 0, _, _, hx => ⟨hx, h.2⟩
  | x :: xs, y :: ys, h, k + 1, _, _, hx => ⟨h.1, Al.set h.2 k hx⟩
  | [], _ :: _, h, _, _, _, _ => h.elim
  | _ :: _, [], h, _, _, _, _ => h.elim
theorem Al.filter {p : α → Bool} {q : β → Bool} (hpq : ∀ x y, T x y → p x = q y) : ∀ {xs : List α} {ys : List β}, Al T xs ys → Al T (xs.filter p) (ys.filter q)
  | [], [], _ => trivial
  | x :: xs, y :: ys, h => by
    have e := hpq _ _ h.1
    rw [List.filter_cons, List.filter_cons, e]
    split
    · exact ⟨h.1, Al.filter hpq h.2⟩
    · exact Al.filter hpq h.2
  | [], _ :: _, h => h.elim
  | _ :: _, [], h => h.elim
end

end Go.Proofs.YtnbcfpjalgfikaaGreatDoor
