/- Values as trees, the plain law: how many, how deep, what is wrong, how two compare, how one is written. No program in sight. No conditions. -/
import Derived.Test.YtnbcfpjalgfikaaGreatDoorBase
import Derived.Shelf.Small.Strs
import Derived.Lib.ValidU
import Derived.Lib.ItoaLen
import Derived.Lib.Small
namespace Go.Proofs.YtnbcfpjalgfikaaGreatDoor
open Go.RowKit
set_option linter.unusedVariables false
set_option linter.unusedSimpArgs false

inductive VT where
  | mk (kind : Int) (flag : Bool) (num : Int) (words : ByteArray) (list : List VT) (mem : List (ByteArray × VT))
namespace VT
def kind : VT → Int | mk a _ _ _ _ _ => a
def flag : VT → Bool | mk _ a _ _ _ _ => a
def num : VT → Int | mk _ _ a _ _ _ => a
def words : VT → ByteArray | mk _ _ _ a _ _ => a
def list : VT → List VT | mk _ _ _ _ a _ => a
def mem : VT → List (ByteArray × VT) | mk _ _ _ _ _ a => a
end VT

/-- the first that is not nought -/
def fz : List Int → Int
  | [] => 0
  | x :: xs => if x ≠ 0 then x else fz xs
def vMany : Nat → VT → Nat
  | 0, _ => 0
  | d + 1, v => 1 + ((v.list.map (vMany d)).sum + (v.mem.map fun p => vMany d p.2).sum)
def maxL : List Nat → Nat
  | [] => 0
  | x :: xs => max x (maxL xs)
def vDeep : Nat → VT → Nat
  | 0, _ => 0
  | d + 1, v => 1 + max (maxL (v.list.map (vDeep d))) (maxL (v.mem.map fun p => vDeep d p.2))
/-- what a text's length does not pass -/
def vW : Nat → VT → Nat
  | 0, _ => 0
  | d + 1, v => 40 + 6 * v.words.size + ((v.list.map fun x => vW d x + 1).sum + (v.mem.map fun p => vW d p.2 + (6 * p.1.size + 4)).sum)
/-- rows no longer than m, words of modest size -/
def Wide (m : Nat) : Nat → VT → Prop
  | 0, _ => True
  | d + 1, v => v.list.length ≤ m ∧ v.mem.length ≤ m ∧ v.words.size ≤ 100000 ∧ (∀ x ∈ v.list, Wide m d x) ∧ (∀ p ∈ v.mem, p.1.size ≤ 100000 ∧ Wide m d p.2)
theorem Wide.mono {m m' : Nat} (h : m ≤ m') : ∀ (d : Nat) (v : VT), Wide m d v → Wide m' d v
  | 0, _, _ => trivial
  | d + 1, v, ⟨h1, h2, h3, h4, h5⟩ => ⟨by omega, by omega, h3, fun x hx => Wide.mono h d x (h4 x hx), fun p hp => ⟨(h5 p hp).1, Wide.mono h d p.2 (h5 p hp).2⟩⟩
/-- a value that the walks can carry -/
def Fit (d : Nat) (v : VT) : Prop := vW d v ≤ 1000000000 ∧ Wide 1000 d v
theorem Fit.parts {d : Nat} {v : VT} (h : Fit (d + 1) v) : v.list.length ≤ 1000 ∧ v.mem.length ≤ 1000 ∧ v.words.size ≤ 100000 := ⟨h.2.1, h.2.2.1, h.2.2.2.1⟩
/-- the error of a value's number and size -/
def vBig (d : Nat) (v : VT) : Prop := 5000 < vMany d v ∨ 50 < vDeep d v
instance (d : Nat) (v : VT) : Decidable (vBig d v) := by unfold vBig; infer_instance

end Go.Proofs.YtnbcfpjalgfikaaGreatDoor
