/- Templates, the plain law: words, segments and their units, the parts of a template, its text. No program in sight. No conditions. -/
import Derived.Test.YtjmnkdkdjnmejaaGreatDoorBaseGrp
import Derived.Lib.Strings
import Derived.Lib.SlicesS
namespace Go.Proofs.YtjmnkdkdjnmejaaGreatDoor
open Go.RowKit
set_option linter.unusedVariables false
set_option linter.unusedSimpArgs false

def isLetN (c : Nat) : Bool := (decide (97 ≤ c) && decide (c ≤ 122)) || (decide (65 ≤ c) && decide (c ≤ 90))
def isDigN (c : Nat) : Bool := decide (48 ≤ c) && decide (c ≤ 57)
def isHexN (c : Nat) : Bool := isDigN c || (decide (97 ≤ c) && decide (c ≤ 102)) || (decide (65 ≤ c) && decide (c ≤ 70))
def isWrdN (c : Nat) : Bool := isLetN c || isDigN c || decide (c = 95)
/-- what a hexadecimal digit stands for -/
def hexV (c : Nat) : Nat := if c ≤ 57 then c - 48 else if c ≤ 70 then c - 55 else c - 87
def unitV (a b : UInt8) : UInt8 := UInt8.ofNat (16 * hexV a.toNat + hexV b.toNat)

/-- the bytes that a segment's units stand for -/
def decL : List UInt8 → Option (List UInt8)
  | [] => some []
  | [a] => if a = 37 then none else some [a]
  | [a, b] => if a = 37 then none else (decL [b]).map (a :: ·)
  | a :: b :: c :: r => if a = 37 then (if isHexN b.toNat && isHexN c.toNat then (decL r).map (unitV b c :: ·) else none) else (decL (b :: c :: r)).map (a :: ·)
theorem decL_plain {a : UInt8} (h : a ≠ 37) (r : List UInt8) : decL (a :: r) = (decL r).map (a :: ·) := by
  match r with
  | [] => simp [decL, h]
  | [b] => simp only [decL]; rw [if_neg h]
  | b :: c :: r => simp only [decL]; rw [if_neg h]
/-- do a % and two hexadecimal digits stand at place i? -/
def unitAt (s : List UInt8) (i : Nat) : Bool := decide (i + 2 < s.length) && isHexN (s.getD (i + 1) 0).toNat && isHexN (s.getD (i + 2) 0).toNat
theorem decL_at_plain {s : List UInt8} {i : Nat} (h : i < s.length) (h1 : s[i] ≠ 37) : decL (s.drop i) = (decL (s.drop (i + 1))).map (s[i] :: ·) := by
  rw [List.drop_eq_getElem_cons h, decL_plain h1]
theorem decL_at_bad {s : List UInt8} {i : Nat} (h : i < s.length) (h1 : s[i] = 37) (h2 : unitAt s i = false) : decL (s.drop i) = none := by
  rw [List.drop_eq_getElem_cons h, h1]
  match hr : s.drop (i + 1) with
  | [] => simp [decL]
  | [b] => simp [decL]
  | b :: c :: r =>
    have hl : (s.drop (i + 1)).length = r.length + 2 := by rw [hr]; rfl
    have hl2 : i + 2 < s.length := by simp only [List.length_drop] at hl; omega
    have e1 : s.getD (i + 1) 0 = b := by
      have : (s.drop (i + 1))[0]? = some b := by rw [hr]; rfl
      simp only [List.getElem?_drop, Nat.add_zero] at this
      simp [List.getD_eq_getElem?_getD, this]
    have e2 : s.getD (i + 2) 0 = c := by
      have : (s.drop (i + 1))[1]? = some c := by rw [hr]; rfl
      simp only [List.getElem?_drop] at this
      simp [List.getD_eq_getElem?_getD, show i + 2 = i + 1 + 1 from rfl, this]
    unfold unitAt at h2
    rw [e1, e2, decide_eq_true hl2] at h2
    rw [decL, if_pos rfl, if_neg (by rw [Bool.true_and] at h2; rw [h2]; decide)]
def freeN (c : Nat) : Bool := isLetN c || isDigN c || decide (c = 45) || decide (c = 46) || decide (c = 95) || decide (c = 126)
structure PartD where
  kind : Int
  name : ByteArray
def PartD.enc (p : PartD) : Nat → Value
  | 0 => .int .i64 p.kind
  | _ => .string p.name
end Go.Proofs.YtjmnkdkdjnmejaaGreatDoor
