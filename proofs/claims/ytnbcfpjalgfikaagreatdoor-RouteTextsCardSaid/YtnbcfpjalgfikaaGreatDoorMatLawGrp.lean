/- Several texts in one. (1) Paths and their parameters, the plain law: units, the normal form of a path, its segments, matching, building. No program in sight. No conditions. (2) Parameters of a path: rows of pairs; they are equal where they are alike (slices.Equal); looking one up (route.param). Conditions: at most 1000000 pairs. -/
import Derived.Test.YtnbcfpjalgfikaaGreatDoorTplLaw
import Derived.Test.YtnbcfpjalgfikaaGreatDoorParamGrp
import Derived.Deep.QuietTactic
import Derived.BigQuiet

namespace Go.Proofs.YtnbcfpjalgfikaaGreatDoor
open Go.RowKit
set_option linter.unusedVariables false
set_option linter.unusedSimpArgs false

abbrev PairD := ByteArray × ByteArray
end Go.Proofs.YtnbcfpjalgfikaaGreatDoor

namespace Go.Proofs.YtnbcfpjalgfikaaGreatDoor
open Go.RowKit
set_option linter.unusedVariables false
set_option linter.unusedSimpArgs false

def pairEnc (p : PairD) : Nat → Value
  | 0 => .string p.1
  | _ => .string p.2
def pairVal (p : PairD) : Value := .agg #[.string p.1, .string p.2]
abbrev QSl (w : World) (A : Option Addr) (n : Nat) (ps : List PairD) : Prop := Sl w 55 2 pairEnc A n ps
theorem pairEnc_one (p : PairD) (j : Nat) (hj : j < 2) : (pairEnc p j).oneCell' = true := by
  match j, hj with
  | 0, _ => rfl
  | 1, _ => rfl
theorem einfo_pair : EInfo Tryz.prog 55 2 32 := EInfo.of (z := .agg #[.string ⟨#[]⟩, .string ⟨#[]⟩]) (by kernel_rfl) rfl (by decide)

set_option maxHeartbeats 1000000 in
theorem equal_pairs (zs : List PairD) (A1 A2 : Option Addr) (n c1 c2 : Nat) (w : World) (h1 : QSl w A1 n zs) (h2 : QSl w A2 n zs) (hn : n ≤ 1000000) :
    Calls Tryz.prog 62 #[.slice A1 n c1, .slice A2 n c2] w fun e w' => e = .returned (.bool true) ∧ New w w' := by
  have hlen := h1.1
  have H1 := Lib.hid h1
  have H2 := Lib.hid h2
  clear h1 h2
  go_enter Tryz.func62, Tryz.ntmps62
  go_wp2_with fail
  go_loopw [5, 13] (fun _ i wr => ∃ k : Nat, k ≤ n ∧ i = .int .i64 k ∧ ∃ q, wr = w.drewN q) (fun _ i _ => n - (intOf i).toNat)
  case atStart => exact ⟨0, Nat.zero_le _, rfl, 0, rfl⟩
  case round =>
    obtain ⟨k, hk, rfl, q, rfl⟩ := hrel
    by_cases hlt : k < n
    · obtain ⟨g1, o1, hA1, t1, k1⟩ := H1.out.2 (by omega)
      obtain ⟨g2, o2, hA2, t2, k2⟩ := H2.out.2 (by omega)
      subst hA1 hA2
      have a0 := k1 k (by omega) 0 (by omega)
      have a1 := k1 k (by omega) 1 (by omega)
      have b0 := k2 k (by omega) 0 (by omega)
      have b1 := k2 k (by omega) 1 (by omega)
      simp only [pairEnc, Nat.add_zero] at a0 a1 b0 b1
      have l1 := t1.lt
      have l2 := t2.lt
      have hb1 : (0 : Int) ≤ k := by omega
      have hb2 : (k : Int) < n := by omega
      clear k1 k2
      generalize zs[k] = z at *
      go_wp2_with fail
      go_quiet (fail)
      go_wp2_with fail
      exact ⟨⟨k + 1, by omega, by go_num, _, rfl⟩, by simp [intOf]; omega⟩
    · obtain rfl : k = n := by omega
      go_wp2_with fail
      go_ret
      exact ⟨rfl, (Mod.refl _ _).drewN _⟩

/-- a parameter's value, and whether it is there -/
def RLook (q : Option ByteArray) (w : World) (e : Ending) (w' : World) : Prop := e = .returned (.tuple #[.string (q.getD ⟨#[]⟩), .bool q.isSome]) ∧ New w w'
theorem RLook.some {q : Option ByteArray} {w w' : World} {x : ByteArray} (h : q = some x) (hm : New w w') : RLook q w (.returned (.tuple #[.string x, .bool true])) w' := ⟨by rw [h]; rfl, hm⟩
theorem RLook.none {q : Option ByteArray} {w w' : World} (h : q = none) (hm : New w w') : RLook q w (.returned (.tuple #[.string ⟨#[]⟩, .bool false])) w' := ⟨by rw [h]; rfl, hm⟩

end Go.Proofs.YtnbcfpjalgfikaaGreatDoor
