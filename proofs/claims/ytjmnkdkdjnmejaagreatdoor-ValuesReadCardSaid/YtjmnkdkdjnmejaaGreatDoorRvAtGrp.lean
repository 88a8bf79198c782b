/- Several texts in one. (1) Reading values: a state of the machine in the program's memory. No program is walked. No conditions. (2) Reading values: skip and fail of the program's reader, said of its whole block. Conditions: a text of at most 300000 bytes. -/
import Derived.Test.YtjmnkdkdjnmejaaGreatDoorRvPutGrp
import Derived.Test.YtjmnkdkdjnmejaaGreatDoorRvP4

namespace Go.Proofs.YtjmnkdkdjnmejaaGreatDoor
open Go.RowKit
set_option linter.unusedVariables false
set_option linter.unusedSimpArgs false

def AtS (w : World) (B b : Nat) (s : ByteArray) : RSt → Prop
  | .run bg st i => ∃ (r : RV) (os : List OF), r.i = i ∧ r.begins = bg ∧ r.done = false ∧ r.bad = false ∧ RdAt w B b s r bg st os
  | .fin v i => ∃ r : RV, r.i = i ∧ i ≤ s.size ∧ r.done = true ∧ r.bad = false ∧ Blk w b 49 (r.cells s) ∧ Tree w (notIn B []) i r.out v
  | .bad p => ∃ r : RV, r.i ≤ s.size ∧ r.bad = true ∧ r.pl = (p : Int) ∧ Blk w b 49 (r.cells s)
/-- a call that answers nothing and leads to a state -/
def RAt (B b : Nat) (s : ByteArray) (X : RSt) (w : World) (e : Ending) (w' : World) : Prop := e = .returned (.tuple #[]) ∧ Mod (From B) w w' ∧ AtS w' B b s X
theorem RPut.at {B b : Nat} {s : ByteArray} {r : RV} {st : List RFr} {v : VT} {w w' : World} {e : Ending} (h : RPut B b s r st v w e w') (hd : r.done = false) (hb : r.bad = false) (hg : r.begins = false) (hi : r.i ≤ s.size) : RAt B b s (putS st v r.i) w e w' := by
  obtain ⟨he, hm, h⟩ := h
  refine ⟨he, hm, ?_⟩
  rcases h with ⟨rfl, x, h1, h2⟩ | ⟨f, q, r', os', rfl, h1, h2, h3, h4, h5, h6⟩
  · exact ⟨{ r with done := true, out := x }, rfl, hi, rfl, hb, h1, h2⟩
  · exact ⟨r', os', h1, h2, h3.trans hd, h4.trans hb, h6⟩
theorem Mod.fromB {B b : Nat} {w w' : World} (h : Only b w w') (hb : B ≤ b) : Mod (From B) w w' := h.mono (fun k _ e => by subst e; exact hb)
theorem New.fromB {B : Nat} {w w' : World} (h : New w w') : Mod (From B) w w' := h.mono (fun _ _ e => e.elim)

theorem val_skip (s : ByteArray) (r : RV) (b : Nat) (w : World) (hs : s.size ≤ 300000) (hi : r.i ≤ s.size) (hb : Blk w b 49 (r.cells s)) :
    Calls Tryz.prog 35 #[.pointer (some ⟨b, 0, none⟩)] w fun e w' => e = .returned (.int .u8 ((topAt s.data.toList (spanAt blankB s.data.toList r.i)).toNat : Int)) ∧ Blk w' b 49 (({ r with i := spanAt blankB s.data.toList r.i } : RV).cells s) ∧ Only b w w' := by
  obtain ⟨rest, hr⟩ := RV.at0 s r
  have h0 : r.cells s = at0 s r.i rest := hr r.i
  refine (val_skipA s rest r.i b w hs hi (by rw [← h0]; exact hb)).mono ?_
  rintro e w' ⟨h1, h2, h3⟩
  exact ⟨h1, by rw [hr]; exact h2, h3⟩
theorem val_failAt (s : ByteArray) (r : RV) (B b p : Nat) (w : World) (hb : Blk w b 49 (r.cells s)) (hbad : r.bad = false) (hi : r.i ≤ s.size) (hB : B ≤ b) :
    Calls Tryz.prog 38 #[.pointer (some ⟨b, 0, none⟩), .int .i64 p] w (RAt B b s (.bad p) w) := by
  refine (val_fail s r p b w hb).mono ?_
  rintro e w' ⟨h1, h2, h3⟩
  rw [hbad] at h2
  exact ⟨h1, h3.fromB hB, { r with bad := true, pl := (p : Int) }, hi, rfl, rfl, h2⟩
theorem spanL_size (p : UInt8 → Bool) (s : ByteArray) {i : Nat} (h : i ≤ s.size) : spanAt p s.data.toList i ≤ s.size := spanAt_le p (show i ≤ s.data.toList.length from h)
theorem RAt.after {B b : Nat} {s : ByteArray} {X : RSt} {w w1 w2 : World} {e : Ending} (h : RAt B b s X w1 e w2) (hm : Mod (From B) w w1) : RAt B b s X w e w2 := ⟨h.1, hm.trans h.2.1, h.2.2⟩
end Go.Proofs.YtjmnkdkdjnmejaaGreatDoor
