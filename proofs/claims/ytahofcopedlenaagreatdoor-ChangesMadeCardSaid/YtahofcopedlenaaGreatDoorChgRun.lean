/- Changes of values, the plain law: what is known of a value while changes are made, one after another. No conditions. -/
import Derived.Test.YtahofcopedlenaaGreatDoorChgMem
namespace Go.Proofs.YtahofcopedlenaaGreatDoor
open Go.RowKit
set_option linter.unusedVariables false
set_option linter.unusedSimpArgs false

/-- a change that both can make -/
structure COk (D m : Nat) (c : ChD) : Prop where
  ok : OkC D c
  at_ : ∀ s ∈ c.path, 0 ≤ s.at_ ∧ s.at_ ≤ 5000
  wide : Wide m D c.val
  low : vW D c.val ≤ 90000000
theorem COk.more {D m : Nat} {c : ChD} (h : COk D m c) : COk D (m + 1) c := ⟨h.ok, h.at_, Wide.mono (Nat.le_succ m) _ _ h.wide, h.low⟩
theorem stepF_ok {s : St} (h : stepF s = 0) : s.name.size ≤ 100 ∧ 0 ≤ s.at_ ∧ s.at_ ≤ 5000 := by
  unfold stepF at h
  split at h
  · omega
  · split at h
    · rename_i h1; exact absurd h h1
    · rename_i h1
      split at h
      · omega
      · rename_i h2
        refine ⟨?_, by omega, by omega⟩
        have h3 : nameF s.name = 0 := Decidable.not_not.1 h1
        unfold nameF at h3
        split at h3
        · omega
        · omega
theorem pathF_ok {p : List St} (h : pathF p = 0) : p.length ≤ 50 ∧ ∀ s ∈ p, s.name.size ≤ 100 ∧ 0 ≤ s.at_ ∧ s.at_ ≤ 5000 := by
  unfold pathF at h
  split at h
  · omega
  · exact ⟨by omega, fun s hs => stepF_ok (fz_zero h _ (List.mem_map.2 ⟨s, hs, rfl⟩))⟩
theorem chg_ok {D m : Nat} {c : ChD} (h : chgF D c = 0) (hd : Deep D c.val) (hw : Wide m D c.val) (hl : vW D c.val ≤ 90000000) : COk D m c := by
  unfold chgF at h
  split at h
  · omega
  · rename_i h1
    split at h
    · rename_i h2; exact absurd h h2
    · rename_i h2
      split at h
      · omega
      · split at h
        · omega
        · rename_i h4
          obtain ⟨p1, p2⟩ := pathF_ok (Decidable.not_not.1 h2)
          refine ⟨⟨by omega, by omega, fun e => ?_, fun s hs => (p2 s hs).1, p1, hd⟩, fun s hs => (p2 s hs).2, hw, hl⟩
          cases hq : lastNamed c.path with
          | false => rfl
          | true => exact absurd ⟨e, hq⟩ h4
theorem chgs_ok {D m : Nat} {cs : List ChD} (h : chgsF D cs = 0) (hd : ∀ c ∈ cs, Deep D c.val ∧ Wide m D c.val ∧ vW D c.val ≤ 90000000) : ∀ c ∈ cs, COk D m c := by
  unfold chgsF at h
  split at h
  · omega
  · exact fun c hc => chg_ok (fz_zero h _ (List.mem_map.2 ⟨c, hc, rfl⟩)) (hd c hc).1 (hd c hc).2.1 (hd c hc).2.2

/-- what is known of the value behind k changes -/
structure RS (m k d : Nat) (v : VT) : Prop where
  deep : Deep d v
  wide : Wide m d v
  right : vFault d v = 0
  low : vW d v ≤ 100000000 * (k + 1)
theorem RS.good {m k d : Nat} {v : VT} (h : RS m k d v) : Good d v := Good.of d v h.deep h.right
/-- what is known of what a change makes of it -/
structure RN (m k d : Nat) (v : VT) : Prop where
  deep : Deep d v
  wide : Wide m d v
  low : vW d v ≤ 100000000 * (k + 1)
theorem RN.fit {m k d : Nat} {v : VT} (h : RN m k d v) (hm : m ≤ 1000) (hk : k ≤ 8) : Fit d v := ⟨Nat.le_trans h.low (by omega), Wide.mono hm _ _ h.wide⟩
theorem RN.rs {m k d : Nat} {v : VT} (h : RN m k d v) (hv : vCheck d v = 0) : RS m k d v := ⟨h.deep, h.wide, vCheck_fault hv, h.low⟩
theorem RS.rn {m k d : Nat} {v : VT} (h : RS m k d v) : RN m k d v := ⟨h.deep, h.wide, h.low⟩
theorem RN.of {D m k d : Nat} {v r : VT} {c : ChD} (h : RS m k d v) (hc : COk D m c) (ha : Adds d D m (vW D c.val + 604 * c.path.length) v r) : RN (m + 1) (k + 1) (d + D) r := by
  have h1 := h.low
  have h2 := hc.low
  have h3 := hc.ok.2.2.2.2.1
  have h4 := ha.2.1
  exact ⟨ha.1, ha.2.2, by omega⟩
theorem RS.prog {D m k d : Nat} {v : VT} {c : ChD} (h : RS m k d v) (hc : COk D m c) : RN (m + 1) (k + 1) (d + D) (progC c v).1 :=
  RN.of h hc (chg_adds hc.ok.2.2.2.2.2 (Wide.mono (Nat.le_succ m) _ _ hc.wide) c.kind c.path d v hc.ok.2.2.2.1 h.deep h.wide)
theorem RS.ref {D m k d : Nat} {v : VT} {c : ChD} (h : RS m k d v) (hc : COk D m c) : RN (m + 1) (k + 1) (d + D) (refC c v).1 :=
  RN.of h hc (rchg_adds hc.ok.2.2.2.2.2 (Wide.mono (Nat.le_succ m) _ _ hc.wide) c.kind c.path d v hc.ok.2.2.2.1 h.deep h.wide)
theorem runF_nil {f : ChD → VT → VT × Int} {D d i : Nat} {v : VT} : runF f D d v i [] = (0, 0, v) := rfl
theorem runF_stop {f : ChD → VT → VT × Int} {D d i : Nat} {v : VT} {c : ChD} {cs : List ChD} {e : Int} (he : orF (f c v).2 (vCheck (d + D) (f c v).1) = e) (h : e ≠ 0) : runF f D d v i (c :: cs) = (i, e, nilV) := by
  subst he
  unfold runF
  rw [if_pos h]
theorem runF_step {f : ChD → VT → VT × Int} {D d i : Nat} {v : VT} {c : ChD} {cs : List ChD} (h : orF (f c v).2 (vCheck (d + D) (f c v).1) = 0) : runF f D d v i (c :: cs) = runF f D (d + D) (f c v).1 (i + 1) cs := by
  conv => lhs; unfold runF
  rw [if_neg (by simp [h])]
def applyF (D d : Nat) (v : VT) (cs : List ChD) : Nat × Int × VT := if vCheck d v ≠ 0 then (0, vCheck d v, nilV) else if chgsF D cs ≠ 0 then (0, chgsF D cs, nilV) else runF progC D d v 0 cs
/-- an answer of Apply: the value, the place, the error -/
def RApp (w : World) (R : Nat × Int × VT) (e : Ending) (w' : World) : Prop := ∃ (y : VA) (dy : Nat), e = .returned (.tuple #[y.val, .int .i64 R.1, .int .i64 R.2.1]) ∧ Tree w' (fun _ => True) (dy + 1) y R.2.2 ∧ Fit (dy + 1) R.2.2 ∧ dy + 1 ≤ 900 ∧ New w w'

end Go.Proofs.YtahofcopedlenaaGreatDoor
