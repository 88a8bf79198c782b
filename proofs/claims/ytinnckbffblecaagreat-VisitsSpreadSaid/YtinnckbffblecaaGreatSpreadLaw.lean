/- The plain law of Spread: orders at the center, and letters by the post, let in the same visits. No program in sight. Conditions: right arguments. -/
import Derived.Test.YtinnckbffblecaaGreatCenters0
namespace Go.Proofs.YtinnckbffblecaaGreat
open Go.RowKit
set_option linter.unusedVariables false
set_option linter.unusedSimpArgs false

/-- what happens next to an order, or what a letter is -/
structure Ev where
  at_ : Int
  back : Bool
  asked : Int
  gate : ByteArray

def evSide (b : Bool) : Int := if b then 0 else 1
def evCmp (x y : Ev) : Int := orL [Lib.compareInt x.at_ y.at_, Lib.compareInt (evSide x.back) (evSide y.back), Lib.compareInt x.asked y.asked, Lib.compareBytes x.gate.data.toList y.gate.data.toList]

theorem cb_refl (a : List UInt8) : Lib.compareBytes a a = 0 := by
  induction a with
  | nil => rfl
  | cons x a ih => simp [Lib.compareBytes, ih]
theorem cb_eq : ∀ (a b : List UInt8), Lib.compareBytes a b = 0 → a = b
  | [], [], _ => rfl
  | [], _ :: _, h => by simp [Lib.compareBytes] at h
  | _ :: _, [], h => by simp [Lib.compareBytes] at h
  | x :: a, y :: b, h => by
    unfold Lib.compareBytes at h
    by_cases h1 : x < y
    · simp [h1] at h
    · by_cases h2 : y < x
      · simp [h1, h2] at h
      · simp only [h1, h2, if_false] at h
        have : x = y := UInt8.le_antisymm (UInt8.not_lt.1 h2) (UInt8.not_lt.1 h1)
        rw [this, cb_eq a b h]
theorem cb_anti : ∀ (a b : List UInt8), Lib.compareBytes b a = - Lib.compareBytes a b
  | [], [] => rfl
  | [], _ :: _ => rfl
  | _ :: _, [] => rfl
  | x :: a, y :: b => by
    unfold Lib.compareBytes
    by_cases h1 : x < y
    · have h2 : ¬ y < x := UInt8.not_lt.2 (UInt8.le_of_lt h1)
      simp [h1, h2]
    · by_cases h2 : y < x
      · simp [h1, h2]
      · simp only [h1, h2, if_false]
        exact cb_anti a b
theorem cb_trans : ∀ (a b c : List UInt8), Lib.compareBytes a b < 0 → Lib.compareBytes b c < 0 → Lib.compareBytes a c < 0
  | [], _, [], h1, h2 => by
    rename_i b
    cases b with
    | nil => simp [Lib.compareBytes] at h1
    | cons y b => simp [Lib.compareBytes] at h2
  | [], _, _ :: _, _, _ => by simp [Lib.compareBytes]
  | _ :: _, [], _, h1, _ => by simp [Lib.compareBytes] at h1
  | _ :: _, _ :: _, [], _, h2 => by simp [Lib.compareBytes] at h2
  | x :: a, y :: b, z :: c, h1, h2 => by
    unfold Lib.compareBytes at h1 h2 ⊢
    by_cases hxz : x < z
    · simp [hxz]
    · by_cases hxy : x < y
      · by_cases hyz : y < z
        · exact absurd (UInt8.lt_trans hxy hyz) hxz
        · by_cases hzy : z < y
          · simp [hyz, hzy] at h2
          · have : y = z := UInt8.le_antisymm (UInt8.not_lt.1 hzy) (UInt8.not_lt.1 hyz)
            rw [this] at hxy; exact absurd hxy hxz
      · by_cases hyx : y < x
        · simp [hxy, hyx] at h1
        · have hxye : x = y := UInt8.le_antisymm (UInt8.not_lt.1 hyx) (UInt8.not_lt.1 hxy)
          subst hxye
          by_cases hzx : z < x
          · simp [hxz, hzx] at h2
          · simp only [hxz, hzx, if_false] at h2 ⊢
            simp only [UInt8.lt_irrefl, if_false] at h1
            exact cb_trans a b c h1 h2

theorem evCmp_iff (x y : Ev) : evCmp x y < 0 ↔ (x.at_ < y.at_ ∨ (x.at_ = y.at_ ∧ (evSide x.back < evSide y.back ∨ (evSide x.back = evSide y.back ∧ (x.asked < y.asked ∨ (x.asked = y.asked ∧ Lib.compareBytes x.gate.data.toList y.gate.data.toList < 0)))))) := by
  unfold evCmp
  simp only [orL, Lib.compareInt]
  generalize Lib.compareBytes x.gate.data.toList y.gate.data.toList = c
  repeat' split
  all_goals first | omega | (constructor <;> intro h <;> omega)
theorem evCmp_trans {x y z : Ev} (h1 : evCmp x y < 0) (h2 : evCmp y z < 0) : evCmp x z < 0 := by
  rw [evCmp_iff] at *
  have := cb_trans x.gate.data.toList y.gate.data.toList z.gate.data.toList
  generalize Lib.compareBytes x.gate.data.toList y.gate.data.toList = c1 at *
  generalize Lib.compareBytes y.gate.data.toList z.gate.data.toList = c2 at *
  generalize Lib.compareBytes x.gate.data.toList z.gate.data.toList = c3 at *
  omega
theorem evCmp_tie {x y : Ev} (h1 : ¬ evCmp x y < 0) (h2 : ¬ evCmp y x < 0) : x.gate = y.gate := by
  rw [evCmp_iff] at *
  have := cb_anti x.gate.data.toList y.gate.data.toList
  have h0 : Lib.compareBytes x.gate.data.toList y.gate.data.toList = 0 := by omega
  have := cb_eq _ _ h0
  exact ByteArray.ext (Array.ext' (by simpa using this))
/-- 'not behind' is transitive -/
theorem evCmp_le {x y z : Ev} (h1 : evCmp x y < 0) (h2 : ¬ evCmp z y < 0) : ¬ evCmp z x < 0 := fun h => h2 (evCmp_trans h h1)

/-- the number of the first one up to a moment, among the first k -/
def pickN (T : Int) (es : List Ev) : Nat → Option Nat
  | 0 => none
  | k + 1 => match es[k]? with
    | none => pickN T es k
    | some e => if e.at_ ≤ T then (match pickN T es k with
        | none => some k
        | some j => if evCmp e (es[j]?.getD e) < 0 then some k else some j) else pickN T es k
def pick (T : Int) (es : List Ev) : Option Nat := pickN T es es.length

theorem pickN_spec (T : Int) (es : List Ev) (k : Nat) (hk : k ≤ es.length) :
    (pickN T es k = none ∧ ∀ i e, i < k → es[i]? = some e → T < e.at_) ∨
    ∃ j e, pickN T es k = some j ∧ j < k ∧ es[j]? = some e ∧ e.at_ ≤ T ∧ ∀ i e', i < k → es[i]? = some e' → e'.at_ ≤ T → ¬ evCmp e' e < 0 := by
  have irr : ∀ e : Ev, ¬ evCmp e e < 0 := by intro e; rw [evCmp_iff, cb_refl]; omega
  induction k with
  | zero => exact .inl ⟨rfl, fun i e h => absurd h (by omega)⟩
  | succ k ih =>
    have hx : es[k]? = some es[k] := by simp
    have hstep : ∀ i e', i < k + 1 → es[i]? = some e' → i < k ∨ e' = es[k] := by
      intro i e' hi he
      by_cases h : i = k
      · subst h; rw [hx] at he; injection he with he; exact .inr he.symm
      · exact .inl (by omega)
    unfold pickN
    rw [hx]
    simp only
    by_cases hT : es[k].at_ ≤ T
    · rw [if_pos hT]
      rcases ih (by omega) with ⟨h1, h2⟩ | ⟨j, e, h1, hj, he, hle, hmin⟩
      · rw [h1]
        refine .inr ⟨k, es[k], rfl, by omega, hx, hT, fun i e' hi he' hT' => ?_⟩
        rcases hstep i e' hi he' with h | rfl
        · exact absurd hT' (by have := h2 i e' h he'; omega)
        · exact irr _
      · rw [h1]
        simp only [he, Option.getD_some]
        by_cases hc : evCmp es[k] e < 0
        · rw [if_pos hc]
          refine .inr ⟨k, es[k], rfl, by omega, hx, hT, fun i e' hi he' hT' => ?_⟩
          rcases hstep i e' hi he' with h | rfl
          · exact evCmp_le hc (hmin i e' h he' hT')
          · exact irr _
        · rw [if_neg hc]
          refine .inr ⟨j, e, rfl, by omega, he, hle, fun i e' hi he' hT' => ?_⟩
          rcases hstep i e' hi he' with h | rfl
          · exact hmin i e' h he' hT'
          · exact hc
    · rw [if_neg hT]
      rcases ih (by omega) with ⟨h1, h2⟩ | ⟨j, e, h1, hj, he, hle, hmin⟩
      · refine .inl ⟨h1, fun i e hi he => ?_⟩
        rcases hstep i e hi he with h | rfl
        · exact h2 i e h he
        · omega
      · refine .inr ⟨j, e, h1, by omega, he, hle, fun i e' hi he' hT' => ?_⟩
        rcases hstep i e' hi he' with h | rfl
        · exact hmin i e' h he' hT'
        · exact absurd hT' hT

theorem pick_none {T : Int} {es : List Ev} (h : pick T es = none) : ∀ e ∈ es, T < e.at_ := by
  intro e he
  obtain ⟨i, hi, rfl⟩ := List.getElem_of_mem he
  rcases pickN_spec T es es.length (Nat.le_refl _) with ⟨h1, h2⟩ | ⟨j, e, h1, _⟩
  · exact h2 i _ hi (by simp)
  · unfold pick at h; rw [h1] at h; cases h
theorem pick_some {T : Int} {es : List Ev} {j : Nat} (h : pick T es = some j) : ∃ e, es[j]? = some e ∧ e.at_ ≤ T ∧ ∀ e' ∈ es, e'.at_ ≤ T → ¬ evCmp e' e < 0 := by
  rcases pickN_spec T es es.length (Nat.le_refl _) with ⟨h1, h2⟩ | ⟨j', e, h1, hj, he, hle, hmin⟩
  · unfold pick at h; rw [h1] at h; cases h
  · unfold pick at h; rw [h1] at h; injection h with h; subst h
    refine ⟨e, he, hle, fun e' he' hT => ?_⟩
    obtain ⟨i, hi, rfl⟩ := List.getElem_of_mem he'
    exact hmin i _ hi (by simp) hT
theorem nodup_inj {α β : Type} {f : α → β} {l : List α} (h : (l.map f).Nodup) {a b : α} (ha : a ∈ l) (hb : b ∈ l) (e : f a = f b) : a = b := by
  induction l with
  | nil => cases ha
  | cons x l ih =>
    rw [List.map_cons, List.nodup_cons] at h
    rcases List.mem_cons.1 ha with rfl | ha' <;> rcases List.mem_cons.1 hb with rfl | hb'
    · rfl
    · exact absurd (List.mem_map.2 ⟨b, hb', e.symm⟩) h.1
    · exact absurd (List.mem_map.2 ⟨a, ha', e⟩) h.1
    · exact ih h.2 ha' hb'
theorem pick_perm {T : Int} {es fs : List Ev} (hp : es.Perm fs) (hnd : (es.map (·.gate)).Nodup) {j : Nat} (h : pick T es = some j) :
    ∃ k e, pick T fs = some k ∧ es[j]? = some e ∧ fs[k]? = some e ∧ e.at_ ≤ T ∧ ∀ e' ∈ es, e'.at_ ≤ T → e.at_ ≤ e'.at_ := by
  obtain ⟨e, he, hle, hmin⟩ := pick_some h
  have hem : e ∈ es := List.mem_of_getElem? he
  cases hk : pick T fs with
  | none => exact absurd hle (by have := pick_none hk e (hp.mem_iff.1 hem); omega)
  | some k =>
    obtain ⟨f, hf, hfle, hfmin⟩ := pick_some hk
    have hfm : f ∈ es := hp.mem_iff.2 (List.mem_of_getElem? hf)
    have h1 := hmin f hfm hfle
    have h2 := hfmin e (hp.mem_iff.1 hem) hle
    have hg := evCmp_tie h2 h1
    have hef : e = f := nodup_inj hnd hem hfm hg
    subst hef
    refine ⟨k, e, rfl, he, hf, hle, fun e' he' hT => ?_⟩
    have := hmin e' he' hT
    rw [evCmp_iff] at this
    omega
theorem pick_perm_none {T : Int} {es fs : List Ev} (hp : es.Perm fs) (h : pick T es = none) : pick T fs = none := by
  cases hk : pick T fs with
  | none => rfl
  | some k =>
    obtain ⟨f, hf, hfle, _⟩ := pick_some hk
    have := pick_none h f (hp.mem_iff.2 (List.mem_of_getElem? hf))
    omega

end Go.Proofs.YtinnckbffblecaaGreat
