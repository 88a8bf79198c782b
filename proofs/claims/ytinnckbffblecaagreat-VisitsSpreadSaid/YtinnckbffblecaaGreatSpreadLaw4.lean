/- The plain law of Spread, last part: all visits, one after the other. No program in sight. Conditions: right visits. -/
import Derived.Test.YtinnckbffblecaaGreatSpreadLaw3
namespace Go.Proofs.YtinnckbffblecaaGreat
open Go.RowKit
set_option linter.unusedVariables false
set_option linter.unusedSimpArgs false

def visSelf (v : VisD) : Int := if !isMoment v.at_ then 1 else if !isKey v.gate then 5 else if !(decide (1 ≤ v.cost) && decide (v.cost ≤ 1000000000)) then 1 else 0
def visAt (l : List VisD) (i : Nat) : Int :=
  match l[i]? with
  | none => 0
  | some a => if visSelf a ≠ 0 then visSelf a else if 0 < i ∧ a.at_ < (l[i-1]?.map (·.at_)).getD 0 then 7 else 0
def visitsFault (l : List VisD) : Int := if 3000 < l.length then 2 else firstFault (visAt l) l.length
theorem visAt_eq {ls : List VisD} {i : Nat} {a : VisD} (h : ls[i]? = some a) (p : Int) (hp : 0 < i → ls[i-1]?.map (·.at_) = some p) :
    visAt ls i = if visSelf a ≠ 0 then visSelf a else if 0 < i ∧ a.at_ < p then 7 else 0 := by
  unfold visAt
  rw [h]
  by_cases hi : 0 < i
  · simp [hp hi]
  · simp [hi]
theorem firstFault_all {f : Nat → Int} {n : Nat} (h : firstFault f n = 0) : ∀ k, k < n → f k = 0 := by
  induction n with
  | zero => intro k hk; omega
  | succ n ih =>
    unfold firstFault at h
    split at h
    · rename_i h0
      intro k hk
      by_cases e : k = n
      · subst e; exact h
      · exact ih h0 k (by omega)
    · rename_i h0; exact absurd h h0

/-- the moment of the last one among the first k -/
def timeAt (vs : List VisD) : Nat → Int
  | 0 => 0
  | k + 1 => (vs[k]?.map (·.at_)).getD 0
theorem visits_ok {vs : List VisD} (h : visitsFault vs = 0) : vs.length ≤ 3000 ∧ ∀ k (hk : k < vs.length), 0 ≤ vs[k].at_ ∧ vs[k].at_ < 345686400000 ∧ isKey vs[k].gate = true ∧ (1 ≤ vs[k].cost ∧ vs[k].cost ≤ 1000000000) ∧ timeAt vs k ≤ vs[k].at_ := by
  unfold visitsFault at h
  split at h
  · cases h
  · refine ⟨by omega, fun k hk => ?_⟩
    have h1 := firstFault_all h k hk
    rw [visAt_eq (a := vs[k]) (by simp) (timeAt vs k) (fun h0 => ?_)] at h1
    · split at h1
      · contradiction
      · rename_i h2
        split at h1
        · cases h1
        · rename_i h3
          simp only [ne_eq, Decidable.not_not] at h2
          unfold visSelf isMoment at h2
          split at h2
          · cases h2
          · split at h2
            · cases h2
            · split at h2
              · cases h2
              · rename_i a1 a2 a3
                simp at a1 a2 a3
                refine ⟨by omega, by omega, a2, by omega, ?_⟩
                cases k with
                | zero => simp [timeAt]; omega
                | succ k => omega
    · cases k with
      | zero => omega
      | succ k => simp [timeAt, List.getElem?_eq_getElem (show k < vs.length by omega)]

section
variable (l : Lim) (batch D : Int) (vs : List VisD)
def p00 : PSt := ⟨⟨0, []⟩, fun _ => 0, fun _ => 0, []⟩
def q00 : QSt := ⟨fun _ => 0, fun _ => 0, fun _ => 0, fun _ => false, []⟩
def stP : Nat → PSt
  | 0 => p00
  | k + 1 => match vs[k]? with
    | none => stP k
    | some v => (visitP l batch D (stP k) v).2
def stQ : Nat → QSt
  | 0 => q00
  | k + 1 => match vs[k]? with
    | none => stQ k
    | some v => (visitQ l batch D (stQ k) v).2
def outP : Nat → List Bool
  | 0 => []
  | k + 1 => match vs[k]? with
    | none => outP k
    | some v => outP k ++ [(visitP l batch D (stP l batch D vs k) v).1]
def outQ : Nat → List Bool
  | 0 => []
  | k + 1 => match vs[k]? with
    | none => outQ k
    | some v => outQ k ++ [(visitQ l batch D (stQ l batch D vs k) v).1]
end
section
variable {l : Lim} {batch D : Int} {vs : List VisD} {k : Nat} {v : VisD}
theorem stP_succ (h : vs[k]? = some v) : stP l batch D vs (k + 1) = (visitP l batch D (stP l batch D vs k) v).2 := by rw [stP, h]
theorem stQ_succ (h : vs[k]? = some v) : stQ l batch D vs (k + 1) = (visitQ l batch D (stQ l batch D vs k) v).2 := by rw [stQ, h]
theorem outP_succ (h : vs[k]? = some v) : outP l batch D vs (k + 1) = outP l batch D vs k ++ [(visitP l batch D (stP l batch D vs k) v).1] := by rw [outP, h]
theorem outQ_succ (h : vs[k]? = some v) : outQ l batch D vs (k + 1) = outQ l batch D vs k ++ [(visitQ l batch D (stQ l batch D vs k) v).1] := by rw [outQ, h]
theorem timeAt_succ (h : vs[k]? = some v) : timeAt vs (k + 1) = v.at_ := by rw [timeAt, h]; rfl
end

theorem sims {l : Lim} {batch D : Int} {vs : List VisD} (hl : WLim l) (hD : 0 ≤ D) (hb : 1 ≤ batch ∧ batch ≤ 1000000000) (hv : visitsFault vs = 0) (k : Nat) (hk : k ≤ vs.length) :
    outP l batch D vs k = outQ l batch D vs k ∧ (outP l batch D vs k).length = k ∧ Sim l D (timeAt vs k) k (stP l batch D vs k) (stQ l batch D vs k) := by
  obtain ⟨_, hall⟩ := visits_ok hv
  have hmost := hl.most
  induction k with
  | zero =>
    refine ⟨rfl, rfl, ⟨by simp [stQ, stP, q00, p00], by simp [stP, p00], by simp [stP, stQ, p00, q00], fun g => .inl ⟨rfl, rfl⟩, ?_, ?_, ?_, ?_, by simp [stP, p00], by simp [stP, p00], fun _ => Int.le_refl _, fun _ => Int.le_refl _, by simp [stP, p00], by simp [stP, stQ, p00, q00], Int.le_refl _, fun _ => rfl⟩⟩
    · intro g; simp [stP, p00, timeAt]
    · intro W hW
      simp [stP, stQ, p00, q00, isum]
    · simp [stP, p00, timeAt]
    · exact ⟨by simp [stP, p00], by simp [stP, p00], by simp [stP, p00], by simp [stP, p00, isum]; omega, by simp [stP, p00]⟩
  | succ k ih =>
    obtain ⟨h1, h2, h3⟩ := ih (by omega)
    obtain ⟨a1, a2, a3, a4, a5⟩ := hall k (by omega)
    obtain ⟨v1, v2⟩ := h3.visit hl hD batch hb vs[k] a5 a2 a4
    have hx : vs[k]? = some vs[k] := by simp
    rw [outP_succ hx, outQ_succ hx, stP_succ hx, stQ_succ hx, timeAt_succ hx]
    exact ⟨by rw [h1, v1], by simp [h2], v2⟩

end Go.Proofs.YtinnckbffblecaaGreat
