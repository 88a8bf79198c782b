/- The plain law of meters, first part: what counters know of what was let in. No program in sight. Conditions: right limits, moments that rise. -/
import Derived.Test.YtinnckbffblecaaGreatWin
import Derived.Test.YtinnckbffblecaaGreatAsks
namespace Go.Proofs.YtinnckbffblecaaGreat
open Go.RowKit
set_option linter.unusedVariables false
set_option linter.unusedSimpArgs false

/-- what was let in, and when it does not count any more -/
structure Pc where
  until_ : Int
  cost : Int

def sumC : List Pc → Int → Int
  | [], _ => 0
  | x :: l, t => (if t < x.until_ then x.cost else 0) + sumC l t
theorem sumC_append (a b : List Pc) (t : Int) : sumC (a ++ b) t = sumC a t + sumC b t := by
  induction a with
  | nil => simp [sumC]
  | cons x a ih => simp only [List.cons_append, sumC, ih]; omega
theorem sumC_perm {a b : List Pc} (h : a.Perm b) (t : Int) : sumC a t = sumC b t := by
  induction h with
  | nil => rfl
  | cons x _ ih => simp only [sumC, ih]
  | swap x y l => simp only [sumC]; omega
  | trans _ _ h1 h2 => rw [h1, h2]
theorem sumC_filter {l : List Pc} {θ t : Int} (h : θ ≤ t) : sumC (l.filter fun x => decide (θ < x.until_)) t = sumC l t := by
  induction l with
  | nil => rfl
  | cons x l ih =>
    rw [List.filter_cons]
    by_cases hx : θ < x.until_
    · simp only [hx, decide_true, if_true, sumC, ih]
    · simp only [hx, decide_false, sumC]
      rw [if_neg (show ¬ t < x.until_ by omega)]
      simpa using ih
theorem sumC_nonneg {l : List Pc} (h : ∀ x ∈ l, 0 ≤ x.cost) (t : Int) : 0 ≤ sumC l t := by
  induction l with
  | nil => simp [sumC]
  | cons x l ih =>
    have h1 := h x (by simp)
    have h2 := ih (fun y hy => h y (by simp [hy]))
    simp only [sumC]
    split <;> omega
theorem sumC_mono {l : List Pc} (h : ∀ x ∈ l, 0 ≤ x.cost) {s t : Int} (hst : s ≤ t) : sumC l t ≤ sumC l s := by
  induction l with
  | nil => simp [sumC]
  | cons x l ih =>
    have h1 := h x (by simp)
    have h2 := ih (fun y hy => h y (by simp [hy]))
    simp only [sumC]
    split <;> split <;> omega

/-- those that end earlier first -/
def Rising (l : List Pc) : Prop := l.Pairwise fun x y => x.until_ ≤ y.until_

/-- pieces.with: behind all that end no later -/
def withP (l : List Pc) (x : Pc) : List Pc := l.takeWhile (fun y => decide (y.until_ ≤ x.until_)) ++ x :: l.dropWhile (fun y => decide (y.until_ ≤ x.until_))
theorem withP_perm (l : List Pc) (x : Pc) : (withP l x).Perm (x :: l) := by
  unfold withP
  refine List.perm_middle.trans ?_
  rw [List.takeWhile_append_dropWhile]
theorem withP_rising {l : List Pc} (h : Rising l) (x : Pc) : Rising (withP l x) := by
  induction l with
  | nil => simp [withP, Rising]
  | cons y l ih =>
    have h' := List.pairwise_cons.1 h
    unfold withP
    by_cases hy : y.until_ ≤ x.until_
    · rw [List.takeWhile_cons_of_pos (by simpa using hy), List.dropWhile_cons_of_pos (by simpa using hy), List.cons_append]
      refine List.pairwise_cons.2 ⟨fun z hz => ?_, ih h'.2⟩
      rcases List.mem_cons.1 ((withP_perm l x).mem_iff.1 hz) with rfl | hz'
      · exact hy
      · exact h'.1 z hz'
    · rw [List.takeWhile_cons_of_neg (by simpa using hy), List.dropWhile_cons_of_neg (by simpa using hy), List.nil_append]
      refine List.pairwise_cons.2 ⟨fun z hz => ?_, h⟩
      rcases List.mem_cons.1 hz with rfl | hz'
      · omega
      · have := h'.1 z hz'; omega
def passP (l : List Pc) (t : Int) : List Pc := l.filter fun x => decide (t < x.until_)
theorem passP_rising {l : List Pc} (h : Rising l) (t : Int) : Rising (passP l t) := h.filter _

/-- pieces.wait's loop: n is what counts still -/
def waitGo (t m : Int) : List Pc → Int → Int
  | [], _ => 0
  | x :: l, n => if x.until_ ≤ t then waitGo t m l n else if n - x.cost ≤ m then x.until_ - t else waitGo t m l (n - x.cost)
def waitP (l : List Pc) (t m : Int) : Int := waitGo t m l (sumC l t)

/-- where too much counts at t, but all could go: the wait is the first end from which on no more than m counts -/
theorem waitGo_spec {l : List Pc} (hr : Rising l) (hc : ∀ x ∈ l, 0 ≤ x.cost) {t m : Int} (hm : 0 ≤ m) (h : m < sumC l t) :
    ∃ x ∈ l, t < x.until_ ∧ waitGo t m l (sumC l t) = x.until_ - t ∧ sumC l x.until_ ≤ m ∧ ∀ s, t ≤ s → s < x.until_ → m < sumC l s := by
  induction l with
  | nil => simp [sumC] at h; omega
  | cons x l ih =>
    have hr' := List.pairwise_cons.1 hr
    have hc' : ∀ y ∈ l, 0 ≤ y.cost := fun y hy => hc y (by simp [hy])
    by_cases hx : x.until_ ≤ t
    · have e1 : ∀ s, t ≤ s → sumC (x :: l) s = sumC l s := fun s hs => by simp only [sumC]; rw [if_neg (by omega)]; omega
      rw [e1 t (by omega)] at h
      obtain ⟨y, hy, h1, h2, h3, h4⟩ := ih hr'.2 hc' h
      refine ⟨y, by simp [hy], h1, ?_, ?_, fun s hs1 hs2 => ?_⟩
      · rw [e1 t (by omega), waitGo, if_pos hx, h2]
      · rw [e1 _ (by omega)]; exact h3
      · rw [e1 s hs1]; exact h4 s hs1 hs2
    · have e1 : sumC (x :: l) t = x.cost + sumC l t := by simp only [sumC]; rw [if_pos (by omega)]
      rw [waitGo, if_neg hx, e1]
      rw [e1] at h
      have e2 : x.cost + sumC l t - x.cost = sumC l t := by omega
      rw [e2]
      have hall : ∀ s, s < x.until_ → sumC (x :: l) s = x.cost + sumC l s := fun s hs => by simp only [sumC]; rw [if_pos hs]
      have hlater : ∀ s, s < x.until_ → t ≤ s → sumC l s = sumC l t := by
        intro s hs hts
        have : ∀ (k : List Pc), (∀ y ∈ k, x.until_ ≤ y.until_) → sumC k s = sumC k t := by
          intro k
          induction k with
          | nil => intro _; rfl
          | cons z k ihk =>
            intro hk
            have hz := hk z (by simp)
            simp only [sumC]
            rw [ihk (fun y hy => hk y (by simp [hy])), if_pos (by omega), if_pos (by omega)]
        exact this l hr'.1
      by_cases hs : sumC l t ≤ m
      · rw [if_pos hs]
        refine ⟨x, by simp, by omega, rfl, ?_, fun s hs1 hs2 => ?_⟩
        · have : sumC (x :: l) x.until_ = sumC l x.until_ := by simp only [sumC]; rw [if_neg (by omega)]; omega
          rw [this]
          have := sumC_mono hc' (s := t) (t := x.until_) (by omega)
          omega
        · rw [hall s hs2, hlater s hs2 hs1]; omega
      · rw [if_neg hs]
        obtain ⟨y, hy, h1, h2, h3, h4⟩ := ih hr'.2 hc' (by omega)
        have hxy := hr'.1 y hy
        have hcx := hc x (by simp)
        refine ⟨y, by simp [hy], h1, h2, ?_, fun s hs1 hs2 => ?_⟩
        · have : sumC (x :: l) y.until_ = sumC l y.until_ := by simp only [sumC]; rw [if_neg (by omega)]; omega
          rw [this]; exact h3
        · have := h4 s hs1 hs2
          simp only [sumC]
          split <;> omega

end Go.Proofs.YtinnckbffblecaaGreat
