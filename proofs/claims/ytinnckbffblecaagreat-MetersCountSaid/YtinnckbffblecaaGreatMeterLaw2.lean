/- The plain law of meters, second part: the counters of one limit and one subject against all that was let in. No program in sight. Conditions: right limits, moments that rise. -/
import Derived.Test.YtinnckbffblecaaGreatMeterLaw
import Derived.Test.YtinnckbffblecaaGreatRoom
namespace Go.Proofs.YtinnckbffblecaaGreat
open Go.RowKit
set_option linter.unusedVariables false
set_option linter.unusedSimpArgs false

/-- the reference: does what was let in count at t -/
def countsR (l : Lim) (a : AskD) (t : Int) : Bool :=
  if l.kind = 1 then decide (a.at_ / l.per = t / l.per) else if l.kind = 2 then decide (t - l.per < a.at_) else if l.kind = 4 then decide (a.at_ ≤ t) && decide (t < a.at_ + a.long) else false
def usedR (l : Lim) : List AskD → Int → Int
  | [], _ => 0
  | a :: p, t => (if countsR l a t then a.cost else 0) + usedR l p t
theorem usedR_append (l : Lim) (p q : List AskD) (t : Int) : usedR l (p ++ q) t = usedR l p t + usedR l q t := by
  induction p with
  | nil => simp [usedR]
  | cons a p ih => simp only [List.cons_append, usedR, ih]; omega
def fullR (l : Lim) : Int := l.burst * l.per
def fillR (l : Lim) (n last to_ : Int) : Int := if (fullR l - n) / l.most + 1 ≤ to_ - last then fullR l else min (fullR l) (n + (to_ - last) * l.most)
def poured (l : Lim) : List AskD → Int × Int → Int × Int
  | [], s => s
  | a :: p, s => poured l p (fillR l s.1 s.2 a.at_ - a.cost * l.per, a.at_)
theorem poured_append (l : Lim) (p q : List AskD) (s : Int × Int) : poured l (p ++ q) s = poured l q (poured l p s) := by
  induction p generalizing s with
  | nil => rfl
  | cons a p ih => simp only [List.cons_append, poured, ih]
def filledR (l : Lim) (p : List AskD) (t : Int) : Int := fillR l (poured l p (fullR l, 0)).1 (poured l p (fullR l, 0)).2 t
def leftR (l : Lim) (p : List AskD) (t : Int) : Int := if l.kind = 3 then filledR l p t / l.per else max 0 (l.most - usedR l p t)
def greatest (l : Lim) : Int := if l.kind = 3 then l.burst else l.most
/-- the moments at which it can be otherwise -/
def moments (l : Lim) (p : List AskD) (t : Int) : List Int :=
  t :: ((if l.kind = 2 then p.map (fun a => a.at_ + l.per) else if l.kind = 4 then p.map (fun a => a.at_ + a.long) else []) ++ if l.kind = 1 then [(t / l.per + 1) * l.per] else [])
/-- the first of them, in order, from t on, at which so much is permitted -/
def firstM (l : Lim) (p : List AskD) (t cost : Int) : List Int → Int
  | [] => -1
  | s :: ms => if t ≤ s ∧ cost ≤ leftR l p s then s - t else firstM l p t cost ms

/-- the program's counters -/
inductive Ctr where
  | win (at_ n : Int)
  | sl (ps : List Pc)
  | bk (at_ lv : Int)
  | on (ps : List Pc)
def mostC (l : Lim) : Ctr → Int → Int
  | .win a n, t => l.most - winUsed l a n t
  | .sl ps, t => l.most - sumC ps t
  | .bk a lv, t => bucketNow l a lv t / l.per
  | .on ps, t => l.most - sumC ps t
def waitC (l : Lim) : Ctr → Int → Int → Int
  | .win a n, t, _ => (t / l.per + 1) * l.per - t
  | .sl ps, t, cost => waitP ps t (l.most - cost)
  | .bk a lv, t, cost => upDiv (cost * l.per - bucketNow l a lv t) l.most
  | .on ps, t, cost => waitP ps t (l.most - cost)
def addC (l : Lim) : Ctr → AskD → Ctr
  | .win a n, k => .win (k.at_ / l.per) (winUsed l a n k.at_ + k.cost)
  | .sl ps, k => .sl (withP (passP ps k.at_) ⟨k.at_ + l.per, k.cost⟩)
  | .bk a lv, k => .bk k.at_ (bucketNow l a lv k.at_ - k.cost * l.per)
  | .on ps, k => .on (if 0 < k.long then withP (passP ps k.at_) ⟨k.at_ + k.long, k.cost⟩ else passP ps k.at_)
def newC (l : Lim) : Ctr := if l.kind = 1 then .win 0 0 else if l.kind = 2 then .sl [] else if l.kind = 3 then .bk 0 (fullR l) else .on []

/-- a limit that was checked -/
structure RLim' (l : Lim) : Prop where
  kind : 1 ≤ l.kind ∧ l.kind ≤ 4
  most : 1 ≤ l.most ∧ l.most ≤ 1000000000
  per : l.kind ≠ 4 → 1 ≤ l.per ∧ l.per ≤ 8640000000
  burst : l.kind = 3 → 1 ≤ l.burst ∧ l.burst ≤ 1000000000
theorem RLim'.b {l : Lim} (h : RLim' l) (h3 : l.kind = 3) : BLim l := ⟨h.most, h.per (by omega), h.burst h3⟩

/-- what was let in up to τ -/
structure PastOk (p : List AskD) (τ : Int) : Prop where
  t0 : 0 ≤ τ
  each : ∀ a ∈ p, 0 ≤ a.at_ ∧ a.at_ ≤ τ ∧ 1 ≤ a.cost ∧ 0 ≤ a.long
def pieceOf (l : Lim) (a : AskD) : Pc := ⟨if l.kind = 2 then a.at_ + l.per else a.at_ + a.long, a.cost⟩

def Rel (l : Lim) (p : List AskD) (τ : Int) : Ctr → Prop
  | .win a n => l.kind = 1 ∧ a ≤ τ / l.per ∧ 0 ≤ n ∧ ∀ t, τ ≤ t → usedR l p t = winUsed l a n t
  | .sl ps => l.kind = 2 ∧ Rising ps ∧ ∃ θ, θ ≤ τ ∧ ps.Perm ((p.map (pieceOf l)).filter fun x => decide (θ < x.until_))
  | .bk a lv => l.kind = 3 ∧ poured l p (fullR l, 0) = (lv, a) ∧ 0 ≤ lv ∧ lv ≤ fullR l ∧ 0 ≤ a ∧ a ≤ τ
  | .on ps => l.kind = 4 ∧ Rising ps ∧ ∃ θ, θ ≤ τ ∧ ps.Perm ((p.map (pieceOf l)).filter fun x => decide (θ < x.until_))

section
variable {l : Lim} {p : List AskD} {τ t cost : Int} {c : Ctr}

theorem countsR_2 (hk : l.kind = 2) {a : AskD} : countsR l a t = decide (t - l.per < a.at_) := by unfold countsR; rw [if_neg (by omega), if_pos hk]
theorem countsR_4 (hk : l.kind = 4) {a : AskD} : countsR l a t = (decide (a.at_ ≤ t) && decide (t < a.at_ + a.long)) := by unfold countsR; rw [if_neg (by omega), if_neg (by omega), if_pos hk]
theorem until_2 (hk : l.kind = 2) {a : AskD} : (pieceOf l a).until_ = a.at_ + l.per := by unfold pieceOf; rw [if_pos hk]
theorem until_4 (hk : l.kind = 4) {a : AskD} : (pieceOf l a).until_ = a.at_ + a.long := by unfold pieceOf; rw [if_neg (by omega)]
theorem used_pieces (hk : l.kind = 2 ∨ l.kind = 4) (hp : PastOk p τ) (ht : τ ≤ t) : usedR l p t = sumC (p.map (pieceOf l)) t := by
  have : ∀ (q : List AskD), (∀ a ∈ q, a.at_ ≤ τ) → usedR l q t = sumC (q.map (pieceOf l)) t := by
    intro q
    induction q with
    | nil => intro _; rfl
    | cons a q ih =>
      intro h
      have ha := h a (by simp)
      simp only [usedR, List.map_cons, sumC, ih (fun b hb => h b (by simp [hb]))]
      congr 1
      rcases hk with hk | hk
      · rw [countsR_2 hk, until_2 hk]
        by_cases e : t - l.per < a.at_
        · rw [if_pos (by simp only [decide_eq_true_eq]; omega), if_pos (by omega)]; rfl
        · rw [if_neg (by simp only [decide_eq_true_eq]; omega), if_neg (by omega)]
      · rw [countsR_4 hk, until_4 hk]
        by_cases e : t < a.at_ + a.long
        · rw [if_pos (by simp only [Bool.and_eq_true, decide_eq_true_eq]; omega), if_pos e]; rfl
        · rw [if_neg (by simp only [Bool.and_eq_true, decide_eq_true_eq]; omega), if_neg e]
  exact this p (fun a ha => (hp.each a ha).2.1)
theorem rel_sum {ps : List Pc} (hk : l.kind = 2 ∨ l.kind = 4) (hp : PastOk p τ) {θ : Int} (hθ : θ ≤ τ) (hperm : ps.Perm ((p.map (pieceOf l)).filter fun x => decide (θ < x.until_))) (ht : τ ≤ t) : sumC ps t = usedR l p t := by
  rw [used_pieces hk hp ht, sumC_perm hperm, sumC_filter (by omega)]
theorem used_nonneg (hp : PastOk p τ) (t : Int) : 0 ≤ usedR l p t := by
  have : ∀ (q : List AskD), (∀ a ∈ q, 1 ≤ a.cost) → 0 ≤ usedR l q t := by
    intro q
    induction q with
    | nil => intro _; simp [usedR]
    | cons a q ih =>
      intro h
      have h1 := h a (by simp)
      have h2 := ih (fun b hb => h b (by simp [hb]))
      simp only [usedR]
      split <;> omega
  exact this p (fun a ha => (hp.each a ha).2.2.1)

/-- pouring by the one rule and by the other -/
theorem fill_eq (hb : BLim l) {n last to_ : Int} (h0 : 0 ≤ n) (h1 : n ≤ fullR l) (ht : last ≤ to_) : fillR l n last to_ = bucketNow l last n to_ := by
  obtain ⟨hm1, hm2⟩ := hb.most
  unfold fillR bucketNow fullR at *
  generalize hF : l.burst * l.per = F at *
  have hd := Int.mul_ediv_add_emod (F - n) l.most
  have hr0 := Int.emod_nonneg (F - n) (show l.most ≠ 0 by omega)
  have hr1 := Int.emod_lt_of_pos (F - n) (show 0 < l.most by omega)
  have hq0 := Int.ediv_nonneg (show 0 ≤ F - n by omega) (show 0 ≤ l.most by omega)
  generalize (F - n) / l.most = q at *
  by_cases hu : upDiv (F - n) l.most ≤ to_ - last
  · rw [if_pos hu]
    split
    · rfl
    · have hge := upDiv_le (F - n) l.most (to_ - last) hm1 hu
      rw [Int.mul_comm] at hge
      omega
  · rw [if_neg hu]
    have hlt := upDiv_mul (F - n) l.most (to_ - last) (by omega) hm1 (by omega) (by omega)
    have hnn := Int.mul_nonneg (show 0 ≤ l.most by omega) (show 0 ≤ to_ - last by omega)
    rw [Int.mul_comm l.most (to_ - last)] at *
    rw [if_neg]
    · omega
    · intro hge
      have : (q + 1) * l.most ≤ (to_ - last) * l.most := Int.mul_le_mul_of_nonneg_right hge (by omega)
      rw [Int.add_mul, Int.mul_comm q] at this
      omega
end

end Go.Proofs.YtinnckbffblecaaGreat
