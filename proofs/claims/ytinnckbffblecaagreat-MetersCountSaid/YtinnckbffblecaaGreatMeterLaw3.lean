/- The plain law of meters, third part: how long something waits, and what counters know when it was let in. No program in sight. Conditions: right limits, moments that rise. -/
import Derived.Test.YtinnckbffblecaaGreatMeterLaw2
namespace Go.Proofs.YtinnckbffblecaaGreat
open Go.RowKit
set_option linter.unusedVariables false
set_option linter.unusedSimpArgs false

section
variable {l : Lim} {p : List AskD} {τ t cost : Int} {c : Ctr}

theorem rel_used (hp : PastOk p τ) (h : Rel l p τ c) (ht : τ ≤ t) (h3 : l.kind ≠ 3) : mostC l c t = l.most - usedR l p t := by
  cases c with
  | win a n => obtain ⟨_, _, _, h4⟩ := h; simp only [mostC]; rw [h4 t ht]
  | sl ps => obtain ⟨hk, _, θ, hθ, hpm⟩ := h; simp only [mostC]; rw [rel_sum (.inl hk) hp hθ hpm ht]
  | bk a lv => exact absurd h.1 h3
  | on ps => obtain ⟨hk, _, θ, hθ, hpm⟩ := h; simp only [mostC]; rw [rel_sum (.inr hk) hp hθ hpm ht]
theorem rel_filled (hl : RLim' l) (h : Rel l p τ c) (ht : τ ≤ t) (h3 : l.kind = 3) : ∃ a lv, c = .bk a lv ∧ filledR l p t = bucketNow l a lv t ∧ 0 ≤ lv ∧ lv ≤ fullR l ∧ 0 ≤ a ∧ a ≤ t := by
  cases c with
  | win a n => have := h.1; omega
  | sl ps => have := h.1; omega
  | bk a lv =>
    obtain ⟨_, h4, h5, h6, h7, h8⟩ := h
    refine ⟨a, lv, rfl, ?_, h5, h6, h7, by omega⟩
    unfold filledR
    rw [h4]
    exact fill_eq (hl.b h3) h5 h6 (by omega)
  | on ps => have := h.1; omega
theorem rel_left (hl : RLim' l) (hp : PastOk p τ) (h : Rel l p τ c) (ht : τ ≤ t) : leftR l p t = max 0 (mostC l c t) := by
  unfold leftR
  split
  · rename_i h3
    obtain ⟨a, lv, rfl, h4, h5, h6, h7, h8⟩ := rel_filled hl h ht h3
    have hb := hl.b h3
    have hbd := bucketNow_bd l hb a lv t h5 h6 h8
    rw [h4]
    simp only [mostC]
    have := Int.ediv_nonneg hbd.1 (show 0 ≤ l.per by have := hb.per; omega)
    omega
  · rename_i h3
    rw [rel_used hp h ht h3]
theorem most_le (hl : RLim' l) (hp : PastOk p τ) (h : Rel l p τ c) (ht : τ ≤ t) : mostC l c t ≤ greatest l := by
  unfold greatest
  split
  · rename_i h3
    obtain ⟨a, lv, rfl, h4, h5, h6, h7, h8⟩ := rel_filled hl h ht h3
    have hb := hl.b h3
    have hbd := bucketNow_bd l hb a lv t h5 h6 h8
    simp only [mostC]
    have h9 : bucketNow l a lv t / l.per ≤ (l.burst * l.per) / l.per := Int.ediv_le_ediv (by have := hb.per; omega) hbd.2
    rw [Int.mul_ediv_cancel _ (by have := hb.per; omega)] at h9
    exact h9
  · rename_i h3
    rw [rel_used hp h ht h3]
    have := used_nonneg (l := l) hp t
    omega

/-- the first of sorted moments is the least one that permits -/
theorem firstM_least {ms : List Int} (hs : ms.Pairwise (· ≤ ·)) {s : Int} (hm : s ∈ ms) (h1 : t ≤ s) (h2 : cost ≤ leftR l p s) (hmin : ∀ u ∈ ms, t ≤ u → u < s → ¬ cost ≤ leftR l p u) : firstM l p t cost ms = s - t := by
  induction ms with
  | nil => cases hm
  | cons u ms ih =>
    have hs' := List.pairwise_cons.1 hs
    unfold firstM
    by_cases hu : t ≤ u ∧ cost ≤ leftR l p u
    · rw [if_pos hu]
      rcases List.mem_cons.1 hm with rfl | hm'
      · rfl
      · have hle := hs'.1 s hm'
        by_cases e : u = s
        · rw [e]
        · exact absurd hu.2 (hmin u (by simp) hu.1 (by omega))
    · rw [if_neg hu]
      rcases List.mem_cons.1 hm with rfl | hm'
      · exact absurd ⟨h1, h2⟩ hu
      · exact ih hs'.2 hm' (fun v hv => hmin v (by simp [hv]))

/-- how long it waits, by the reference's moments in order -/
def waitR (l : Lim) (p : List AskD) (t cost : Int) (ms : List Int) : Int :=
  if greatest l < cost then -1 else if l.kind = 3 then max 0 ((cost * l.per - filledR l p t + l.most - 1) / l.most) else firstM l p t cost ms

theorem wait_pieces {ps : List Pc} (hk : l.kind = 2 ∨ l.kind = 4) (hl : RLim' l) (hp : PastOk p τ) (hr : Rising ps) {θ : Int} (hθ : θ ≤ τ) (hperm : ps.Perm ((p.map (pieceOf l)).filter fun x => decide (θ < x.until_))) (ht : τ ≤ t)
    (hc : 1 ≤ cost) (hg : cost ≤ l.most) {ms : List Int} (hs : ms.Pairwise (· ≤ ·)) (hpm : ms.Perm (moments l p t)) :
    firstM l p t cost ms = (if cost ≤ l.most - sumC ps t then 0 else waitP ps t (l.most - cost)) ∧ (¬ cost ≤ l.most - sumC ps t → 0 < waitP ps t (l.most - cost)) := by
  have hk3 : l.kind ≠ 3 := by rcases hk with h | h <;> omega
  have hleft : ∀ s, τ ≤ s → leftR l p s = max 0 (l.most - sumC ps s) := fun s hs => by
    unfold leftR; rw [if_neg hk3, rel_sum hk hp hθ hperm hs]
  have hcost : ∀ x ∈ ps, 0 ≤ x.cost := fun x hx => by
    obtain ⟨a, ha, rfl⟩ := List.mem_map.1 (List.mem_filter.1 (hperm.mem_iff.1 hx)).1
    have := (hp.each a ha).2.2.1
    simp only [pieceOf]; omega
  by_cases hle : cost ≤ l.most - sumC ps t
  · refine ⟨?_, fun h => absurd hle h⟩
    rw [if_pos hle]
    have := firstM_least (l := l) (p := p) (t := t) (cost := cost) hs (s := t) (hpm.mem_iff.2 (by simp [moments])) (Int.le_refl _) (by rw [hleft t ht]; omega) (fun u _ h1 h2 => by omega)
    rw [this]; omega
  · rw [if_neg hle]
    obtain ⟨x, hx, h1, h2, h3, h4⟩ := waitGo_spec hr hcost (t := t) (m := l.most - cost) (by omega) (by omega)
    have hw : waitP ps t (l.most - cost) = x.until_ - t := h2
    rw [hw]
    refine ⟨?_, fun _ => by omega⟩
    refine firstM_least hs (s := x.until_) (hpm.mem_iff.2 ?_) (by omega) (by rw [hleft _ (by omega)]; omega) (fun u _ hu1 hu2 => ?_)
    · obtain ⟨a, ha, rfl⟩ := List.mem_map.1 (List.mem_filter.1 (hperm.mem_iff.1 hx)).1
      unfold moments
      refine List.mem_cons.2 (.inr (List.mem_append.2 (.inl ?_)))
      rcases hk with hk | hk
      · rw [if_pos hk, until_2 hk]; exact List.mem_map.2 ⟨a, ha, rfl⟩
      · rw [if_neg (by omega), if_pos hk, until_4 hk]; exact List.mem_map.2 ⟨a, ha, rfl⟩
    · have := h4 u hu1 hu2
      rw [hleft u (by omega)]
      omega

theorem rel_wait (hl : RLim' l) (hp : PastOk p τ) (h : Rel l p τ c) (ht : τ ≤ t) (hc : 1 ≤ cost) {ms : List Int} (hs : ms.Pairwise (· ≤ ·)) (hpm : ms.Perm (moments l p t)) :
    waitR l p t cost ms = (if greatest l < cost then -1 else if cost ≤ mostC l c t then 0 else waitC l c t cost) ∧ (cost ≤ greatest l → ¬ cost ≤ mostC l c t → 0 < waitC l c t cost) := by
  have hml := most_le hl hp h ht
  unfold waitR
  by_cases hg : greatest l < cost
  · rw [if_pos hg, if_pos hg]; exact ⟨rfl, fun h' => absurd hg (by omega)⟩
  · rw [if_neg hg, if_neg hg]
    by_cases h3 : l.kind = 3
    · rw [if_pos h3]
      obtain ⟨a, lv, rfl, h4, h5, h6, h7, h8⟩ := rel_filled hl h ht h3
      have hb := hl.b h3
      have hbd := bucketNow_bd l hb a lv t h5 h6 h8
      obtain ⟨hp1, hp2⟩ := hb.per
      obtain ⟨hm1, hm2⟩ := hb.most
      rw [h4, show mostC l (.bk a lv) t = bucketNow l a lv t / l.per from rfl, show waitC l (.bk a lv) t cost = upDiv (cost * l.per - bucketNow l a lv t) l.most from rfl]
      clear h4 hml h
      generalize bucketNow l a lv t = B at *
      have hle : cost ≤ B / l.per ↔ cost * l.per ≤ B := Int.le_ediv_iff_mul_le (by omega)
      by_cases hcb : cost * l.per ≤ B
      · rw [if_pos (hle.2 hcb)]
        refine ⟨?_, fun _ hn => absurd (hle.2 hcb) hn⟩
        have : (cost * l.per - B + l.most - 1) / l.most ≤ 0 := by
          have h9 : (cost * l.per - B + l.most - 1) / l.most < 1 := Int.ediv_lt_of_lt_mul (by omega) (by omega)
          omega
        omega
      · rw [if_neg (fun hx => hcb (hle.1 hx))]
        have hq := upDiv_quo (cost * l.per - B) l.most (by omega) hm1
        rw [hq]
        have hub := upDiv_bd (cost * l.per - B) l.most (by omega) hm1
        have hpos : 0 < upDiv (cost * l.per - B) l.most := by
          rcases Int.lt_or_le 0 (upDiv (cost * l.per - B) l.most) with h9 | h9
          · exact h9
          · have := upDiv_le (cost * l.per - B) l.most 0 hm1 h9
            simp at this
            omega
        exact ⟨by omega, fun _ _ => hpos⟩
    · rw [if_neg h3]
      have hgm : cost ≤ l.most := by unfold greatest at hg; rw [if_neg h3] at hg; omega
      cases c with
      | bk a lv => exact absurd h.1 h3
      | sl ps =>
        obtain ⟨hk, hr, θ, hθ, hpp⟩ := h
        obtain ⟨h1, h2⟩ := wait_pieces (.inl hk) hl hp hr hθ hpp ht hc hgm hs hpm
        exact ⟨h1, fun _ hn => h2 hn⟩
      | on ps =>
        obtain ⟨hk, hr, θ, hθ, hpp⟩ := h
        obtain ⟨h1, h2⟩ := wait_pieces (.inr hk) hl hp hr hθ hpp ht hc hgm hs hpm
        exact ⟨h1, fun _ hn => h2 hn⟩
      | win a n =>
        obtain ⟨hk, ha, hn0, hu⟩ := h
        obtain ⟨hp1, hp2⟩ := hl.per (by omega)
        have hmul := Int.mul_ediv_add_emod t l.per
        have hr0 := Int.emod_nonneg t (show l.per ≠ 0 by omega)
        have hr1 := Int.emod_lt_of_pos t (show 0 < l.per by omega)
        have hnext : t < (t / l.per + 1) * l.per := by rw [Int.add_mul, Int.mul_comm (t / l.per)]; omega
        have hleft : ∀ s, τ ≤ s → leftR l p s = max 0 (l.most - winUsed l a n s) := fun s hs => by unfold leftR; rw [if_neg h3, hu s hs]
        rw [show mostC l (.win a n) t = l.most - winUsed l a n t from rfl, show waitC l (.win a n) t cost = (t / l.per + 1) * l.per - t from rfl]
        by_cases hle : cost ≤ l.most - winUsed l a n t
        · rw [if_pos hle]
          refine ⟨?_, fun _ hx => absurd hle hx⟩
          have := firstM_least (l := l) (p := p) (t := t) (cost := cost) hs (s := t) (hpm.mem_iff.2 (by simp [moments])) (Int.le_refl _) (by rw [hleft t ht]; omega) (fun u _ h1 h2 => by omega)
          rw [this]; omega
        · rw [if_neg hle]
          refine ⟨?_, fun _ _ => by omega⟩
          have hdt : τ / l.per ≤ t / l.per := Int.ediv_le_ediv (by omega) ht
          have hnw : ((t / l.per + 1) * l.per) / l.per = t / l.per + 1 := Int.mul_ediv_cancel _ (by omega)
          have hmem : (t / l.per + 1) * l.per ∈ moments l p t := by unfold moments; simp [hk]
          refine firstM_least hs (hpm.mem_iff.2 hmem) (by omega) ?_ (fun u hu0 hu1 hu2 => ?_)
          · rw [hleft _ (by omega)]
            unfold winUsed
            rw [hnw, if_neg (by omega)]
            omega
          · have hmu := hpm.mem_iff.1 hu0
            unfold moments at hmu
            simp [hk] at hmu
            rcases hmu with e | e
            · subst e; rw [hleft _ ht]; omega
            · omega

theorem rel_new (hl : RLim' l) : Rel l [] 0 (newC l) := by
  unfold newC
  have hk := hl.kind
  by_cases h1 : l.kind = 1
  · rw [if_pos h1]
    refine ⟨h1, by simp, by omega, fun t _ => ?_⟩
    simp [usedR, winUsed]
  · rw [if_neg h1]
    by_cases h2 : l.kind = 2
    · rw [if_pos h2]; exact ⟨h2, List.Pairwise.nil, 0, by omega, by simp⟩
    · rw [if_neg h2]
      by_cases h3 : l.kind = 3
      · rw [if_pos h3]
        have := (hl.b h3).full
        exact ⟨h3, rfl, by unfold fullR; omega, by omega, by omega, by omega⟩
      · rw [if_neg h3]; exact ⟨by omega, List.Pairwise.nil, 0, by omega, by simp⟩
theorem rel_later (hl : RLim' l) (h : Rel l p τ c) {τ' : Int} (hτ : τ ≤ τ') : Rel l p τ' c := by
  cases c with
  | win a n =>
    obtain ⟨hk, ha, hn0, hu⟩ := h
    have hp := hl.per (by omega)
    exact ⟨hk, Int.le_trans ha (Int.ediv_le_ediv (by omega) hτ), hn0, fun t ht => hu t (by omega)⟩
  | sl ps => obtain ⟨hk, hr, θ, hθ, hpp⟩ := h; exact ⟨hk, hr, θ, by omega, hpp⟩
  | bk a lv => obtain ⟨hk, h4, h5, h6, h7, h8⟩ := h; exact ⟨hk, h4, h5, h6, h7, by omega⟩
  | on ps => obtain ⟨hk, hr, θ, hθ, hpp⟩ := h; exact ⟨hk, hr, θ, by omega, hpp⟩
theorem past_add (hp : PastOk p τ) {k : AskD} (hτ : τ ≤ k.at_) (hc : 1 ≤ k.cost) (hlg : 0 ≤ k.long) : PastOk (p ++ [k]) k.at_ := by
  have := hp.t0
  refine ⟨by omega, fun a ha => ?_⟩
  rcases List.mem_append.1 ha with h | h
  · have := hp.each a h; omega
  · simp at h; subst h; omega

theorem perm_pass {ps : List Pc} {θ u : Int} (h : θ ≤ u) (hpp : ps.Perm ((p.map (pieceOf l)).filter fun x => decide (θ < x.until_))) : (passP ps u).Perm ((p.map (pieceOf l)).filter fun x => decide (u < x.until_)) := by
  unfold passP
  refine (hpp.filter _).trans ?_
  rw [List.filter_filter]
  refine List.Perm.of_eq (List.filter_congr fun x _ => ?_)
  by_cases e : u < x.until_
  · simp [e]; omega
  · simp [e]

theorem rel_add (hl : RLim' l) (hp : PastOk p τ) (h : Rel l p τ c) {k : AskD} (hτ : τ ≤ k.at_) (hc : 1 ≤ k.cost) (hlg : 0 ≤ k.long) (hm : k.cost ≤ mostC l c k.at_) : Rel l (p ++ [k]) k.at_ (addC l c k) := by
  have ht0 := hp.t0
  cases c with
  | win a n =>
    obtain ⟨hk, ha, hn0, hu⟩ := h
    obtain ⟨hp1, hp2⟩ := hl.per (by omega)
    have hd : τ / l.per ≤ k.at_ / l.per := Int.ediv_le_ediv (by omega) hτ
    refine ⟨hk, Int.le_refl _, ?_, fun t ht => ?_⟩
    · unfold winUsed; split <;> omega
    · rw [usedR_append, hu t (by omega)]
      have hdt : k.at_ / l.per ≤ t / l.per := Int.ediv_le_ediv (by omega) ht
      simp only [usedR, countsR, hk, if_true]
      unfold winUsed
      by_cases e : t / l.per = k.at_ / l.per
      · rw [if_pos e, e]
        simp
      · have e2 : ¬ k.at_ / l.per = t / l.per := fun x => e x.symm
        rw [if_neg e, if_neg (show ¬ t / l.per = a by omega)]
        simp [e2]
  | sl ps =>
    obtain ⟨hk, hr, θ, hθ, hpp⟩ := h
    obtain ⟨hp1, hp2⟩ := hl.per (by omega)
    refine ⟨hk, withP_rising (passP_rising hr _) _, k.at_, Int.le_refl _, ?_⟩
    refine (withP_perm _ _).trans ?_
    rw [List.map_append, List.filter_append]
    have hx : ([k].map (pieceOf l)).filter (fun x => decide (k.at_ < x.until_)) = [⟨k.at_ + l.per, k.cost⟩] := by
      simp [pieceOf, hk]; omega
    rw [hx]
    refine (List.Perm.cons _ (perm_pass (by omega) hpp)).trans ?_
    exact (List.perm_append_singleton _ _).symm
  | bk a lv =>
    obtain ⟨hk, h4, h5, h6, h7, h8⟩ := h
    have hb := hl.b hk
    have hbd := bucketNow_bd l hb a lv k.at_ h5 h6 (by omega)
    have hf := fill_eq hb h5 h6 (show a ≤ k.at_ by omega)
    simp only [mostC] at hm
    have hle : k.cost * l.per ≤ bucketNow l a lv k.at_ := (Int.le_ediv_iff_mul_le (by have := hb.per; omega)).1 hm
    have hnn := Int.mul_nonneg (show 0 ≤ k.cost by omega) (show 0 ≤ l.per by have := hb.per; omega)
    refine ⟨hk, ?_, by omega, by unfold fullR; omega, by omega, Int.le_refl _⟩
    rw [poured_append, h4]
    simp only [poured]
    rw [hf]
  | on ps =>
    obtain ⟨hk, hr, θ, hθ, hpp⟩ := h
    have hy : ([k].map (pieceOf l)).filter (fun x => decide (k.at_ < x.until_)) = if 0 < k.long then [⟨k.at_ + k.long, k.cost⟩] else [] := by
      by_cases e : 0 < k.long
      · rw [if_pos e]; simp [pieceOf, hk]; omega
      · rw [if_neg e]; simp [pieceOf, hk]; omega
    simp only [addC]
    by_cases e : 0 < k.long
    · rw [if_pos e]
      rw [if_pos e] at hy
      refine ⟨hk, withP_rising (passP_rising hr _) _, k.at_, Int.le_refl _, ?_⟩
      refine (withP_perm _ _).trans ?_
      rw [List.map_append, List.filter_append, hy]
      refine (List.Perm.cons _ (perm_pass (by omega) hpp)).trans ?_
      exact (List.perm_append_singleton _ _).symm
    · rw [if_neg e]
      rw [if_neg e] at hy
      refine ⟨hk, passP_rising hr _, k.at_, Int.le_refl _, ?_⟩
      rw [List.map_append, List.filter_append, hy, List.append_nil]
      exact perm_pass (by omega) hpp
end

end Go.Proofs.YtinnckbffblecaaGreat
