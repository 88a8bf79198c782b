/- Leases of a center: the program's center and the reference's store do the same to the same state. Conditions: a window limit that was checked. -/
import Derived.Test.YtinnckbffblecaaGreatAsks
import Derived.Test.YtinnckbffblecaaGreatMaps
import Derived.Test.YtinnckbffblecaaGreatBucket
import Derived.Maps.RangeRun
import Derived.Carry
namespace Go.Proofs.YtinnckbffblecaaGreat
open Go.RowKit
set_option linter.unusedVariables false
set_option linter.unusedSimpArgs false

abbrev Gv := List (ByteArray × Int)
def gv (g : Gv) : List (ByteArray × Value) := g.map fun p => (p.1, .int .i64 p.2)
def iget (g : Gv) (k : ByteArray) : Option Int := (g.find? fun p => decide (p.1 = k)).map (·.2)
def iput (g : Gv) (k : ByteArray) (x : Int) : Gv := if (iget g k).isSome then g.map (fun p => if p.1 = k then (p.1, x) else p) else g ++ [(k, x)]
def isum (g : Gv) : Int := (g.map (·.2)).sum
def igot (g : Gv) (k : ByteArray) : Int := (iget g k).getD 0

theorem aget_gv (g : Gv) (k : ByteArray) : aget (gv g) k = (iget g k).map (Value.int .i64) := by
  induction g with
  | nil => rfl
  | cons p g ih =>
    by_cases h : p.1 = k
    · simp [aget, iget, gv, h]
    · simp only [aget, iget, gv, List.map_cons, List.find?_cons, h, decide_false] at *
      exact ih
theorem aget_gv_getD (g : Gv) (k : ByteArray) : (aget (gv g) k).getD (.int .i64 0) = .int .i64 (igot g k) := by
  rw [aget_gv, igot]
  cases iget g k <;> rfl
theorem aget_gv_isSome (g : Gv) (k : ByteArray) : (aget (gv g) k).isSome = (iget g k).isSome := by
  rw [aget_gv]; cases iget g k <;> rfl
theorem aput_gv (g : Gv) (k : ByteArray) (x : Int) : aput (gv g) k (.int .i64 x) = gv (iput g k x) := by
  unfold aput iput
  rw [aget_gv_isSome]
  split
  · simp only [gv, List.map_map]
    apply List.map_congr_left
    intro p hp
    by_cases h : p.1 = k <;> simp [h]
  · simp [gv]

theorem iget_ne {p : ByteArray × Int} {g : Gv} {k : ByteArray} (h : p.1 ≠ k) : iget (p :: g) k = iget g k := by
  simp only [iget, List.find?_cons, h, decide_false]
theorem iget_eq {p : ByteArray × Int} {g : Gv} {k : ByteArray} (h : p.1 = k) : iget (p :: g) k = some p.2 := by
  simp only [iget, List.find?_cons, h, decide_true, Option.map_some]
theorem iput_ne {p : ByteArray × Int} {g : Gv} {k : ByteArray} (x : Int) (h : p.1 ≠ k) : iput (p :: g) k x = p :: iput g k x := by
  unfold iput
  rw [iget_ne h]
  split
  · simp [h]
  · simp
theorem iput_eq {p : ByteArray × Int} {g : Gv} {k : ByteArray} (x : Int) (h : p.1 = k) : iput (p :: g) k x = (p.1, x) :: g.map (fun q => if q.1 = k then (q.1, x) else q) := by
  unfold iput
  rw [iget_eq h]
  simp [h]
theorem isum_iput {g : Gv} (hnd : (g.map (·.1)).Nodup) (k : ByteArray) (x : Int) : isum (iput g k x) = isum g - igot g k + x := by
  induction g with
  | nil => simp [iput, iget, isum, igot]
  | cons p g ih =>
    rw [List.map_cons, List.nodup_cons] at hnd
    have ih := ih hnd.2
    by_cases h : p.1 = k
    · have hrest : g.map (fun q => if q.1 = k then (q.1, x) else q) = g := by
        conv => rhs; rw [← List.map_id g]
        apply List.map_congr_left
        intro q hq
        rw [if_neg]
        · rfl
        · intro e
          exact hnd.1 (by rw [h, ← e]; exact List.mem_map.2 ⟨q, hq, rfl⟩)
      rw [iput_eq x h, hrest, igot, iget_eq h]
      simp [isum]
      omega
    · rw [iput_ne x h, igot, iget_ne h]
      rw [igot] at ih
      simp only [isum, List.map_cons, List.sum_cons] at *
      omega
theorem iput_nonneg {g : Gv} {k : ByteArray} {x : Int} (h : ∀ p ∈ g, 0 ≤ p.2) (hx : 0 ≤ x) : ∀ p ∈ iput g k x, 0 ≤ p.2 := by
  intro p hp
  unfold iput at hp
  split at hp
  · obtain ⟨q, hq, rfl⟩ := List.mem_map.1 hp
    split
    · exact hx
    · exact h q hq
  · rcases List.mem_append.1 hp with hp | hp
    · exact h p hp
    · simp at hp; subst hp; exact hx
theorem iput_nodup {g : Gv} {k : ByteArray} {x : Int} (h : (g.map (·.1)).Nodup) : ((iput g k x).map (·.1)).Nodup := by
  unfold iput
  split
  · have : (g.map (fun p => if p.1 = k then (p.1, x) else p)).map (·.1) = g.map (·.1) := by
      rw [List.map_map]
      apply List.map_congr_left
      intro p hp
      simp only [Function.comp]
      split <;> rfl
    rw [this]; exact h
  · rename_i hn
    rw [List.map_append, List.nodup_append]
    refine ⟨h, by simp, ?_⟩
    intro a ha b hb
    simp at hb
    subst hb
    rintro rfl
    obtain ⟨p, hp, hpk⟩ := List.mem_map.1 ha
    apply hn
    unfold iget
    rw [Option.isSome_map, List.find?_isSome]
    exact ⟨p, hp, by simpa using hpk⟩
theorem igot_le {g : Gv} (h : ∀ p ∈ g, 0 ≤ p.2) (k : ByteArray) : 0 ≤ igot g k ∧ igot g k ≤ isum g := by
  induction g with
  | nil => simp [igot, iget, isum]
  | cons p g ih =>
    have hp := h p (by simp)
    have ih := ih (fun q hq => h q (by simp [hq]))
    by_cases e : p.1 = k
    · rw [igot, iget_eq e]
      simp only [isum, List.map_cons, List.sum_cons, Option.getD_some] at *
      omega
    · rw [igot, iget_ne e]
      rw [igot] at ih
      simp only [isum, List.map_cons, List.sum_cons] at *
      omega

/-- what the two count: the moment of the last call, and what was given in its window -/
structure CS where
  now : Int
  g : Gv
structure CS.Ok (l : Lim) (s : CS) : Prop where
  now0 : 0 ≤ s.now
  now1 : s.now < 345686400000
  pos : ∀ p ∈ s.g, 0 ≤ p.2
  sum : isum s.g ≤ l.most
  nodup : (s.g.map (·.1)).Nodup
/-- a window limit that was checked -/
structure WLim (l : Lim) : Prop where
  most : 1 ≤ l.most ∧ l.most ≤ 1000000000
  per : 1 ≤ l.per ∧ l.per ≤ 8640000000

def thereG (l : Lim) (s : CS) (t : Int) : Gv := if t / l.per = s.now / l.per then s.g else []
def timeF (s : CS) (t : Int) : Int := if !isMoment t then 1 else if t < s.now then 7 else 0
def callF (s : CS) (t : Int) (gate : ByteArray) (many : Int) : Int :=
  if timeF s t ≠ 0 then timeF s t else if !isKey gate then 5 else if !(decide (1 ≤ many) && decide (many ≤ 1000000000)) then 1 else 0
def leaseC (l : Lim) (s : CS) (t : Int) (gate : ByteArray) (want : Int) : (Int × Int) × CS :=
  if callF s t gate want ≠ 0 then ((0, callF s t gate want), s)
  else if !(iget (thereG l s t) gate).isSome && decide (50 ≤ (thereG l s t).length) then ((0, 12), s)
  else ((min want (l.most - isum (thereG l s t)), 0), ⟨t, iput (thereG l s t) gate (igot (thereG l s t) gate + min want (l.most - isum (thereG l s t)))⟩)
def returnC (l : Lim) (s : CS) (t : Int) (gate : ByteArray) (many : Int) : Int × CS :=
  if callF s t gate many ≠ 0 then (callF s t gate many, s)
  else if igot (thereG l s t) gate < many then (16, s)
  else (0, ⟨t, iput (thereG l s t) gate (igot (thereG l s t) gate - many)⟩)
def freeC (l : Lim) (s : CS) (t : Int) : (Int × Int) × CS :=
  if timeF s t ≠ 0 then ((0, timeF s t), s) else ((l.most - isum (thereG l s t), 0), ⟨t, thereG l s t⟩)

theorem timeF_ok {s : CS} {t : Int} (h : timeF s t = 0) : 0 ≤ t ∧ t < 345686400000 ∧ s.now ≤ t := by
  unfold timeF at h
  split at h
  · cases h
  · split at h
    · cases h
    · rename_i h1 h2
      simp [isMoment] at h1
      omega
theorem callF_ok {s : CS} {t : Int} {gate : ByteArray} {many : Int} (h : callF s t gate many = 0) : timeF s t = 0 ∧ isKey gate = true ∧ 1 ≤ many ∧ many ≤ 1000000000 := by
  unfold callF at h
  split at h
  · contradiction
  · rename_i h0
    split at h
    · cases h
    · rename_i h1
      split at h
      · cases h
      · rename_i h2
        simp at h0 h1 h2
        exact ⟨h0, h1, h2⟩
theorem thereG_ok {l : Lim} {s : CS} (h : s.Ok l) (hl : WLim l) (t : Int) : (∀ p ∈ thereG l s t, 0 ≤ p.2) ∧ isum (thereG l s t) ≤ l.most ∧ ((thereG l s t).map (·.1)).Nodup ∧ 0 ≤ isum (thereG l s t) := by
  unfold thereG
  split
  · exact ⟨h.pos, h.sum, h.nodup, by have := igot_le h.pos ⟨#[]⟩; omega⟩
  · exact ⟨by simp, by have := hl.most.1; simp [isum]; omega, by simp, by simp [isum]⟩
theorem leaseC_ok {l : Lim} {s : CS} (h : s.Ok l) (hl : WLim l) (t : Int) (gate : ByteArray) (want : Int) : (leaseC l s t gate want).2.Ok l := by
  obtain ⟨h1, h2, h3, h4⟩ := thereG_ok h hl t
  unfold leaseC
  split
  · exact h
  · rename_i hf
    split
    · exact h
    · obtain ⟨ht, _, hw1, hw2⟩ := callF_ok (by simpa using hf)
      obtain ⟨t0, t1, t2⟩ := timeF_ok ht
      have hg := igot_le h1 gate
      exact ⟨t0, t1, iput_nonneg h1 (by omega), by rw [isum_iput h3]; omega, iput_nodup h3⟩
theorem returnC_ok {l : Lim} {s : CS} (h : s.Ok l) (hl : WLim l) (t : Int) (gate : ByteArray) (many : Int) : (returnC l s t gate many).2.Ok l := by
  obtain ⟨h1, h2, h3, h4⟩ := thereG_ok h hl t
  unfold returnC
  split
  · exact h
  · rename_i hf
    split
    · exact h
    · obtain ⟨ht, _, hw1, hw2⟩ := callF_ok (by simpa using hf)
      obtain ⟨t0, t1, t2⟩ := timeF_ok ht
      have hg := igot_le h1 gate
      exact ⟨t0, t1, iput_nonneg h1 (by omega), by rw [isum_iput h3]; omega, iput_nodup h3⟩
theorem freeC_ok {l : Lim} {s : CS} (h : s.Ok l) (hl : WLim l) (t : Int) : (freeC l s t).2.Ok l := by
  obtain ⟨h1, h2, h3, h4⟩ := thereG_ok h hl t
  unfold freeC
  split
  · exact h
  · rename_i hf
    obtain ⟨t0, t1, t2⟩ := timeF_ok (by simpa using hf)
    exact ⟨t0, t1, h1, h2, h3⟩

/-- the program's center at block gc, its map at block mb -/
def CenterAt (w : World) (gc mb : Nat) (l : Lim) (s : CS) : Prop :=
  Blk w gc 127 #[.string l.key, .int .i64 l.kind, .int .i64 l.most, .int .i64 l.per, .int .i64 l.burst, .int .i64 s.now, .int .i64 (s.now / l.per), .map (some mb), .int .i64 (isum s.g)] ∧ MapOf strKeys w mb (gv s.g)
end Go.Proofs.YtinnckbffblecaaGreat
