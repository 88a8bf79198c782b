/- Several texts in one. (1) Merging of values, the plain law: the program's and the reference's are the same. (For ValuesDiffer.) No conditions. (2) Names that rise, each once: the one list that they make; the changes between two values as a plain list. (For ValuesDiffer.) No conditions. (3) How many changes there are between two values, the plain law. (For ValuesDiffer.) No conditions. (4) How heavy a merged value is, the plain law. (For ValuesDiffer.) No conditions but the depth. (5) How many changes there are between two values: no more than both weigh. (For ValuesDiffer.) No conditions. (6) How many changes there are between two values: no more than there are values in both. (For ValuesDiffer.) No conditions but the depth. (7) The changes between two values, piece by piece: names, items that both have, items that one has. (For ValuesDiffer.) No conditions. (8) Merging, piece by piece, and what its pieces keep. (For ValuesDiffer.) No conditions. (9) What the changes between two values carry. (For ValuesDiffer.) No conditions but the depth. (10) Comparing gives nought just for values that are the same. (For ValuesDiffer.) No conditions but the depth. -/
import Derived.Test.YtjfgfkbgbhbhjaaGreatDoorChgLawGrp

namespace Go.Proofs.YtjfgfkbgbhbhjaaGreatDoor
open Go.RowKit
set_option linter.unusedVariables false
set_option linter.unusedSimpArgs false

theorem insM_cons (p : Mem) (l : List Mem) (x : Mem) : insM (p :: l) x = if cmpB p.1 x.1 < 0 then p :: insM l x else x :: p :: l := by
  unfold insM
  rw [place]
  by_cases h : cmpB p.1 x.1 < 0
  · rw [if_pos h, if_pos h]; rfl
  · rw [if_neg h, if_neg h]; rfl
theorem mem_insM {l : List Mem} {x q : Mem} : q ∈ insM l x ↔ q = x ∨ q ∈ l := by
  induction l with
  | nil => simp [insM, place]
  | cons p l ih =>
    rw [insM_cons]
    split
    · rw [List.mem_cons, ih, List.mem_cons]
      constructor
      · rintro (h | h | h)
        · exact .inr (.inl h)
        · exact .inl h
        · exact .inr (.inr h)
      · rintro (h | h | h)
        · exact .inr (.inl h)
        · exact .inl h
        · exact .inr (.inr h)
    · rw [List.mem_cons]
/-- what is put where it belongs leaves names in order -/
theorem srt_ins : ∀ {l : List Mem} {x : Mem}, Srt l → hasAt l x.1 = false → Srt (insM l x)
  | [], x, _, _ => ⟨fun q hq => by simp [insM, place] at hq, trivial⟩
  | p :: l, x, h, hh => by
    rw [hasAt_cons] at hh
    rw [insM_cons]
    by_cases h1 : cmpB p.1 x.1 < 0
    · rw [if_pos h1] at hh ⊢
      refine ⟨fun q hq => ?_, srt_ins h.2 hh⟩
      rcases mem_insM.1 hq with rfl | hq
      · exact h1
      · exact h.1 q hq
    · rw [if_neg h1] at hh ⊢
      have hne : ¬ p.1 = x.1 := by simpa using hh
      have hlt : cmpB x.1 p.1 < 0 := by
        have h2 := cmpB_swap x.1 p.1
        have h3 : cmpB p.1 x.1 ≠ 0 := fun e => hne ((cmpB_zero p.1 x.1).1 e)
        omega
      refine ⟨fun q hq => ?_, h⟩
      rcases List.mem_cons.1 hq with rfl | hq
      · exact hlt
      · exact cmpB_trans hlt (h.1 q hq)
theorem srt_map : ∀ {l m : List Mem}, l.map (·.1) = m.map (·.1) → Srt l → Srt m
  | [], [], _, h => h
  | [], _ :: _, e, _ => by cases e
  | _ :: _, [], e, _ => by cases e
  | p :: l, q :: m, e, h => by
    simp only [List.map_cons, List.cons.injEq] at e
    refine ⟨fun r hr => ?_, srt_map e.2 h.2⟩
    have hr1 : r.1 ∈ m.map (·.1) := List.mem_map.2 ⟨r, hr, rfl⟩
    rw [← e.2] at hr1
    obtain ⟨s, hs, es⟩ := List.mem_map.1 hr1
    have := h.1 s hs
    rw [← e.1, ← es]
    exact this
/-- another value under the name leaves names in order -/
theorem srt_set {l : List Mem} {x : Mem} (h : Srt l) (hh : hasAt l x.1 = true) : Srt (l.set (place l x.1) x) := by
  obtain ⟨hq, he⟩ := hasAt_lt hh
  refine srt_map ?_ h
  apply List.ext_getElem
  · simp
  · intro i h1 h2
    simp only [List.getElem_map, List.getElem_set]
    split
    · rename_i e; subst e; exact he
    · rfl
theorem srt_set2 {l : List Mem} {s : ByteArray} (v : VT) (h : Srt l) (hh : hasAt l s = true) : Srt (l.set (place l s) (s, v)) := srt_set (x := (s, v)) h hh
theorem srt_ins2 {l : List Mem} {s : ByteArray} (v : VT) (h : Srt l) (hh : hasAt l s = false) : Srt (insM l (s, v)) := srt_ins (x := (s, v)) h hh
theorem srt_sub {l m : List Mem} (hs : m.Sublist l) : Srt l → Srt m := by
  induction hs with
  | slnil => exact id
  | cons a h ih => exact fun hl => ih hl.2
  | cons_cons a h ih => exact fun hl => ⟨fun q hq => hl.1 q (h.subset hq), ih hl.2⟩
theorem srt_del {l : List Mem} (h : Srt l) (k : Nat) : Srt (l.take k ++ l.drop (k + 1)) := by
  rw [← List.eraseIdx_eq_take_drop_succ]
  exact srt_sub (List.eraseIdx_sublist l k) h

/-- one member put into others, as the program does it -/
def mrgSP (f : VT → VT → VT) (out : List Mem) (m : Mem) : List Mem :=
  if m.2.kind = 0 then (if hasAt out m.1 = true then out.take (place out m.1) ++ out.drop (place out m.1 + 1) else out) else
  if hasAt out m.1 = true then out.set (place out m.1) (m.1, f (((out[place out m.1]?).map (·.2)).getD nilV) m.2) else insM out (m.1, f nilV m.2)
/-- as the reference does it -/
def mrgSR (f : VT → VT → VT) (out : List Mem) (m : Mem) : List Mem :=
  if m.2.kind = 0 then out.filter (fun p => !decide (p.1 = m.1)) else putM out (m.1, f (((out.find? fun p => decide (p.1 = m.1)).map (·.2)).getD nilV) m.2)
theorem mrgS_eq (f : VT → VT → VT) {out : List Mem} (h : Srt out) (m : Mem) : mrgSP f out m = mrgSR f out m := by
  unfold mrgSP mrgSR
  by_cases h0 : m.2.kind = 0
  · rw [if_pos h0, if_pos h0, filter_has _ _ h]
  · rw [if_neg h0, if_neg h0, put_has _ _ h, find_has _ _ h]
    by_cases hh : hasAt out m.1 = true
    · simp only [hh, if_true]
    · simp only [hh, Bool.false_eq_true, if_false, Option.map_none, Option.getD_none]
theorem mrgS_srt (f : VT → VT → VT) {out : List Mem} (h : Srt out) (m : Mem) : Srt (mrgSP f out m) := by
  unfold mrgSP
  by_cases h0 : m.2.kind = 0
  · rw [if_pos h0]
    split
    · exact srt_del h _
    · exact h
  · rw [if_neg h0]
    by_cases hh : hasAt out m.1 = true
    · rw [if_pos hh]; exact srt_set2 _ h hh
    · rw [if_neg hh]; exact srt_ins2 _ h (by simpa using hh)
/-- members put into others, to a depth -/
def mrgP : Nat → VT → VT → VT
  | 0, _, b => b
  | d + 1, a, b => if b.kind ≠ 5 then b else .mk 5 false 0 ⟨#[]⟩ [] (b.mem.foldl (mrgSP (mrgP d)) (if a.kind = 5 then a.mem else []))
def mrgR : Nat → VT → VT → VT
  | 0, _, b => b
  | d + 1, a, b => if b.kind ≠ 5 then b else .mk 5 false 0 ⟨#[]⟩ [] (b.mem.foldl (mrgSR (mrgR d)) a.mem)
theorem foldl_mrg {f g : VT → VT → VT} : ∀ (l : List Mem) (P : VT → Prop) (out : List Mem), Srt out → (∀ p ∈ out, P p.2) → P nilV → (∀ p ∈ l, ∀ x, P x → f x p.2 = g x p.2 ∧ P (f x p.2)) → l.foldl (mrgSP f) out = l.foldl (mrgSR g) out ∧ Srt (l.foldl (mrgSP f) out) ∧ ∀ p ∈ l.foldl (mrgSP f) out, P p.2
  | [], _, _, h, hp, _, _ => ⟨rfl, h, hp⟩
  | m :: l, P, out, h, hp, hn, hf => by
    have hold : P (((out[place out m.1]?).map (·.2)).getD nilV) := by
      cases e : out[place out m.1]? with
      | none => exact hn
      | some q => exact hp q (List.mem_of_getElem? e)
    have h1 : mrgSP f out m = mrgSP g out m := by
      unfold mrgSP
      rw [(hf m (by simp) _ hold).1, (hf m (by simp) _ hn).1]
    have hP : ∀ q ∈ mrgSP f out m, P q.2 := by
      intro q hq
      unfold mrgSP at hq
      split at hq
      · split at hq
        · rcases List.mem_append.1 hq with hq | hq
          · exact hp q (List.mem_of_mem_take hq)
          · exact hp q (List.mem_of_mem_drop hq)
        · exact hp q hq
      · split at hq
        · rcases List.mem_or_eq_of_mem_set hq with hq | rfl
          · exact hp q hq
          · exact (hf m (by simp) _ hold).2
        · rcases mem_insM.1 hq with rfl | hq
          · exact (hf m (by simp) _ hn).2
          · exact hp q hq
    rw [List.foldl_cons, List.foldl_cons, ← mrgS_eq g h m, ← h1]
    exact foldl_mrg l P _ (mrgS_srt f h m) hP hn (fun p hpl => hf p (by simp [hpl]))
/-- members stand in order, at every place to a depth -/
def OwnM : Nat → VT → Prop
  | 0, _ => True
  | d + 1, v => Srt v.mem ∧ (v.kind ≠ 5 → v.mem = []) ∧ ∀ p ∈ v.mem, OwnM d p.2
theorem OwnM.nil : ∀ d, OwnM d nilV
  | 0 => trivial
  | d + 1 => ⟨trivial, fun _ => rfl, fun p hp => by simp [nilV, VT.mem] at hp⟩
theorem Good.ownM : ∀ (d : Nat) (v : VT), Good d v → OwnM d v
  | 0, _, _ => trivial
  | d + 1, v, h => ⟨(own_idle h.1).2.2, (own_idle h.1).2.1, fun p hp => Good.ownM d p.2 (h.2.2 p hp)⟩
theorem mrg_eq : ∀ (d : Nat) (a b : VT), OwnM d a → OwnM d b → mrgP d a b = mrgR d a b ∧ OwnM d (mrgP d a b)
  | 0, _, _, _, _ => ⟨rfl, trivial⟩
  | d + 1, a, b, ha, hb => by
    unfold mrgP mrgR
    by_cases hk : b.kind ≠ 5
    · rw [if_pos hk, if_pos hk]; exact ⟨rfl, hb⟩
    · rw [if_neg hk, if_neg hk]
      have e : (if a.kind = 5 then a.mem else []) = a.mem := by
        by_cases h5 : a.kind = 5
        · rw [if_pos h5]
        · rw [if_neg h5, ha.2.1 h5]
      rw [e]
      obtain ⟨h1, h2, h3⟩ := foldl_mrg (f := mrgP d) (g := mrgR d) b.mem (OwnM d) a.mem ha.1 ha.2.2 (OwnM.nil d) (fun p hp x hx => mrg_eq d x p.2 hx (hb.2.2 p hp))
      refine ⟨by rw [h1], h2, fun h => absurd rfl h, h3⟩
end Go.Proofs.YtjfgfkbgbhbhjaaGreatDoor

namespace Go.Proofs.YtjfgfkbgbhbhjaaGreatDoor
open Go.RowKit
set_option linter.unusedVariables false
set_option linter.unusedSimpArgs false

/-- names in order, each once -/
def Ris : List ByteArray → Prop
  | [] => True
  | s :: l => (∀ t ∈ l, cmpB s t < 0) ∧ Ris l
theorem ris_srt : ∀ {l : List Mem}, Srt l → Ris (l.map (·.1))
  | [], _ => trivial
  | p :: l, h => ⟨fun t ht => by
    obtain ⟨q, hq, rfl⟩ := List.mem_map.1 ht
    exact h.1 q hq, ris_srt h.2⟩
theorem cmpB_irr {a : ByteArray} (h : cmpB a a < 0) : False := by rw [cmpB_self] at h; omega
/-- there is one such list of given names -/
theorem ris_one : ∀ {l m : List ByteArray}, Ris l → Ris m → (∀ s, s ∈ l ↔ s ∈ m) → l = m
  | [], [], _, _, _ => rfl
  | [], t :: m, _, _, h => by have := (h t).2 (by simp); cases this
  | s :: l, [], _, _, h => by have := (h s).1 (by simp); cases this
  | s :: l, t :: m, hl, hm, h => by
    have e : s = t := by
      have h1 := (h s).1 (by simp)
      have h2 := (h t).2 (by simp)
      rcases List.mem_cons.1 h1 with h1 | h1
      · exact h1
      · rcases List.mem_cons.1 h2 with h2 | h2
        · exact h2.symm
        · exact (cmpB_irr (cmpB_trans (hm.1 s h1) (hl.1 t h2))).elim
    subst e
    congr 1
    refine ris_one hl.2 hm.2 (fun u => ?_)
    have h3 := h u
    rw [List.mem_cons, List.mem_cons] at h3
    constructor
    · intro hu
      rcases h3.1 (.inr hu) with rfl | h4
      · exact (cmpB_irr (hl.1 _ hu)).elim
      · exact h4
    · intro hu
      rcases h3.2 (.inr hu) with rfl | h4
      · exact (cmpB_irr (hm.1 _ hu)).elim
      · exact h4
theorem hasAt_mem {l : List Mem} (h : Srt l) (s : ByteArray) : hasAt l s = true ↔ s ∈ l.map (·.1) := by
  constructor
  · intro hh
    obtain ⟨hq, he⟩ := hasAt_lt hh
    exact List.mem_map.2 ⟨_, List.getElem_mem hq, he⟩
  · intro hm
    obtain ⟨p, hp, rfl⟩ := List.mem_map.1 hm
    have hf := find_has l p.1 h
    by_cases hh : hasAt l p.1 = true
    · exact hh
    · rw [if_neg hh, List.find?_eq_none] at hf
      have := hf p hp
      simp at this
def risM (l : List ByteArray) : List Mem := l.foldl (fun acc s => if hasAt acc s = true then acc else insM acc (s, nilV)) []
/-- names, in order, each once -/
def risN (l : List ByteArray) : List ByteArray := (risM l).map (·.1)
theorem risM_fold : ∀ (l : List ByteArray) (acc : List Mem), Srt acc → Srt (l.foldl (fun acc s => if hasAt acc s = true then acc else insM acc (s, nilV)) acc) ∧ ∀ t, t ∈ (l.foldl (fun acc s => if hasAt acc s = true then acc else insM acc (s, nilV)) acc).map (·.1) ↔ t ∈ acc.map (·.1) ∨ t ∈ l
  | [], acc, h => ⟨h, fun t => by simp⟩
  | s :: l, acc, h => by
    rw [List.foldl_cons]
    by_cases hh : hasAt acc s = true
    · rw [if_pos hh]
      obtain ⟨h1, h2⟩ := risM_fold l acc h
      refine ⟨h1, fun t => ?_⟩
      rw [h2 t, List.mem_cons]
      constructor
      · rintro (q | q)
        · exact .inl q
        · exact .inr (.inr q)
      · rintro (q | rfl | q)
        · exact .inl q
        · exact .inl ((hasAt_mem h _).1 hh)
        · exact .inr q
    · rw [if_neg hh]
      obtain ⟨h1, h2⟩ := risM_fold l (insM acc (s, nilV)) (srt_ins2 nilV h (by simpa using hh))
      refine ⟨h1, fun t => ?_⟩
      have h3 : t ∈ (insM acc (s, nilV)).map (·.1) ↔ t = s ∨ t ∈ acc.map (·.1) := by
        rw [List.mem_map, List.mem_map]
        constructor
        · rintro ⟨q, hq, rfl⟩
          rcases mem_insM.1 hq with rfl | hq
          · exact .inl rfl
          · exact .inr ⟨q, hq, rfl⟩
        · rintro (rfl | ⟨q, hq, rfl⟩)
          · exact ⟨(t, nilV), mem_insM.2 (.inl rfl), rfl⟩
          · exact ⟨q, mem_insM.2 (.inr hq), rfl⟩
      rw [h2 t, h3, List.mem_cons]
      constructor
      · rintro ((q | q) | q)
        · exact .inr (.inl q)
        · exact .inl q
        · exact .inr (.inr q)
      · rintro (q | q | q)
        · exact .inl (.inr q)
        · exact .inl (.inl q)
        · exact .inr q
theorem risN_ris (l : List ByteArray) : Ris (risN l) := ris_srt (risM_fold l [] trivial).1
theorem mem_risN (l : List ByteArray) (t : ByteArray) : t ∈ risN l ↔ t ∈ l := by
  have h := (risM_fold l [] trivial).2 t
  simp only [List.map_nil, List.not_mem_nil, false_or] at h
  exact h
/-- whatever rises and has a list's names is that list's own -/
theorem ris_risN {l m : List ByteArray} (h : Ris m) (hm : ∀ s, s ∈ m ↔ s ∈ l) : m = risN l := ris_one h (risN_ris l) (fun s => by rw [hm s, mem_risN])
/-- the changes that make a value of another one, to a depth -/
def difF : Nat → VT → VT → List St → List ChD
  | 0, _, _, _ => []
  | d + 1, a, b, p =>
    if vCmp (d + 1) a b = 0 then [] else
    if a.kind = 5 ∧ b.kind = 5 then
      (risN (a.mem.map (·.1) ++ b.mem.map (·.1))).flatMap fun n =>
        match getR a ⟨true, n, 0⟩, getR b ⟨true, n, 0⟩ with
        | _, none => [⟨3, p ++ [⟨true, n, 0⟩], nilV⟩]
        | none, some y => [⟨1, p ++ [⟨true, n, 0⟩], y⟩]
        | some x, some y => difF d x y (p ++ [⟨true, n, 0⟩])
    else if a.kind = 4 ∧ b.kind = 4 then
      ((List.range (min a.list.length b.list.length)).flatMap fun i => difF d (a.list.getD i nilV) (b.list.getD i nilV) (p ++ [⟨false, ⟨#[]⟩, (i : Int)⟩])) ++
      ((List.range (a.list.length - b.list.length)).map fun i => ⟨3, p ++ [⟨false, ⟨#[]⟩, (a.list.length - 1 - i : Nat)⟩], nilV⟩) ++
      ((List.range (b.list.length - a.list.length)).map fun i => ⟨1, p ++ [⟨false, ⟨#[]⟩, (a.list.length + i : Nat)⟩], b.list.getD (a.list.length + i) nilV⟩)
    else [⟨1, p, b⟩]
end Go.Proofs.YtjfgfkbgbhbhjaaGreatDoor

namespace Go.Proofs.YtjfgfkbgbhbhjaaGreatDoor
open Go.RowKit
set_option linter.unusedVariables false
set_option linter.unusedSimpArgs false

theorem ris_nodup : ∀ {l : List ByteArray}, Ris l → l.Nodup
  | [], _ => List.nodup_nil
  | s :: l, h => List.nodup_cons.2 ⟨fun hs => cmpB_irr (h.1 s hs), ris_nodup h.2⟩
/-- what a name's member weighs, if there is one -/
def gotF (l : List Mem) (f : Mem → Nat) (n : ByteArray) : Nat := match l.find? (fun p => decide (p.1 = n)) with | some p => f p | none => 0
theorem zero_sum : ∀ ns : List ByteArray, (ns.map fun _ => 0).sum = 0
  | [] => rfl
  | n :: ns => by
    rw [List.map_cons, List.sum_cons, zero_sum ns]
theorem one_sum (s : ByteArray) (k : Nat) : ∀ ns : List ByteArray, ns.Nodup → (ns.map fun n => if s = n then k else 0).sum ≤ k
  | [], _ => Nat.zero_le _
  | n :: ns, h => by
    rw [List.nodup_cons] at h
    rw [List.map_cons, List.sum_cons]
    by_cases e : s = n
    · subst e
      have h0 : (ns.map fun n => if s = n then k else 0).sum = 0 := by
        have : (ns.map fun n => if s = n then k else 0) = ns.map fun _ => 0 := List.map_congr_left (fun t ht => if_neg (fun e => h.1 (by rw [e]; exact ht)))
        rw [this]
        exact zero_sum ns
      rw [h0, if_pos rfl]
      omega
    · rw [if_neg e]
      have := one_sum s k ns h.2
      omega
theorem sum_add (f g : ByteArray → Nat) : ∀ ns : List ByteArray, (ns.map fun n => f n + g n).sum = (ns.map f).sum + (ns.map g).sum
  | [] => rfl
  | n :: ns => by
    have := sum_add f g ns
    simp only [List.map_cons, List.sum_cons]
    omega
theorem sum_mono {f g : ByteArray → Nat} : ∀ ns : List ByteArray, (∀ n ∈ ns, f n ≤ g n) → (ns.map f).sum ≤ (ns.map g).sum
  | [], _ => Nat.le_refl _
  | n :: ns, h => by
    have h1 := h n (by simp)
    have h2 := sum_mono ns (fun t ht => h t (by simp [ht]))
    simp only [List.map_cons, List.sum_cons]
    omega
theorem got_sum (f : Mem → Nat) : ∀ (l : List Mem) (ns : List ByteArray), ns.Nodup → (ns.map (gotF l f)).sum ≤ (l.map f).sum
  | [], ns, _ => by
    have h := sum_mono (f := gotF [] f) (g := fun _ => 0) ns (fun n _ => Nat.le_refl _)
    rw [zero_sum] at h
    exact Nat.le_trans h (Nat.zero_le _)
  | p :: l, ns, h => by
    have h1 := sum_mono (f := gotF (p :: l) f) (g := fun n => (if p.1 = n then f p else 0) + gotF l f n) ns (fun n _ => by
      unfold gotF
      rw [List.find?_cons]
      by_cases e : p.1 = n
      · simp [e]
      · simp [e])
    rw [sum_add] at h1
    have h2 := one_sum p.1 (f p) ns h
    have h3 := got_sum f l ns h
    rw [List.map_cons, List.sum_cons]
    omega
end Go.Proofs.YtjfgfkbgbhbhjaaGreatDoor

namespace Go.Proofs.YtjfgfkbgbhbhjaaGreatDoor
open Go.RowKit
set_option linter.unusedVariables false
set_option linter.unusedSimpArgs false

/-- the weight of members -/
def memW (d : Nat) (l : List Mem) : Nat := (l.map fun p => vW d p.2 + (6 * p.1.size + 4)).sum
theorem memW_cons (d : Nat) (p : Mem) (l : List Mem) : memW d (p :: l) = vW d p.2 + (6 * p.1.size + 4) + memW d l := by simp [memW]
theorem memW_append (d : Nat) (l m : List Mem) : memW d (l ++ m) = memW d l + memW d m := by simp [memW]
theorem memW_ins (d : Nat) (l : List Mem) (x : Mem) : memW d (insM l x) = memW d l + (vW d x.2 + (6 * x.1.size + 4)) := by
  unfold insM
  rw [memW_append, memW_cons]
  have h : memW d l = memW d (l.take (place l x.1)) + memW d (l.drop (place l x.1)) := by rw [← memW_append, List.take_append_drop]
  omega
theorem memW_del (d : Nat) (k : Nat) : ∀ l : List Mem, memW d (l.take k ++ l.drop (k + 1)) ≤ memW d l := by
  intro l
  rw [memW_append]
  have h : memW d l = memW d (l.take k) + memW d (l.drop k) := by rw [← memW_append, List.take_append_drop]
  by_cases hk : k < l.length
  · rw [List.drop_eq_getElem_cons hk, memW_cons] at h
    omega
  · rw [List.drop_of_length_le (by omega)]
    have : memW d [] = 0 := rfl
    omega
theorem memW_set (d : Nat) (x : Mem) : ∀ (l : List Mem) (k : Nat) (h : k < l.length), l[k].1 = x.1 → memW d (l.set k x) + vW d l[k].2 = memW d l + vW d x.2
  | p :: l, 0, _, e => by
    simp only [List.getElem_cons_zero] at e
    rw [List.set_cons_zero, memW_cons, memW_cons, List.getElem_cons_zero, e]
    omega
  | p :: l, k + 1, h, e => by
    simp only [List.getElem_cons_succ] at e
    rw [List.set_cons_succ, memW_cons, memW_cons, List.getElem_cons_succ]
    have := memW_set d x l k (by simpa using h) e
    omega
theorem vW_memW (d : Nat) (v : VT) : vW (d + 1) v = 40 + 6 * v.words.size + ((v.list.map fun x => vW d x + 1).sum + memW d v.mem) := rfl
theorem deep_nil (d : Nat) : Deep (d + 1) nilV := ⟨fun x hx => by simp [nilV, VT.list] at hx, fun x hx => by simp [nilV, VT.mem] at hx⟩
theorem foldl_w {d : Nat} {f : VT → VT → VT} (hf : ∀ x y, Deep (d + 1) x → Deep (d + 1) y → vW (d + 1) (f x y) + 40 ≤ vW (d + 1) x + vW (d + 1) y ∧ Deep (d + 1) (f x y)) :
    ∀ (l out : List Mem), (∀ p ∈ out, Deep (d + 1) p.2) → (∀ p ∈ l, Deep (d + 1) p.2) → memW (d + 1) (l.foldl (mrgSP f) out) ≤ memW (d + 1) out + memW (d + 1) l ∧ (∀ p ∈ l.foldl (mrgSP f) out, Deep (d + 1) p.2) ∧ (l.foldl (mrgSP f) out).length ≤ out.length + l.length
  | [], out, ho, _ => ⟨by simp [memW], ho, by simp⟩
  | m :: l, out, ho, hl => by
    have hm := hl m (by simp)
    have hstep : memW (d + 1) (mrgSP f out m) ≤ memW (d + 1) out + (vW (d + 1) m.2 + (6 * m.1.size + 4)) ∧ (∀ p ∈ mrgSP f out m, Deep (d + 1) p.2) ∧ (mrgSP f out m).length ≤ out.length + 1 := by
      unfold mrgSP
      split
      · split
        · refine ⟨Nat.le_trans (memW_del _ _ _) (Nat.le_add_right _ _), fun p hp => ?_, ?_⟩
          · rcases List.mem_append.1 hp with hp | hp
            · exact ho p (List.mem_of_mem_take hp)
            · exact ho p (List.mem_of_mem_drop hp)
          · simp only [List.length_append, List.length_take, List.length_drop]; omega
        · exact ⟨Nat.le_add_right _ _, ho, by omega⟩
      · by_cases hh : hasAt out m.1 = true
        · rw [if_pos hh]
          obtain ⟨hq, he⟩ := hasAt_lt hh
          have e : ((out[place out m.1]?).map (·.2)).getD nilV = out[place out m.1].2 := by rw [List.getElem?_eq_getElem hq]; rfl
          rw [e]
          obtain ⟨h1, h2⟩ := hf _ _ (ho _ (List.getElem_mem hq)) hm
          have h3 := memW_set (d + 1) (m.1, f out[place out m.1].2 m.2) out (place out m.1) hq he
          simp only at h3
          refine ⟨by omega, fun p hp => ?_, by simp⟩
          rcases List.mem_or_eq_of_mem_set hp with hp | rfl
          · exact ho p hp
          · exact h2
        · rw [if_neg hh]
          obtain ⟨h1, h2⟩ := hf _ _ (deep_nil d) hm
          have h3 : vW (d + 1) nilV = 40 := rfl
          rw [memW_ins]
          simp only
          refine ⟨by omega, fun p hp => ?_, ?_⟩
          · rcases mem_insM.1 hp with rfl | hp
            · exact h2
            · exact ho p hp
          · unfold insM
            simp only [List.length_append, List.length_cons, List.length_take, List.length_drop]; omega
    obtain ⟨s1, s2, s3⟩ := hstep
    obtain ⟨r1, r2, r3⟩ := foldl_w hf l (mrgSP f out m) s2 (fun p hp => hl p (by simp [hp]))
    rw [List.foldl_cons, memW_cons, List.length_cons]
    exact ⟨by omega, r2, by omega⟩
/-- a merged value is no heavier than both, and no deeper -/
theorem mrg_w : ∀ (d : Nat) (a b : VT), Deep d a → Deep d b → vW d (mrgP d a b) + 40 ≤ vW d a + vW d b ∧ Deep d (mrgP d a b)
  | 0, _, _, h, _ => h.elim
  | d + 1, a, b, ha, hb => by
    have ea := vW_memW d a
    have eb := vW_memW d b
    unfold mrgP
    by_cases hk : b.kind ≠ 5
    · rw [if_pos hk]
      exact ⟨by omega, hb⟩
    · rw [if_neg hk]
      obtain ⟨l0, hl0⟩ : ∃ l0, (if a.kind = 5 then a.mem else []) = l0 := ⟨_, rfl⟩
      rw [hl0]
      have hl1 : memW d l0 ≤ memW d a.mem := by
        rw [← hl0]; split
        · exact Nat.le_refl _
        · exact Nat.zero_le _
      have hl2 : ∀ p ∈ l0, Deep d p.2 := by
        rw [← hl0]; split
        · exact ha.2
        · intro p hp; cases hp
      cases d with
      | zero =>
        have e1 : b.mem = [] := List.eq_nil_iff_forall_not_mem.2 (fun p hp => hb.2 p hp)
        have e2 : l0 = [] := List.eq_nil_iff_forall_not_mem.2 (fun p hp => hl2 p hp)
        rw [e1, e2]
        refine ⟨?_, fun x hx => by simp [VT.list] at hx, fun x hx => by simp [VT.mem] at hx⟩
        have : vW (0 + 1) (VT.mk 5 false 0 ⟨#[]⟩ [] (([] : List Mem).foldl (mrgSP (mrgP 0)) [])) = 40 := rfl
        omega
      | succ d =>
        obtain ⟨r1, r2, -⟩ := foldl_w (fun x y hx hy => mrg_w (d + 1) x y hx hy) b.mem l0 hl2 hb.2
        have e0 : (⟨#[]⟩ : ByteArray).size = 0 := rfl
        have er : vW (d + 1 + 1) (VT.mk 5 false 0 ⟨#[]⟩ [] (b.mem.foldl (mrgSP (mrgP (d + 1))) l0)) = 40 + 6 * (⟨#[]⟩ : ByteArray).size + ((([] : List VT).map fun x => vW (d + 1) x + 1).sum + memW (d + 1) (b.mem.foldl (mrgSP (mrgP (d + 1))) l0)) := rfl
        rw [List.map_nil, List.sum_nil, e0] at er
        refine ⟨?_, fun x hx => by simp [VT.list] at hx, r2⟩
        rw [er]
        omega
theorem foldl_len {f : VT → VT → VT} : ∀ (l out : List Mem), (l.foldl (mrgSP f) out).length ≤ out.length + l.length
  | [], out => by simp
  | m :: l, out => by
    have h1 := foldl_len (f := f) l (mrgSP f out m)
    have h2 : (mrgSP f out m).length ≤ out.length + 1 := by
      unfold mrgSP
      split
      · split
        · simp only [List.length_append, List.length_take, List.length_drop]; omega
        · omega
      · split
        · simp
        · unfold insM
          simp only [List.length_append, List.length_cons, List.length_take, List.length_drop]; omega
    rw [List.foldl_cons, List.length_cons]
    omega
theorem wide_nil (m : Nat) : ∀ d, Wide m d nilV
  | 0 => trivial
  | d + 1 => ⟨Nat.zero_le _, Nat.zero_le _, by show (⟨#[]⟩ : ByteArray).size ≤ 100000; decide, fun x hx => by simp [nilV, VT.list] at hx, fun x hx => by simp [nilV, VT.mem] at hx⟩
theorem foldl_wide {d m1 m2 : Nat} {f : VT → VT → VT} : ∀ (l out : List Mem), Srt l → (∀ x, Wide m1 d x → ∀ p ∈ l, Wide (m1 + m2) d (f x p.2)) → (∀ p ∈ l, p.1.size ≤ 100000) →
    (∀ q ∈ out, q.1.size ≤ 100000 ∧ Wide (m1 + m2) d q.2) → (∀ q ∈ out, (∃ p ∈ l, p.1 = q.1) → Wide m1 d q.2) → ∀ q ∈ l.foldl (mrgSP f) out, q.1.size ≤ 100000 ∧ Wide (m1 + m2) d q.2
  | [], out, _, _, _, ho, _ => ho
  | m :: l, out, hs, hf, hn, ho, hd => by
    have hne : ∀ p ∈ l, ¬ p.1 = m.1 := fun p hp e => by
      have h1 := hs.1 p hp
      rw [e, cmpB_self] at h1
      omega
    rw [List.foldl_cons]
    have hsub : ∀ q ∈ out, (∃ p ∈ l, p.1 = q.1) → Wide m1 d q.2 := fun q hq ⟨p, hp, e⟩ => hd q hq ⟨p, by simp [hp], e⟩
    refine foldl_wide l (mrgSP f out m) hs.2 (fun x hx p hp => hf x hx p (by simp [hp])) (fun p hp => hn p (by simp [hp])) ?_ ?_
    · intro q hq
      unfold mrgSP at hq
      split at hq
      · split at hq
        · rcases List.mem_append.1 hq with hq | hq
          · exact ho q (List.mem_of_mem_take hq)
          · exact ho q (List.mem_of_mem_drop hq)
        · exact ho q hq
      · by_cases hh : hasAt out m.1 = true
        · rw [if_pos hh] at hq
          rcases List.mem_or_eq_of_mem_set hq with hq | rfl
          · exact ho q hq
          · obtain ⟨hp, he⟩ := hasAt_lt hh
            refine ⟨hn m (by simp), hf _ ?_ m (by simp)⟩
            rw [List.getElem?_eq_getElem hp]
            exact hd _ (List.getElem_mem hp) ⟨m, by simp, he.symm⟩
        · rw [if_neg hh] at hq
          rcases mem_insM.1 hq with rfl | hq
          · exact ⟨hn m (by simp), hf _ (wide_nil m1 d) m (by simp)⟩
          · exact ho q hq
    · intro q hq hex
      unfold mrgSP at hq
      split at hq
      · split at hq
        · rcases List.mem_append.1 hq with hq | hq
          · exact hsub q (List.mem_of_mem_take hq) hex
          · exact hsub q (List.mem_of_mem_drop hq) hex
        · exact hsub q hq hex
      · by_cases hh : hasAt out m.1 = true
        · rw [if_pos hh] at hq
          rcases List.mem_or_eq_of_mem_set hq with hq | rfl
          · exact hsub q hq hex
          · obtain ⟨p, hp, e⟩ := hex
            exact absurd e (hne p hp)
        · rw [if_neg hh] at hq
          rcases mem_insM.1 hq with rfl | hq
          · obtain ⟨p, hp, e⟩ := hex
            exact absurd e (hne p hp)
          · exact hsub q hq hex
/-- a merged value's rows are no longer than both values' together -/
theorem mrg_wide {m1 m2 : Nat} : ∀ (d : Nat) (a b : VT), Wide m1 d a → Wide m2 d b → OwnM d b → Wide (m1 + m2) d (mrgP d a b)
  | 0, _, _, _, _, _ => trivial
  | d + 1, a, b, ha, hb, ho => by
    unfold mrgP
    by_cases hk : b.kind ≠ 5
    · rw [if_pos hk]
      exact Wide.mono (Nat.le_add_left _ _) _ _ hb
    · rw [if_neg hk]
      obtain ⟨l0, hl0⟩ : ∃ l0, (if a.kind = 5 then a.mem else []) = l0 := ⟨_, rfl⟩
      rw [hl0]
      have hl2 : ∀ p ∈ l0, p ∈ a.mem := by
        rw [← hl0]; split
        · exact fun p hp => hp
        · intro p hp; cases hp
      have hl3 : l0.length ≤ m1 := by
        rw [← hl0]; split
        · exact ha.2.1
        · exact Nat.zero_le _
      have hw := foldl_wide (m1 := m1) (m2 := m2) (f := mrgP d) b.mem l0 ho.1 (fun x hx p hp => by
        exact mrg_wide d x p.2 hx (hb.2.2.2.2 p hp).2 (ho.2.2 p hp)) (fun p hp => (hb.2.2.2.2 p hp).1)
        (fun q hq => ⟨(ha.2.2.2.2 q (hl2 q hq)).1, Wide.mono (Nat.le_add_right _ _) _ _ (ha.2.2.2.2 q (hl2 q hq)).2⟩) (fun q hq _ => (ha.2.2.2.2 q (hl2 q hq)).2)
      have hlen := foldl_len (f := mrgP d) b.mem l0
      have hb2 := hb.2.1
      exact ⟨Nat.zero_le _, by show (b.mem.foldl (mrgSP (mrgP d)) l0).length ≤ m1 + m2; omega, by show (⟨#[]⟩ : ByteArray).size ≤ 100000; decide, fun x hx => by simp [VT.list] at hx, hw⟩
end Go.Proofs.YtjfgfkbgbhbhjaaGreatDoor

namespace Go.Proofs.YtjfgfkbgbhbhjaaGreatDoor
open Go.RowKit
set_option linter.unusedVariables false
set_option linter.unusedSimpArgs false

theorem gotF_some {l : List Mem} {f : Mem → Nat} {n : ByteArray} {p : Mem} (h : l.find? (fun p => decide (p.1 = n)) = some p) : gotF l f n = f p := by
  unfold gotF; rw [h]
theorem sum_le2 {f g h : Nat → Nat} : ∀ l : List Nat, (∀ i ∈ l, f i ≤ g i + h i) → (l.map f).sum ≤ (l.map g).sum + (l.map h).sum
  | [], _ => Nat.le_refl _
  | i :: l, hh => by
    have h1 := hh i (by simp)
    have h2 := sum_le2 l (fun j hj => hh j (by simp [hj]))
    simp only [List.map_cons, List.sum_cons]
    omega
end Go.Proofs.YtjfgfkbgbhbhjaaGreatDoor

namespace Go.Proofs.YtjfgfkbgbhbhjaaGreatDoor
open Go.RowKit
set_option linter.unusedVariables false
set_option linter.unusedSimpArgs false

theorem names_len2 {g : ByteArray → List ChD} {F : Mem → Nat} {la lb : List Mem} {ns : List ByteArray} (hn : ns.Nodup)
    (h : ∀ n ∈ ns, (g n).length ≤ gotF la F n + gotF lb F n) : (ns.flatMap g).length ≤ (la.map F).sum + (lb.map F).sum := by
  have h1 := sum_mono (f := fun n => (g n).length) ns h
  rw [sum_add] at h1
  have h2 := got_sum F la ns hn
  have h3 := got_sum F lb ns hn
  have h4 : (ns.flatMap g).length = (ns.map fun n => (g n).length).sum := by rw [List.length_flatMap]
  omega
theorem sum_ones {α : Type} (F : α → Nat) : ∀ l : List α, (∀ x ∈ l, 1 ≤ F x) → l.length ≤ (l.map F).sum
  | [], _ => Nat.le_refl _
  | x :: l, h => by
    have h1 := h x (by simp)
    have h2 := sum_ones F l (fun y hy => h y (by simp [hy]))
    simp only [List.map_cons, List.sum_cons, List.length_cons]
    omega
theorem range_sum1 (F : VT → Nat) (l : List VT) (k : Nat) (hk : k ≤ l.length) (h1 : ∀ x ∈ l, 1 ≤ F x) : ((List.range k).map fun i => F (l.getD i nilV)).sum + (l.length - k) ≤ (l.map F).sum := by
  have e : ((List.range k).map fun i => F (l.getD i nilV)) = (l.take k).map F := by
    apply List.ext_getElem
    · simp; omega
    · intro i h1 h2
      simp only [List.length_map, List.length_range] at h1
      simp only [List.getElem_map, List.getElem_range, List.getElem_take]
      rw [List.getD_eq_getElem?_getD, List.getElem?_eq_getElem (by omega)]
      rfl
  rw [e]
  have h2 : (l.map F).sum = ((l.take k).map F).sum + ((l.drop k).map F).sum := by rw [← List.sum_append, ← List.map_append, List.take_append_drop]
  have h3 := sum_ones F (l.drop k) (fun x hx => h1 x (List.mem_of_mem_drop hx))
  rw [List.length_drop] at h3
  omega
theorem many_pos : ∀ (d : Nat) (v : VT), Deep d v → 1 ≤ vMany d v
  | 0, _, h => h.elim
  | d + 1, v, _ => by rw [vMany]; omega
theorem dif_many : ∀ (d : Nat) (a b : VT) (p : List St), Deep d a → Deep d b → (difF d a b p).length ≤ vMany d a + vMany d b
  | 0, _, _, _, h, _ => h.elim
  | d + 1, a, b, p, hda, hdb => by
    have ea : vMany (d + 1) a = 1 + ((a.list.map (vMany d)).sum + (a.mem.map fun p : Mem => vMany d p.2).sum) := rfl
    have eb : vMany (d + 1) b = 1 + ((b.list.map (vMany d)).sum + (b.mem.map fun p : Mem => vMany d p.2).sum) := rfl
    unfold difF
    split
    · simp
    · split
      · have hn := names_len2 (F := fun p : Mem => vMany d p.2) (la := a.mem) (lb := b.mem) (ns := risN (a.mem.map (·.1) ++ b.mem.map (·.1))) (g := fun n =>
          match getR a ⟨true, n, 0⟩, getR b ⟨true, n, 0⟩ with
          | _, none => [⟨3, p ++ [⟨true, n, 0⟩], nilV⟩]
          | none, some y => [⟨1, p ++ [⟨true, n, 0⟩], y⟩]
          | some x, some y => difF d x y (p ++ [⟨true, n, 0⟩])) (ris_nodup (risN_ris _)) (fun n hn => by
          have ra : getR a ⟨true, n, 0⟩ = (a.mem.find? fun p => decide (p.1 = n)).map (·.2) := rfl
          have rb : getR b ⟨true, n, 0⟩ = (b.mem.find? fun p => decide (p.1 = n)).map (·.2) := rfl
          rw [mem_risN, List.mem_append] at hn
          cases e1 : a.mem.find? (fun p => decide (p.1 = n)) with
          | none =>
            cases e2 : b.mem.find? (fun p => decide (p.1 = n)) with
            | none =>
              exfalso
              rw [List.find?_eq_none] at e1 e2
              rcases hn with hn | hn
              · obtain ⟨q, hq, rfl⟩ := List.mem_map.1 hn
                exact e1 q hq (by simp)
              · obtain ⟨q, hq, rfl⟩ := List.mem_map.1 hn
                exact e2 q hq (by simp)
            | some q =>
              rw [gotF_some e2]
              have := many_pos d q.2 (hdb.2 q (List.mem_of_find?_eq_some e2))
              simp only [ra, rb, e1, e2, Option.map_none, Option.map_some, List.length_singleton]
              omega
          | some r =>
            rw [gotF_some e1]
            have h1 := hda.2 r (List.mem_of_find?_eq_some e1)
            have := many_pos d r.2 h1
            cases e2 : b.mem.find? (fun p => decide (p.1 = n)) with
            | none =>
              simp only [ra, rb, e1, e2, Option.map_none, Option.map_some, List.length_singleton]
              omega
            | some q =>
              rw [gotF_some e2]
              simp only [ra, rb, e1, e2, Option.map_some]
              have := dif_many d r.2 q.2 (p ++ [⟨true, n, 0⟩]) h1 (hdb.2 q (List.mem_of_find?_eq_some e2))
              omega)
        refine Nat.le_trans hn ?_
        omega
      · split
        · have h1 := sum_le2 (f := fun i => (difF d (a.list.getD i nilV) (b.list.getD i nilV) (p ++ [⟨false, ⟨#[]⟩, (i : Int)⟩])).length) (g := fun i => vMany d (a.list.getD i nilV)) (h := fun i => vMany d (b.list.getD i nilV)) (List.range (min a.list.length b.list.length)) (fun i hi => by
            rw [List.mem_range] at hi
            refine dif_many d _ _ _ ?_ ?_
            · rw [List.getD_eq_getElem?_getD, List.getElem?_eq_getElem (by omega)]
              exact hda.1 _ (List.getElem_mem _)
            · rw [List.getD_eq_getElem?_getD, List.getElem?_eq_getElem (by omega)]
              exact hdb.1 _ (List.getElem_mem _))
          have h2 := range_sum1 (vMany d) a.list (min a.list.length b.list.length) (by omega) (fun x hx => many_pos d x (hda.1 x hx))
          have h3 := range_sum1 (vMany d) b.list (min a.list.length b.list.length) (by omega) (fun x hx => many_pos d x (hdb.1 x hx))
          simp only [List.length_append, List.length_flatMap, List.length_map, List.length_range]
          omega
        · simp only [List.length_singleton]
          omega
end Go.Proofs.YtjfgfkbgbhbhjaaGreatDoor

namespace Go.Proofs.YtjfgfkbgbhbhjaaGreatDoor
open Go.RowKit
set_option linter.unusedVariables false
set_option linter.unusedSimpArgs false

/-- the changes of one name -/
def nmD (d : Nat) (a b : VT) (p : List St) (n : ByteArray) : List ChD :=
  match getR a ⟨true, n, 0⟩, getR b ⟨true, n, 0⟩ with
  | _, none => [⟨3, p ++ [⟨true, n, 0⟩], nilV⟩]
  | none, some y => [⟨1, p ++ [⟨true, n, 0⟩], y⟩]
  | some x, some y => difF d x y (p ++ [⟨true, n, 0⟩])
theorem nmD_take {d : Nat} {a b : VT} {p : List St} {n : ByteArray} (h : getR b ⟨true, n, 0⟩ = none) : nmD d a b p n = [⟨3, p ++ [⟨true, n, 0⟩], nilV⟩] := by
  unfold nmD; rw [h]
theorem nmD_put {d : Nat} {a b y : VT} {p : List St} {n : ByteArray} (h1 : getR a ⟨true, n, 0⟩ = none) (h2 : getR b ⟨true, n, 0⟩ = some y) : nmD d a b p n = [⟨1, p ++ [⟨true, n, 0⟩], y⟩] := by
  unfold nmD; rw [h1, h2]
theorem nmD_both {d : Nat} {a b x y : VT} {p : List St} {n : ByteArray} (h1 : getR a ⟨true, n, 0⟩ = some x) (h2 : getR b ⟨true, n, 0⟩ = some y) : nmD d a b p n = difF d x y (p ++ [⟨true, n, 0⟩]) := by
  unfold nmD; rw [h1, h2]
/-- the changes of the first k names -/
def nmsD (d : Nat) (a b : VT) (p : List St) (ns : List ByteArray) (k : Nat) : List ChD := (ns.take k).flatMap (nmD d a b p)
theorem nmsD_next (d : Nat) (a b : VT) (p : List St) {ns : List ByteArray} {k : Nat} (h : k < ns.length) : nmsD d a b p ns (k + 1) = nmsD d a b p ns k ++ nmD d a b p ns[k] := by
  unfold nmsD
  rw [List.take_succ_eq_append_getElem h, List.flatMap_append, List.flatMap_singleton]
theorem flatMap_take_len {α β : Type} (f : α → List β) (l : List α) (k : Nat) : ((l.take k).flatMap f).length ≤ (l.flatMap f).length := by
  have h : (l.flatMap f).length = ((l.take k).flatMap f).length + ((l.drop k).flatMap f).length := by
    rw [← List.length_append, ← List.flatMap_append, List.take_append_drop]
  omega
theorem nmsD_le (d : Nat) (a b : VT) (p : List St) (ns : List ByteArray) (k : Nat) : (nmsD d a b p ns k).length ≤ (nmsD d a b p ns ns.length).length := by
  unfold nmsD
  rw [List.take_length]
  exact flatMap_take_len _ _ _
def bothD (d : Nat) (a b : VT) (p : List St) (k : Nat) : List ChD := (List.range k).flatMap fun i => difF d (a.list.getD i nilV) (b.list.getD i nilV) (p ++ [⟨false, ⟨#[]⟩, (i : Int)⟩])
theorem bothD_next (d : Nat) {a b : VT} (p : List St) {k : Nat} (h1 : k < a.list.length) (h2 : k < b.list.length) : bothD d a b p (k + 1) = bothD d a b p k ++ difF d a.list[k] b.list[k] (p ++ [⟨false, ⟨#[]⟩, (k : Int)⟩]) := by
  unfold bothD
  rw [List.range_succ, List.flatMap_append, List.flatMap_singleton, List.getD_eq_getElem?_getD, List.getD_eq_getElem?_getD, List.getElem?_eq_getElem h1, List.getElem?_eq_getElem h2]
  rfl
theorem bothD_le (d : Nat) (a b : VT) (p : List St) {k m : Nat} (h : k ≤ m) : (bothD d a b p k).length ≤ (bothD d a b p m).length := by
  unfold bothD
  have e : List.range k = (List.range m).take k := by rw [List.take_range, Nat.min_eq_left h]
  rw [e]
  exact flatMap_take_len _ _ _
def takeD (n : Nat) (p : List St) (k : Nat) : List ChD := (List.range k).map fun i => ⟨3, p ++ [⟨false, ⟨#[]⟩, (n - 1 - i : Nat)⟩], nilV⟩
theorem takeD_next (n : Nat) (p : List St) (k : Nat) : takeD n p (k + 1) = takeD n p k ++ [⟨3, p ++ [⟨false, ⟨#[]⟩, (n - 1 - k : Nat)⟩], nilV⟩] := by
  unfold takeD
  rw [List.range_succ, List.map_append, List.map_singleton]
theorem takeD_len (n : Nat) (p : List St) (k : Nat) : (takeD n p k).length = k := by simp [takeD]
def putD (n : Nat) (l : List VT) (p : List St) (k : Nat) : List ChD := (List.range k).map fun i => ⟨1, p ++ [⟨false, ⟨#[]⟩, (n + i : Nat)⟩], l.getD (n + i) nilV⟩
theorem putD_next (n : Nat) {l : List VT} (p : List St) {k : Nat} (h : n + k < l.length) : putD n l p (k + 1) = putD n l p k ++ [⟨1, p ++ [⟨false, ⟨#[]⟩, (n + k : Nat)⟩], l[n + k]⟩] := by
  unfold putD
  rw [List.range_succ, List.map_append, List.map_singleton, List.getD_eq_getElem?_getD, List.getElem?_eq_getElem h]
  rfl
theorem putD_len (n : Nat) (l : List VT) (p : List St) (k : Nat) : (putD n l p k).length = k := by simp [putD]
/-- the names of both, in order -/
def nms2 (a b : VT) : List ByteArray := risN (a.mem.map (·.1) ++ b.mem.map (·.1))
theorem difF_same {d : Nat} {a b : VT} (p : List St) (h : vCmp (d + 1) a b = 0) : difF (d + 1) a b p = [] := by
  rw [difF, if_pos h]
theorem difF_mem {d : Nat} {a b : VT} (p : List St) (h : vCmp (d + 1) a b ≠ 0) (ha : a.kind = 5) (hb : b.kind = 5) : difF (d + 1) a b p = nmsD d a b p (nms2 a b) (nms2 a b).length := by
  rw [difF, if_neg h, if_pos ⟨ha, hb⟩]
  unfold nmsD
  rw [List.take_length]
  rfl
theorem difF_list {d : Nat} {a b : VT} (p : List St) (h : vCmp (d + 1) a b ≠ 0) (ha : a.kind = 4) (hb : b.kind = 4) :
    difF (d + 1) a b p = bothD d a b p (min a.list.length b.list.length) ++ takeD a.list.length p (a.list.length - b.list.length) ++ putD a.list.length b.list p (b.list.length - a.list.length) := by
  rw [difF, if_neg h, if_neg (by omega), if_pos ⟨ha, hb⟩]
  rfl
theorem difF_one {d : Nat} {a b : VT} (p : List St) (h : vCmp (d + 1) a b ≠ 0) (h5 : ¬ (a.kind = 5 ∧ b.kind = 5)) (h4 : ¬ (a.kind = 4 ∧ b.kind = 4)) : difF (d + 1) a b p = [⟨1, p, b⟩] := by
  rw [difF, if_neg h, if_neg h5, if_neg h4]
/-- what stands at a name, as the program finds it -/
theorem getR_has {v : VT} (hs : Srt v.mem) (n : ByteArray) (h : hasAt v.mem n = true) : ∃ hq : place v.mem n < v.mem.length, getR v ⟨true, n, 0⟩ = some v.mem[place v.mem n].2 := by
  obtain ⟨hq, he⟩ := hasAt_lt h
  refine ⟨hq, ?_⟩
  rw [getR5 rfl hs]
  simp only
  rw [if_pos h, List.getElem?_eq_getElem hq]
  rfl
theorem getR_not {v : VT} (hs : Srt v.mem) (n : ByteArray) (h : hasAt v.mem n = false) : getR v ⟨true, n, 0⟩ = none := by
  rw [getR5 rfl hs]
  simp only
  rw [h, if_neg (by decide)]
end Go.Proofs.YtjfgfkbgbhbhjaaGreatDoor

namespace Go.Proofs.YtjfgfkbgbhbhjaaGreatDoor
open Go.RowKit
set_option linter.unusedVariables false
set_option linter.unusedSimpArgs false

/-- the members that are there at first -/
def mg0 (a : VT) : List Mem := if a.kind = 5 then a.mem else []
/-- behind the first k members of b -/
def mgK (d : Nat) (a b : VT) (k : Nat) : List Mem := (b.mem.take k).foldl (mrgSP (mrgP d)) (mg0 a)
theorem mgK_next (d : Nat) (a b : VT) {k : Nat} (h : k < b.mem.length) : mgK d a b (k + 1) = mrgSP (mrgP d) (mgK d a b k) b.mem[k] := by
  unfold mgK
  rw [List.take_succ_eq_append_getElem h, List.foldl_append]
  rfl
theorem mrgP_eq {d : Nat} {a b : VT} (h : b.kind = 5) : mrgP (d + 1) a b = .mk 5 false 0 ⟨#[]⟩ [] (mgK d a b b.mem.length) := by
  unfold mrgP mgK mg0
  rw [if_neg (by simpa using h), List.take_length]
theorem mrgP_other {d : Nat} {a b : VT} (h : b.kind ≠ 5) : mrgP (d + 1) a b = b := by
  unfold mrgP
  rw [if_pos h]
theorem mg0_mem {a : VT} {p : Mem} (h : p ∈ mg0 a) : p ∈ a.mem := by
  unfold mg0 at h
  split at h
  · exact h
  · cases h
theorem mgK_own {d : Nat} {a b : VT} (ha : OwnM (d + 1) a) (hb : OwnM (d + 1) b) (k : Nat) : Srt (mgK d a b k) ∧ ∀ p ∈ mgK d a b k, OwnM d p.2 := by
  have h0 : Srt (mg0 a) := by
    unfold mg0
    split
    · exact ha.1
    · trivial
  obtain ⟨-, h1, h2⟩ := foldl_mrg (f := mrgP d) (g := mrgR d) (b.mem.take k) (OwnM d) (mg0 a) h0 (fun p hp => ha.2.2 p (mg0_mem hp)) (OwnM.nil d) (fun p hp x hx => mrg_eq d x p.2 hx (hb.2.2 p (List.mem_of_mem_take hp)))
  exact ⟨h1, h2⟩
theorem mgK_wide {m1 m2 d : Nat} {a b : VT} (ha : Wide m1 (d + 1) a) (hb : Wide m2 (d + 1) b) (ho : OwnM (d + 1) b) (k : Nat) : ∀ q ∈ mgK d a b k, q.1.size ≤ 100000 ∧ Wide (m1 + m2) d q.2 := by
  refine foldl_wide (m1 := m1) (m2 := m2) (f := mrgP d) (b.mem.take k) (mg0 a) (srt_sub (List.take_sublist _ _) ho.1) (fun x hx p hp => ?_) (fun p hp => ?_) (fun q hq => ?_) (fun q hq _ => ?_)
  · have hp2 := List.mem_of_mem_take hp
    exact mrg_wide d x p.2 hx (hb.2.2.2.2 p hp2).2 (ho.2.2 p hp2)
  · exact (hb.2.2.2.2 p (List.mem_of_mem_take hp)).1
  · have h := ha.2.2.2.2 q (mg0_mem hq)
    exact ⟨h.1, Wide.mono (Nat.le_add_right _ _) _ _ h.2⟩
  · exact (ha.2.2.2.2 q (mg0_mem hq)).2
theorem mgK_len (d : Nat) (a b : VT) (k : Nat) : (mgK d a b k).length ≤ a.mem.length + b.mem.length := by
  have h := foldl_len (f := mrgP d) (b.mem.take k) (mg0 a)
  have h2 : (mg0 a).length ≤ a.mem.length := by
    unfold mg0
    split
    · exact Nat.le_refl _
    · exact Nat.zero_le _
  rw [List.length_take] at h
  unfold mgK
  omega
/-- one member's step, by cases -/
theorem mrgSP_del {f : VT → VT → VT} {l : List Mem} {m : Mem} (h0 : m.2.kind = 0) (hh : hasAt l m.1 = true) : mrgSP f l m = l.take (place l m.1) ++ l.drop (place l m.1 + 1) := by
  unfold mrgSP; rw [if_pos h0, if_pos hh]
theorem mrgSP_none {f : VT → VT → VT} {l : List Mem} {m : Mem} (h0 : m.2.kind = 0) (hh : hasAt l m.1 = false) : mrgSP f l m = l := by
  unfold mrgSP; rw [if_pos h0, if_neg (by simp [hh])]
theorem mrgSP_set {f : VT → VT → VT} {l : List Mem} {m : Mem} (h0 : m.2.kind ≠ 0) (hh : hasAt l m.1 = true) (hq : place l m.1 < l.length) : mrgSP f l m = l.set (place l m.1) (m.1, f l[place l m.1].2 m.2) := by
  unfold mrgSP
  rw [if_neg h0, if_pos hh, List.getElem?_eq_getElem hq]
  rfl
theorem mrgSP_ins {f : VT → VT → VT} {l : List Mem} {m : Mem} (h0 : m.2.kind ≠ 0) (hh : hasAt l m.1 = false) : mrgSP f l m = l.take (place l m.1) ++ (m.1, f nilV m.2) :: l.drop (place l m.1) := by
  unfold mrgSP
  rw [if_neg h0, if_neg (by simp [hh])]
  rfl
end Go.Proofs.YtjfgfkbgbhbhjaaGreatDoor

namespace Go.Proofs.YtjfgfkbgbhbhjaaGreatDoor
open Go.RowKit
set_option linter.unusedVariables false
set_option linter.unusedSimpArgs false

/-- what a change may carry -/
def Carr (m W d : Nat) (v : VT) : Prop := v = nilV ∨ (Deep d v ∧ Wide m d v ∧ vW d v ≤ W)
theorem Carr.more {m W d : Nat} {v : VT} (h : Carr m W d v) : Carr m W (d + 1) v := by
  rcases h with h | ⟨h1, h2, h3⟩
  · exact .inl h
  · exact .inr ⟨Deep.more _ _ h1, Wide.deep1 _ _ h1 h2, by rw [vW_deep1 _ _ h1]; exact h3⟩
theorem Carr.at {m W d : Nat} {v x : VT} {s : St} (hd : Deep (d + 1) v) (hw : Wide m (d + 1) v) (hW : vW (d + 1) v ≤ W) (h : getR v s = some x) : Deep d x ∧ Wide m d x ∧ vW d x ≤ W := by
  obtain ⟨h1, h2, h3⟩ := getR_deep h hd hw
  exact ⟨h1, h2, Nat.le_trans h3 hW⟩
theorem Carr.item {m W d : Nat} {v : VT} {i : Nat} (hd : Deep (d + 1) v) (hw : Wide m (d + 1) v) (hW : vW (d + 1) v ≤ W) (h : i < v.list.length) : Deep d (v.list.getD i nilV) ∧ Wide m d (v.list.getD i nilV) ∧ vW d (v.list.getD i nilV) ≤ W := by
  rw [List.getD_eq_getElem?_getD, List.getElem?_eq_getElem h]
  exact ⟨hd.1 _ (List.getElem_mem h), hw.2.2.2.1 _ (List.getElem_mem h), Nat.le_trans (vW_item d v h) hW⟩
theorem dif_ok {m W : Nat} : ∀ (d : Nat) (a b : VT) (p : List St), Deep d b → Wide m d b → vW d b ≤ W → ∀ c ∈ difF d a b p, c.path.length ≤ p.length + d ∧ (c.kind = 1 ∨ c.kind = 3) ∧ Carr m W d c.val
  | 0, _, _, _, h, _, _ => h.elim
  | d + 1, a, b, p, hd, hw, hW => by
    intro c hc
    have hone : ∀ (s : St) (k : Int) (v : VT), (k = 1 ∨ k = 3) → Carr m W (d + 1) v → c = ⟨k, p ++ [s], v⟩ → c.path.length ≤ p.length + (d + 1) ∧ (c.kind = 1 ∨ c.kind = 3) ∧ Carr m W (d + 1) c.val := by
      rintro s k v hk hv rfl
      refine ⟨?_, hk, hv⟩
      simp only [List.length_append, List.length_singleton]
      omega
    have hsub : ∀ (s : St) (x y : VT), Deep d y ∧ Wide m d y ∧ vW d y ≤ W → c ∈ difF d x y (p ++ [s]) → c.path.length ≤ p.length + (d + 1) ∧ (c.kind = 1 ∨ c.kind = 3) ∧ Carr m W (d + 1) c.val := by
      rintro s x y ⟨y1, y2, y3⟩ hcc
      obtain ⟨h1, h2, h3⟩ := dif_ok d x y (p ++ [s]) y1 y2 y3 c hcc
      refine ⟨?_, h2, h3.more⟩
      simp only [List.length_append, List.length_singleton] at h1
      omega
    unfold difF at hc
    split at hc
    · cases hc
    · split at hc
      · rw [List.mem_flatMap] at hc
        obtain ⟨n, -, hc⟩ := hc
        cases ea : getR a ⟨true, n, 0⟩ with
        | none =>
          cases eb : getR b ⟨true, n, 0⟩ with
          | none =>
            simp only [ea, eb, List.mem_singleton] at hc
            exact hone _ _ _ (.inr rfl) (.inl rfl) hc
          | some y =>
            simp only [ea, eb, List.mem_singleton] at hc
            exact hone _ _ _ (.inl rfl) (Carr.more (.inr (Carr.at hd hw hW eb))) hc
        | some x =>
          cases eb : getR b ⟨true, n, 0⟩ with
          | none =>
            simp only [ea, eb, List.mem_singleton] at hc
            exact hone _ _ _ (.inr rfl) (.inl rfl) hc
          | some y =>
            simp only [ea, eb] at hc
            exact hsub _ x y (Carr.at hd hw hW eb) hc
      · split at hc
        · rw [List.mem_append, List.mem_append] at hc
          rcases hc with (hc | hc) | hc
          · rw [List.mem_flatMap] at hc
            obtain ⟨i, hi, hc⟩ := hc
            rw [List.mem_range] at hi
            exact hsub _ _ _ (Carr.item hd hw hW (by omega)) hc
          · rw [List.mem_map] at hc
            obtain ⟨i, -, hc⟩ := hc
            exact hone _ _ _ (.inr rfl) (.inl rfl) hc.symm
          · rw [List.mem_map] at hc
            obtain ⟨i, hi, hc⟩ := hc
            rw [List.mem_range] at hi
            exact hone _ _ _ (.inl rfl) (Carr.more (.inr (Carr.item hd hw hW (by omega)))) hc.symm
        · rw [List.mem_singleton] at hc
          subst hc
          exact ⟨by simp, .inl rfl, .inr ⟨hd, hw, hW⟩⟩
end Go.Proofs.YtjfgfkbgbhbhjaaGreatDoor

namespace Go.Proofs.YtjfgfkbgbhbhjaaGreatDoor
open Go.RowKit
set_option linter.unusedVariables false
set_option linter.unusedSimpArgs false

theorem compareInt_zero (a b : Int) : Lib.compareInt a b = 0 ↔ a = b := by
  unfold Lib.compareInt
  constructor
  · intro h
    split at h
    · omega
    · split at h <;> omega
  · rintro rfl
    simp
theorem cmpL_zero {α : Type} {f : α → α → Int} : ∀ (xs ys : List α), (∀ x ∈ xs, ∀ y ∈ ys, f x y = 0 ↔ x = y) → (cmpL f xs ys = 0 ↔ xs = ys)
  | [], [], _ => by simp [cmpL]
  | [], _ :: _, _ => by simp [cmpL]
  | _ :: _, [], _ => by simp [cmpL]
  | x :: xs, y :: ys, h => by
    rw [cmpL]
    have h1 := h x (by simp) y (by simp)
    have h2 := cmpL_zero xs ys (fun a ha b hb => h a (by simp [ha]) b (by simp [hb]))
    by_cases e : f x y = 0
    · rw [if_neg (by simpa using e), h2, List.cons.injEq]
      exact ⟨fun q => ⟨h1.1 e, q⟩, fun q => q.2⟩
    · rw [if_pos e]
      constructor
      · intro q; exact absurd q e
      · intro q
        rw [List.cons.injEq] at q
        exact absurd (h1.2 q.1) e
theorem fz_all {l : List Int} (h : ∀ x ∈ l, x = 0) : fz l = 0 := by
  induction l with
  | nil => rfl
  | cons a l ih =>
    rw [fz]
    have := h a (by simp)
    rw [if_neg (by simpa using this)]
    exact ih (fun x hx => h x (by simp [hx]))
theorem vCmp_zero : ∀ (d : Nat) (a b : VT), Deep d a → Deep d b → (vCmp d a b = 0 ↔ a = b)
  | 0, _, _, h, _ => h.elim
  | d + 1, a, b, ha, hb => by
    have hl := cmpL_zero (f := vCmp d) a.list b.list (fun x hx y hy => vCmp_zero d x y (ha.1 x hx) (hb.1 y hy))
    have hm := cmpL_zero (f := fun p q : Mem => fz [cmpB p.1 q.1, vCmp d p.2 q.2]) a.mem b.mem (fun p hp q hq => by
      have h1 := vCmp_zero d p.2 q.2 (ha.2 p hp) (hb.2 q hq)
      constructor
      · intro h
        have h2 := fz_zero h
        exact Prod.ext ((cmpB_zero _ _).1 (h2 _ (by simp))) (h1.1 (h2 _ (by simp)))
      · rintro rfl
        exact fz_all (fun x hx => by
          simp only [List.mem_cons, List.not_mem_nil, or_false] at hx
          rcases hx with rfl | rfl
          · exact cmpB_self _
          · exact h1.2 rfl))
    have he : vCmp (d + 1) a b = fz [Lib.compareInt a.kind b.kind, Lib.compareInt (flagN a.flag) (flagN b.flag), Lib.compareInt a.num b.num, cmpB a.words b.words, cmpL (vCmp d) a.list b.list, cmpL (fun p q => fz [cmpB p.1 q.1, vCmp d p.2 q.2]) a.mem b.mem] := rfl
    rw [he]
    constructor
    · intro h
      have h2 := fz_zero h
      have k1 := (compareInt_zero _ _).1 (h2 (Lib.compareInt a.kind b.kind) (by simp))
      have k2 := (compareInt_zero _ _).1 (h2 (Lib.compareInt (flagN a.flag) (flagN b.flag)) (by simp))
      have k3 := (compareInt_zero _ _).1 (h2 (Lib.compareInt a.num b.num) (by simp))
      have k4 := (cmpB_zero _ _).1 (h2 (cmpB a.words b.words) (by simp))
      have k5 := hl.1 (h2 _ (by simp))
      have k6 := hm.1 (h2 _ (by simp))
      obtain ⟨ak, af, an, aw, al, am⟩ := a
      obtain ⟨bk, bf, bn, bw, bl, bm⟩ := b
      simp only [VT.kind, VT.flag, VT.num, VT.words, VT.list, VT.mem] at k1 k2 k3 k4 k5 k6
      have k7 : af = bf := by cases af <;> cases bf <;> simp [flagN] at k2 ⊢
      rw [k1, k3, k4, k5, k6, k7]
    · intro e
      have e1 := hl.2 (by rw [e])
      have e2 := hm.2 (by rw [e])
      rw [e1, e2, e]
      exact fz_all (fun x hx => by
        simp only [List.mem_cons, List.not_mem_nil, or_false] at hx
        rcases hx with rfl | rfl | rfl | rfl | rfl | rfl
        · exact (compareInt_zero _ _).2 rfl
        · exact (compareInt_zero _ _).2 rfl
        · exact (compareInt_zero _ _).2 rfl
        · exact cmpB_self _
        · rfl
        · rfl)
end Go.Proofs.YtjfgfkbgbhbhjaaGreatDoor
