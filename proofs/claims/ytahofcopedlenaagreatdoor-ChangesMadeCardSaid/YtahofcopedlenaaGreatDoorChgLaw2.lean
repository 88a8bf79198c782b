/- Changes of values, the plain law: the program's change and the reference's are the same; how much a change adds. No conditions. -/
import Derived.Test.YtahofcopedlenaaGreatDoorChgLaw
namespace Go.Proofs.YtahofcopedlenaaGreatDoor
open Go.RowKit
set_option linter.unusedVariables false
set_option linter.unusedSimpArgs false

/-- no deeper than d, and right at every place -/
def Good : Nat → VT → Prop
  | 0, _ => False
  | d + 1, v => ownF v = 0 ∧ (∀ x ∈ v.list, Good d x) ∧ (∀ p ∈ v.mem, Good d p.2)
def Deep : Nat → VT → Prop
  | 0, _ => False
  | d + 1, v => (∀ x ∈ v.list, Deep d x) ∧ (∀ p ∈ v.mem, Deep d p.2)
theorem orF_eq_zero {a b : Int} (h : orF a b = 0) : a = 0 ∧ b = 0 := by
  unfold orF at h
  split at h
  · rename_i q; exact absurd h q
  · rename_i q; exact ⟨Decidable.not_not.1 q, h⟩
theorem Good.of : ∀ (d : Nat) (v : VT), Deep d v → vFault d v = 0 → Good d v
  | 0, _, h, _ => h
  | d + 1, v, h, hf => by
    obtain ⟨h1, h2⟩ := orF_eq_zero (show orF (ownF v) (orF (fz (v.list.map (vFault d))) (fz (v.mem.map fun p => vFault d p.2))) = 0 from hf)
    obtain ⟨h2, h3⟩ := orF_eq_zero h2
    exact ⟨h1, fun x hx => Good.of d x (h.1 x hx) (fz_zero h2 _ (List.mem_map.2 ⟨x, hx, rfl⟩)), fun p hp => Good.of d p.2 (h.2 p hp) (fz_zero h3 _ (List.mem_map.2 ⟨p, hp, rfl⟩))⟩
theorem own_idle {v : VT} (h : ownF v = 0) : (v.kind ≠ 4 → v.list = []) ∧ (v.kind ≠ 5 → v.mem = []) ∧ Srt v.mem := by
  obtain ⟨h1, h2⟩ := orF_eq_zero (show orF (headF v) (namesF (v.mem.map (·.1))) = 0 from h)
  have hi : idleV v = true := by
    unfold headF at h1
    split at h1
    · omega
    · split at h1
      · omega
      · rename_i q; simpa using q
  unfold idleV at hi
  simp only [Bool.and_eq_true, Bool.or_eq_true, decide_eq_true_eq] at hi
  obtain ⟨⟨-, h4⟩, h5⟩ := hi
  refine ⟨fun q => ?_, fun q => ?_, srt_of_names h2⟩
  · rcases h4 with h4 | h4
    · exact absurd h4 q
    · exact List.eq_nil_of_length_eq_zero h4
  · rcases h5 with h5 | h5
    · exact absurd h5 q
    · exact List.eq_nil_of_length_eq_zero h5
theorem hasAt_lt {l : List Mem} {s : ByteArray} (h : hasAt l s = true) : ∃ hq : place l s < l.length, l[place l s].1 = s := by
  unfold hasAt at h
  by_cases hq : place l s < l.length
  · rw [List.getElem?_eq_getElem hq] at h
    exact ⟨hq, by simpa using h⟩
  · rw [List.getElem?_eq_none (by omega)] at h; cases h
theorem at_eq {v : VT} (h : ownF v = 0) (s : St) : atV v s = getR v s := by
  obtain ⟨h1, h2, h3⟩ := own_idle h
  unfold atV getR
  by_cases hn : s.named = true
  · rw [if_pos hn, if_pos hn, find_has _ _ h3]
    by_cases hk : v.kind = 5
    · by_cases hh : hasAt v.mem s.name = true
      · rw [if_pos ⟨hk, hh⟩, if_pos hh]
      · rw [if_neg (fun q => hh q.2), if_neg hh]; rfl
    · rw [if_neg (fun q => hk q.1), h2 hk]; simp [hasAt, place]
  · rw [if_neg hn, if_neg hn]
    by_cases hk : v.kind = 4
    · rw [if_pos hk]
    · rw [if_neg hk, h1 hk]; simp
theorem at_some {v x : VT} {s : St} (h : atV v s = some x) : (s.named = true → v.kind = 5 ∧ ∃ hq : place v.mem s.name < v.mem.length, v.mem[place v.mem s.name] = (s.name, x)) ∧ (s.named = false → v.kind = 4 ∧ ∃ hq : s.at_.toNat < v.list.length, v.list[s.at_.toNat] = x) := by
  unfold atV at h
  cases hn : s.named with
  | true =>
    rw [hn, if_pos rfl] at h
    split at h
    · rename_i hk
      obtain ⟨hq, he⟩ := hasAt_lt hk.2
      rw [List.getElem?_eq_getElem hq] at h
      simp only [Option.map_some, Option.some.injEq] at h
      exact ⟨fun _ => ⟨hk.1, hq, Prod.ext he h⟩, fun e => (by cases e)⟩
    · cases h
  | false =>
    rw [hn, if_neg (by decide)] at h
    split at h
    · rename_i hk
      refine ⟨fun e => (by cases e), fun _ => ⟨hk, ?_⟩⟩
      by_cases hq : s.at_.toNat < v.list.length
      · rw [List.getElem?_eq_getElem hq] at h
        exact ⟨hq, by simpa using h⟩
      · rw [List.getElem?_eq_none (by omega)] at h; cases h
    · cases h
theorem chM5 {v : VT} (h : v.kind = 5) (k : Int) (s : ByteArray) (u : VT) : chM v k s u = if k = 3 then (if hasAt v.mem s = true then (v.setM (v.mem.take (place v.mem s) ++ v.mem.drop (place v.mem s + 1)), 0) else (v, 8)) else
    if hasAt v.mem s = true then (v.setM (v.mem.set (place v.mem s) (s, u)), 0) else (v.setM (insM v.mem (s, u)), 0) := by
  unfold chM; rw [if_neg (by simp [h])]
theorem chL4 {v : VT} (h : v.kind = 4) (k : Int) (i : Nat) (u : VT) : chL v k i u = if v.list.length < i ∨ (k = 3 ∧ i = v.list.length) then (v, 8) else
    if k = 3 then (v.setL (v.list.take i ++ v.list.drop (i + 1)), 0) else
    if k = 1 ∧ i < v.list.length then (v.setL (v.list.set i u), 0) else (v.setL (v.list.take i ++ u :: v.list.drop i), 0) := by
  unfold chL; rw [if_neg (by simp [h])]
theorem lastR5 {v : VT} {s : St} (hn : s.named = true) (h : v.kind = 5) (k : Int) (u : VT) : lastR k u s v = if k = 3 ∧ getR v s = none then (v, 8) else
    if k = 3 then (v.setM (v.mem.filter fun p => !decide (p.1 = s.name)), 0) else
    if k = 2 then (v.setL (v.list.take s.at_.toNat ++ u :: v.list.drop s.at_.toNat), 0) else (withR v s u, 0) := by
  unfold lastR
  rw [if_neg (by simp [hn, h])]
  simp only [hn, Bool.true_eq_false, false_and, or_false, and_true]
  by_cases e : k = 3
  · simp only [e, if_true]
  · simp only [e, if_false]
theorem lastR4 {v : VT} {s : St} (hn : s.named = false) (h : v.kind = 4) (k : Int) (u : VT) : lastR k u s v = if (k = 3 ∧ getR v s = none) ∨ v.list.length < s.at_.toNat then (v, 8) else
    if k = 3 then (v.setL (v.list.take s.at_.toNat ++ v.list.drop (s.at_.toNat + 1)), 0) else
    if k = 2 then (v.setL (v.list.take s.at_.toNat ++ u :: v.list.drop s.at_.toNat), 0) else (withR v s u, 0) := by
  unfold lastR
  rw [if_neg (by simp [hn, h])]
  simp only [hn, Bool.false_eq_true, true_and, and_false, if_false]
theorem getR5 {v : VT} {s : St} (hn : s.named = true) (h4 : Srt v.mem) : getR v s = if hasAt v.mem s.name = true then (v.mem[place v.mem s.name]?).map (·.2) else none := by
  unfold getR; rw [if_pos hn, find_has _ _ h4]; split <;> rfl
theorem getR4 {v : VT} {s : St} (hn : s.named = false) : getR v s = v.list[s.at_.toNat]? := by unfold getR; rw [if_neg (by simp [hn])]
theorem withR5 {v : VT} {s : St} (hn : s.named = true) (h4 : Srt v.mem) (u : VT) : withR v s u = v.setM (if hasAt v.mem s.name = true then v.mem.set (place v.mem s.name) (s.name, u) else insM v.mem (s.name, u)) := by
  unfold withR; rw [if_pos hn, put_has _ _ h4]
theorem withR4 {v : VT} {s : St} (hn : s.named = false) (u : VT) : withR v s u = if s.at_.toNat = v.list.length then v.setL (v.list ++ [u]) else v.setL (v.list.set s.at_.toNat u) := by
  unfold withR; rw [if_neg (by simp [hn])]
theorem chS5 {v : VT} {s : St} (hn : s.named = true) (k : Int) (u : VT) : chS v k s u = chM v k s.name u := by unfold chS; rw [if_pos hn]
theorem chS4 {v : VT} {s : St} (hn : s.named = false) (k : Int) (u : VT) : chS v k s u = chL v k s.at_.toNat u := by unfold chS; rw [if_neg (by simp [hn])]
theorem last_eq {v : VT} (h : ownF v = 0) {k : Int} {u : VT} (hk : 1 ≤ k ∧ k ≤ 3) (s : St) (h2 : k = 2 → s.named = false) : lastR k u s v = chS v k s u := by
  obtain ⟨h1, h3, h4⟩ := own_idle h
  cases hn : s.named with
  | true =>
    have hk2 : k ≠ 2 := fun e => by rw [h2 e] at hn; cases hn
    rw [chS5 hn]
    by_cases h5 : v.kind = 5
    · rw [chM5 h5, lastR5 hn h5, getR5 hn h4, withR5 hn h4, filter_has _ _ h4]
      by_cases hh : hasAt v.mem s.name = true
      · obtain ⟨hq, he⟩ := hasAt_lt hh
        simp only [hh, if_true, List.getElem?_eq_getElem hq, Option.map_some, reduceCtorEq, and_false, if_false, hk2]
      · simp only [hh, if_false, and_true, hk2]
        by_cases e3 : k = 3
        · simp [e3]
        · simp [e3]
    · unfold chM lastR
      rw [if_pos (.inl ⟨hn, h5⟩), if_pos h5]
  | false =>
    rw [chS4 hn]
    by_cases h5 : v.kind = 4
    · rw [chL4 h5, lastR4 hn h5, getR4 hn, withR4 hn]
      have e0 : (v.list[s.at_.toNat]? = none) ↔ v.list.length ≤ s.at_.toNat := List.getElem?_eq_none_iff
      simp only [e0]
      by_cases hb : v.list.length < s.at_.toNat
      · rw [if_pos (.inr hb), if_pos (.inl hb)]
      · by_cases he : s.at_.toNat = v.list.length
        · by_cases e3 : k = 3
          · repeat (first | rw [if_pos (by omega)] | rw [if_neg (by omega)])
          · by_cases e2 : k = 2
            · repeat (first | rw [if_pos (by omega)] | rw [if_neg (by omega)])
            · repeat (first | rw [if_pos (by omega)] | rw [if_neg (by omega)])
              rw [he]; simp
        · by_cases e3 : k = 3
          · repeat (first | rw [if_pos (by omega)] | rw [if_neg (by omega)])
          · by_cases e2 : k = 2
            · repeat (first | rw [if_pos (by omega)] | rw [if_neg (by omega)])
            · repeat (first | rw [if_pos (by omega)] | rw [if_neg (by omega)])
    · unfold chL lastR
      rw [if_pos (.inr ⟨hn, h5⟩), if_pos h5]
theorem with_eq {v x y : VT} (h : ownF v = 0) {s : St} (hx : atV v s = some x) : chS v 1 s y = (withR v s y, 0) := by
  obtain ⟨h1, h2⟩ := at_some hx
  obtain ⟨-, -, h4⟩ := own_idle h
  cases hn : s.named with
  | true =>
    obtain ⟨hk, hq, he⟩ := h1 hn
    have hh : hasAt v.mem s.name = true := by unfold hasAt; rw [List.getElem?_eq_getElem hq, he]; simp
    rw [chS5 hn, chM5 hk, withR5 hn h4, if_neg (by decide), if_pos hh, if_pos hh]
  | false =>
    obtain ⟨hk, hq, he⟩ := h2 hn
    rw [chS4 hn, chL4 hk, withR4 hn, if_neg (by omega), if_neg (by decide), if_pos ⟨rfl, hq⟩, if_neg (by omega)]
theorem Good.at {d : Nat} {v x : VT} {s : St} (h : Good (d + 1) v) (hx : atV v s = some x) : Good d x := by
  obtain ⟨h1, h2⟩ := at_some hx
  cases hn : s.named with
  | true =>
    obtain ⟨-, hq, he⟩ := h1 hn
    have := h.2.2 _ (List.getElem_mem hq)
    rw [he] at this; exact this
  | false =>
    obtain ⟨-, hq, he⟩ := h2 hn
    have := h.2.1 _ (List.getElem_mem hq)
    rw [he] at this; exact this
/-- both change alike -/
theorem chg_eq {k : Int} {u : VT} (hk : 1 ≤ k ∧ k ≤ 3) : ∀ (p : List St) (d : Nat) (v : VT), Good d v → (k = 2 → lastNamed p = false) →
    (rchg k u p v).2 = (chg k u p v).2 ∧ ((chg k u p v).2 = 0 → (rchg k u p v).1 = (chg k u p v).1)
  | _, 0, _, h, _ => h.elim
  | [], d + 1, v, h, _ => ⟨rfl, fun _ => rfl⟩
  | [s], d + 1, v, h, h2 => by
    have e := last_eq (u := u) h.1 hk s (fun q => by have := h2 q; simpa [lastNamed] using this)
    have e1 : rchg k u [s] v = lastR k u s v := rfl
    have e2 : chg k u [s] v = chS v k s u := rfl
    rw [e1, e2, e]
    exact ⟨rfl, fun _ => rfl⟩
  | s :: t :: p, d + 1, v, h, h2 => by
    have e1 : rchg k u (s :: t :: p) v = match getR v s with | none => (v, 8) | some x => (withR v s (rchg k u (t :: p) x).1, (rchg k u (t :: p) x).2) := rfl
    have e2 : chg k u (s :: t :: p) v = match atV v s with | none => (v, 8) | some x => if (chg k u (t :: p) x).2 ≠ 0 then (v, (chg k u (t :: p) x).2) else chS v 1 s (chg k u (t :: p) x).1 := rfl
    rw [e1, e2, ← at_eq h.1]
    cases hx : atV v s with
    | none => exact ⟨rfl, fun _ => rfl⟩
    | some x =>
      obtain ⟨i1, i2⟩ := chg_eq hk (t :: p) d x (h.at hx) (fun q => by have := h2 q; simpa [lastNamed] using this)
      simp only
      by_cases he : (chg k u (t :: p) x).2 = 0
      · rw [if_neg (by simp [he]), with_eq h.1 hx, i2 he, i1, he]
        exact ⟨rfl, fun _ => rfl⟩
      · rw [if_pos he, i1]
        exact ⟨rfl, fun q => absurd q he⟩

/-! how much a change adds -/
theorem Deep.more : ∀ (d : Nat) (v : VT), Deep d v → Deep (d + 1) v
  | 0, _, h => h.elim
  | d + 1, v, h => ⟨fun x hx => Deep.more d x (h.1 x hx), fun p hp => Deep.more d p.2 (h.2 p hp)⟩
theorem Deep.upto {d d' : Nat} (hd : d ≤ d') {v : VT} (h : Deep d v) : Deep d' v := by
  obtain ⟨k, rfl⟩ := Nat.le.dest hd
  induction k with
  | zero => exact h
  | succ k ih => exact Deep.more _ _ (ih (by omega))
theorem map_congr_sum {α : Type} {f g : α → Nat} {l : List α} (h : ∀ x ∈ l, f x = g x) : (l.map f).sum = (l.map g).sum := by rw [List.map_congr_left h]
theorem vW_deep1 : ∀ (d : Nat) (v : VT), Deep d v → vW (d + 1) v = vW d v
  | 0, _, h => h.elim
  | d + 1, v, h => by
    have e1 : vW (d + 1 + 1) v = 40 + 6 * v.words.size + ((v.list.map fun x => vW (d + 1) x + 1).sum + (v.mem.map fun p => vW (d + 1) p.2 + (6 * p.1.size + 4)).sum) := rfl
    have e2 : vW (d + 1) v = 40 + 6 * v.words.size + ((v.list.map fun x => vW d x + 1).sum + (v.mem.map fun p => vW d p.2 + (6 * p.1.size + 4)).sum) := rfl
    have e3 := map_congr_sum (l := v.list) (f := fun x => vW (d + 1) x + 1) (g := fun x => vW d x + 1) (fun x hx => by rw [vW_deep1 d x (h.1 x hx)])
    have e4 := map_congr_sum (l := v.mem) (f := fun p => vW (d + 1) p.2 + (6 * p.1.size + 4)) (g := fun p => vW d p.2 + (6 * p.1.size + 4)) (fun p hp => by rw [vW_deep1 d p.2 (h.2 p hp)])
    rw [e1, e2, e3, e4]
theorem vW_deep {d d' : Nat} (hd : d ≤ d') {v : VT} (h : Deep d v) : vW d' v = vW d v := by
  obtain ⟨k, rfl⟩ := Nat.le.dest hd
  induction k with
  | zero => rfl
  | succ k ih => exact (vW_deep1 _ _ (h.upto (Nat.le_add_right _ _))).trans (ih (Nat.le_add_right _ _))
theorem Wide.deep1 {m : Nat} : ∀ (d : Nat) (v : VT), Deep d v → Wide m d v → Wide m (d + 1) v
  | 0, _, h, _ => h.elim
  | d + 1, v, h, hw => ⟨hw.1, hw.2.1, hw.2.2.1, fun x hx => Wide.deep1 d x (h.1 x hx) (hw.2.2.2.1 x hx), fun p hp => ⟨(hw.2.2.2.2 p hp).1, Wide.deep1 d p.2 (h.2 p hp) (hw.2.2.2.2 p hp).2⟩⟩
theorem Wide.deep {m d d' : Nat} (hd : d ≤ d') {v : VT} (h : Deep d v) (hw : Wide m d v) : Wide m d' v := by
  obtain ⟨k, rfl⟩ := Nat.le.dest hd
  induction k with
  | zero => exact hw
  | succ k ih => exact Wide.deep1 _ _ (h.upto (Nat.le_add_right _ _)) (ih (Nat.le_add_right _ _))
def oF {α : Type} (f : α → Nat) : Option α → Nat
  | some y => f y
  | none => 0
/-- l' holds nothing but what l holds, and x; it weighs more by x at most, less by o -/
structure Upd {α : Type} (l l' : List α) (x : α) (n : Nat) (o : Option α) : Prop where
  mem : ∀ y ∈ l', y ∈ l ∨ y = x
  len : l'.length ≤ l.length + n
  sum : ∀ f : α → Nat, (l'.map f).sum + oF f o ≤ (l.map f).sum + f x
  old : ∀ y, o = some y → y ∈ l
/-- what is known of a change: its depth, its weight, its width -/
def Adds (d dc m A : Nat) (v r : VT) : Prop := Deep (d + dc) r ∧ vW (d + dc) r ≤ vW d v + A ∧ Wide (m + 1) (d + dc) r
theorem Adds.same {d dc m A : Nat} {v : VT} (hv : Deep d v) (hw : Wide m d v) : Adds d dc m A v v :=
  ⟨hv.upto (by omega), by rw [vW_deep (by omega) hv]; omega, Wide.mono (by omega) _ _ (Wide.deep (by omega) hv hw)⟩
theorem upd_L {d dc m n B : Nat} {v u : VT} {l' : List VT} {o : Option VT} (hv : Deep (d + 1) v) (hw : Wide m (d + 1) v) (hu : Deep (d + dc) u) (huw : Wide (m + 1) (d + dc) u) (h : Upd v.list l' u n o) (hn : n ≤ 1)
    (ha : vW (d + dc) u ≤ oF (vW d) o + B) : Adds (d + 1) dc m (B + 1) v (v.setL l') := by
  have e0 : d + 1 + dc = d + dc + 1 := by omega
  unfold Adds
  rw [e0]
  refine ⟨⟨fun x hx => ?_, fun p hp => (hv.2 p hp).upto (by omega)⟩, ?_, ⟨?_, ?_, hw.2.2.1, fun x hx => ?_, fun p hp => ⟨(hw.2.2.2.2 p hp).1, Wide.mono (by omega) _ _ (Wide.deep (by omega) (hv.2 p hp) (hw.2.2.2.2 p hp).2)⟩⟩⟩
  · rcases h.mem x hx with hx | rfl
    · exact (hv.1 x hx).upto (by omega)
    · exact hu
  · have e1 : vW (d + dc + 1) (v.setL l') = 40 + 6 * v.words.size + ((l'.map fun x => vW (d + dc) x + 1).sum + (v.mem.map fun p => vW (d + dc) p.2 + (6 * p.1.size + 4)).sum) := rfl
    have e2 : vW (d + 1) v = 40 + 6 * v.words.size + ((v.list.map fun x => vW d x + 1).sum + (v.mem.map fun p => vW d p.2 + (6 * p.1.size + 4)).sum) := rfl
    have e3 := h.sum (fun x => vW (d + dc) x + 1)
    have e4 := map_congr_sum (l := v.mem) (f := fun p => vW (d + dc) p.2 + (6 * p.1.size + 4)) (g := fun p => vW d p.2 + (6 * p.1.size + 4)) (fun p hp => by rw [vW_deep (by omega) (hv.2 p hp)])
    have e5 := map_congr_sum (l := v.list) (f := fun x => vW (d + dc) x + 1) (g := fun x => vW d x + 1) (fun x hx => by rw [vW_deep (by omega) (hv.1 x hx)])
    cases o with
    | none => simp only [oF] at e3 ha; omega
    | some y =>
      have e6 := vW_deep (show d ≤ d + dc by omega) (hv.1 y (h.old y rfl))
      simp only [oF] at e3 ha
      omega
  · show l'.length ≤ m + 1
    have := h.len; have := hw.1; omega
  · have := hw.2.1; show v.mem.length ≤ m + 1; omega
  · rcases h.mem x hx with hx | rfl
    · exact Wide.mono (by omega) _ _ (Wide.deep (by omega) (hv.1 x hx) (hw.2.2.2.1 x hx))
    · exact huw
theorem upd_M {d dc m n B : Nat} {v u : VT} {s : ByteArray} {l' : List (ByteArray × VT)} {o : Option (ByteArray × VT)} (hv : Deep (d + 1) v) (hw : Wide m (d + 1) v) (hu : Deep (d + dc) u) (huw : Wide (m + 1) (d + dc) u) (hs : s.size ≤ 100) (h : Upd v.mem l' (s, u) n o) (hn : n ≤ 1)
    (ha : vW (d + dc) u ≤ oF (fun p => vW d p.2) o + B) : Adds (d + 1) dc m (B + 604) v (v.setM l') := by
  have e0 : d + 1 + dc = d + dc + 1 := by omega
  unfold Adds
  rw [e0]
  refine ⟨⟨fun x hx => (hv.1 x hx).upto (by omega), fun p hp => ?_⟩, ?_, ⟨?_, ?_, hw.2.2.1, fun x hx => Wide.mono (by omega) _ _ (Wide.deep (by omega) (hv.1 x hx) (hw.2.2.2.1 x hx)), fun p hp => ?_⟩⟩
  · rcases h.mem p hp with hp | rfl
    · exact (hv.2 p hp).upto (by omega)
    · exact hu
  · have e1 : vW (d + dc + 1) (v.setM l') = 40 + 6 * v.words.size + ((v.list.map fun x => vW (d + dc) x + 1).sum + (l'.map fun p => vW (d + dc) p.2 + (6 * p.1.size + 4)).sum) := rfl
    have e2 : vW (d + 1) v = 40 + 6 * v.words.size + ((v.list.map fun x => vW d x + 1).sum + (v.mem.map fun p => vW d p.2 + (6 * p.1.size + 4)).sum) := rfl
    have e3 := h.sum (fun p => vW (d + dc) p.2 + (6 * p.1.size + 4))
    have e4 := map_congr_sum (l := v.mem) (f := fun p => vW (d + dc) p.2 + (6 * p.1.size + 4)) (g := fun p => vW d p.2 + (6 * p.1.size + 4)) (fun p hp => by rw [vW_deep (by omega) (hv.2 p hp)])
    have e5 := map_congr_sum (l := v.list) (f := fun x => vW (d + dc) x + 1) (g := fun x => vW d x + 1) (fun x hx => by rw [vW_deep (by omega) (hv.1 x hx)])
    cases o with
    | none => simp only [oF] at e3 ha; omega
    | some y =>
      have e6 := vW_deep (show d ≤ d + dc by omega) (hv.2 y (h.old y rfl))
      simp only [oF] at e3 ha
      omega
  · have := hw.1; show v.list.length ≤ m + 1; omega
  · show l'.length ≤ m + 1
    have := h.len; have := hw.2.1; omega
  · rcases h.mem p hp with hp | rfl
    · exact ⟨(hw.2.2.2.2 p hp).1, Wide.mono (by omega) _ _ (Wide.deep (by omega) (hv.2 p hp) (hw.2.2.2.2 p hp).2)⟩
    · exact ⟨by show s.size ≤ 100000; omega, huw⟩
theorem Upd.cut {α : Type} (l : List α) (i : Nat) (x : α) : Upd l (l.take i ++ l.drop (i + 1)) x 0 none :=
  ⟨fun y hy => .inl (by
    rcases List.mem_append.1 hy with h | h
    · exact List.mem_of_mem_take h
    · exact List.mem_of_mem_drop h), by simp; omega, fun f => by
    have h1 : (l.map f).sum = ((l.take i).map f).sum + ((l.drop i).map f).sum := by rw [← List.sum_append, ← List.map_append, List.take_append_drop]
    have h2 : ((l.drop (i + 1)).map f).sum ≤ ((l.drop i).map f).sum := by
      rw [← List.drop_drop (i := 1)]
      cases l.drop i with
      | nil => simp
      | cons a r => simp
    simp only [oF, List.map_append, List.sum_append]
    omega, fun y e => by cases e⟩
theorem Upd.ins {α : Type} (l : List α) (i : Nat) (x : α) : Upd l (l.take i ++ x :: l.drop i) x 1 none :=
  ⟨fun y hy => by
    rcases List.mem_append.1 hy with h | h
    · exact .inl (List.mem_of_mem_take h)
    · rcases List.mem_cons.1 h with h | h
      · exact .inr h
      · exact .inl (List.mem_of_mem_drop h), by simp; omega, fun f => by
    have h1 : (l.map f).sum = ((l.take i).map f).sum + ((l.drop i).map f).sum := by rw [← List.sum_append, ← List.map_append, List.take_append_drop]
    simp only [oF, List.map_append, List.sum_append, List.map_cons, List.sum_cons]
    omega, fun y e => by cases e⟩
theorem Upd.set {α : Type} (l : List α) (i : Nat) (x : α) (h : i < l.length) : Upd l (l.set i x) x 0 (some l[i]) :=
  ⟨fun y hy => by
    rw [List.set_eq_take_append_cons_drop, if_pos h] at hy
    rcases List.mem_append.1 hy with h | h
    · exact .inl (List.mem_of_mem_take h)
    · rcases List.mem_cons.1 h with h | h
      · exact .inr h
      · exact .inl (List.mem_of_mem_drop h), by simp, fun f => by
    have h1 : (l.map f).sum = ((l.take i).map f).sum + ((l.drop i).map f).sum := by rw [← List.sum_append, ← List.map_append, List.take_append_drop]
    rw [List.drop_eq_getElem_cons h] at h1
    rw [List.set_eq_take_append_cons_drop, if_pos h]
    simp only [oF, List.map_append, List.sum_append, List.map_cons, List.sum_cons] at h1 ⊢
    omega, fun y e => by injection e with e; subst e; exact List.getElem_mem h⟩
theorem Upd.weak {α : Type} {l l' : List α} {x : α} {n n' : Nat} {o : Option α} (h : Upd l l' x n o) (hn : n ≤ n') : Upd l l' x n' none :=
  ⟨h.mem, by have := h.len; omega, fun f => by have := h.sum f; simp only [oF]; omega, fun y e => by cases e⟩
theorem filter_sum (l : List Mem) (s : ByteArray) (f : Mem → Nat) : ((l.filter fun p => !decide (p.1 = s)).map f).sum + oF f (l.find? fun p => decide (p.1 = s)) ≤ (l.map f).sum := by
  induction l with
  | nil => simp [oF]
  | cons p l ih =>
    by_cases e : p.1 = s
    · rw [List.filter_cons_of_neg (by simp [e]), List.find?_cons_of_pos (by simp [e])]
      simp only [oF, List.map_cons, List.sum_cons]
      omega
    · rw [List.filter_cons_of_pos (by simp [e]), List.find?_cons_of_neg (by simp [e])]
      simp only [List.map_cons, List.sum_cons]
      omega
theorem filter_len (l : List Mem) (s : ByteArray) : (l.filter fun p => !decide (p.1 = s)).length + (match l.find? fun p => decide (p.1 = s) with | some _ => 1 | none => 0) ≤ l.length := by
  induction l with
  | nil => simp
  | cons p l ih =>
    by_cases e : p.1 = s
    · rw [List.filter_cons_of_neg (by simp [e]), List.find?_cons_of_pos (by simp [e])]
      have := List.length_filter_le (fun p : Mem => !decide (p.1 = s)) l
      simp only [List.length_cons]
      omega
    · rw [List.filter_cons_of_pos (by simp [e]), List.find?_cons_of_neg (by simp [e])]
      simp only [List.length_cons]
      omega
theorem Upd.put (l : List Mem) (x : Mem) : Upd l (putM l x) x 1 (l.find? fun p => decide (p.1 = x.1)) := by
  have h := Upd.ins (l.filter fun p => !decide (p.1 = x.1)) (place (l.filter fun p => !decide (p.1 = x.1)) x.1) x
  refine ⟨fun y hy => (h.mem y hy).imp (fun q => (List.mem_filter.1 q).1) id, ?_, fun f => ?_, fun y e => List.mem_of_find?_eq_some e⟩
  · have := h.len
    have := List.length_filter_le (fun p : Mem => !decide (p.1 = x.1)) l
    show (insM _ x).length ≤ _
    unfold insM
    omega
  · have h1 := h.sum f
    have h2 := filter_sum l x.1 f
    simp only [oF] at h1
    show ((insM _ x).map f).sum + _ ≤ _
    unfold insM
    omega

end Go.Proofs.YtahofcopedlenaaGreatDoor
