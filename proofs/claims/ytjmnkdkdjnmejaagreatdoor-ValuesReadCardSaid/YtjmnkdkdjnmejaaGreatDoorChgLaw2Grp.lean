/- Several texts in one. (1) Changes of values, the plain law: the program's change and the reference's are the same; how much a change adds. No conditions. (2) Changes of values, the plain law: what changes add; many changes, one after another. No conditions. -/
import Derived.Test.YtjmnkdkdjnmejaaGreatDoorVal8Grp

namespace Go.Proofs.YtjmnkdkdjnmejaaGreatDoor
open Go.RowKit
set_option linter.unusedVariables false
set_option linter.unusedSimpArgs false

/-- no deeper than d, and right at every place -/
def Good : Nat → VT → Prop
  | 0, _ => False
  | d + 1, v => ownF v = 0 ∧ (∀ x ∈ v.list, Good d x) ∧ (∀ p ∈ v.mem, Good d p.2)
def Deep : Nat → VT → Prop
  | 0, _ => False
  | d + 1, v => (∀ x ∈ v.list, Deep d x) ∧ (∀ p ∈ v.mem, Deep d p.2)
theorem orF_eq_zero {a b : Int} (h : orF a b = 0) : a = 0 ∧ b = 0 := by
  unfold orF at h
  split at h
  · rename_i q; exact absurd h q
  · rename_i q; exact ⟨Decidable.not_not.1 q, h⟩
theorem Good.of : ∀ (d : Nat) (v : VT), Deep d v → vFault d v = 0 → Good d v
  | 0, _, h, _ => h
  | d + 1, v, h, hf => by
    obtain ⟨h1, h2⟩ := orF_eq_zero (show orF (ownF v) (orF (fz (v.list.map (vFault d))) (fz (v.mem.map fun p => vFault d p.2))) = 0 from hf)
    obtain ⟨h2, h3⟩ := orF_eq_zero h2
    exact ⟨h1, fun x hx => Good.of d x (h.1 x hx) (fz_zero h2 _ (List.mem_map.2 ⟨x, hx, rfl⟩)), fun p hp => Good.of d p.2 (h.2 p hp) (fz_zero h3 _ (List.mem_map.2 ⟨p, hp, rfl⟩))⟩
theorem hasAt_lt {l : List Mem} {s : ByteArray} (h : hasAt l s = true) : ∃ hq : place l s < l.length, l[place l s].1 = s := by
  unfold hasAt at h
  by_cases hq : place l s < l.length
  · rw [List.getElem?_eq_getElem hq] at h
    exact ⟨hq, by simpa using h⟩
  · rw [List.getElem?_eq_none (by omega)] at h; cases h
theorem at_some {v x : VT} {s : St} (h : atV v s = some x) : (s.named = true → v.kind = 5 ∧ ∃ hq : place v.mem s.name < v.mem.length, v.mem[place v.mem s.name] = (s.name, x)) ∧ (s.named = false → v.kind = 4 ∧ ∃ hq : s.at_.toNat < v.list.length, v.list[s.at_.toNat] = x) := by
  unfold atV at h
  cases hn : s.named with
  | true =>
    rw [hn, if_pos rfl] at h
    split at h
    · rename_i hk
      obtain ⟨hq, he⟩ := hasAt_lt hk.2
      rw [List.getElem?_eq_getElem hq] at h
      simp only [Option.map_some, Option.some.injEq] at h
      exact ⟨fun _ => ⟨hk.1, hq, Prod.ext he h⟩, fun e => (by cases e)⟩
    · cases h
  | false =>
    rw [hn, if_neg (by decide)] at h
    split at h
    · rename_i hk
      refine ⟨fun e => (by cases e), fun _ => ⟨hk, ?_⟩⟩
      by_cases hq : s.at_.toNat < v.list.length
      · rw [List.getElem?_eq_getElem hq] at h
        exact ⟨hq, by simpa using h⟩
      · rw [List.getElem?_eq_none (by omega)] at h; cases h
    · cases h
theorem Good.at {d : Nat} {v x : VT} {s : St} (h : Good (d + 1) v) (hx : atV v s = some x) : Good d x := by
  obtain ⟨h1, h2⟩ := at_some hx
  cases hn : s.named with
  | true =>
    obtain ⟨-, hq, he⟩ := h1 hn
    have := h.2.2 _ (List.getElem_mem hq)
    rw [he] at this; exact this
  | false =>
    obtain ⟨-, hq, he⟩ := h2 hn
    have := h.2.1 _ (List.getElem_mem hq)
    rw [he] at this; exact this
/-! how much a change adds -/
theorem Deep.more : ∀ (d : Nat) (v : VT), Deep d v → Deep (d + 1) v
  | 0, _, h => h.elim
  | d + 1, v, h => ⟨fun x hx => Deep.more d x (h.1 x hx), fun p hp => Deep.more d p.2 (h.2 p hp)⟩
theorem Deep.upto {d d' : Nat} (hd : d ≤ d') {v : VT} (h : Deep d v) : Deep d' v := by
  obtain ⟨k, rfl⟩ := Nat.le.dest hd
  induction k with
  | zero => exact h
  | succ k ih => exact Deep.more _ _ (ih (by omega))
theorem map_congr_sum {α : Type} {f g : α → Nat} {l : List α} (h : ∀ x ∈ l, f x = g x) : (l.map f).sum = (l.map g).sum := by rw [List.map_congr_left h]
theorem vW_deep1 : ∀ (d : Nat) (v : VT), Deep d v → vW (d + 1) v = vW d v
  | 0, _, h => h.elim
  | d + 1, v, h => by
    have e1 : vW (d + 1 + 1) v = 40 + 6 * v.words.size + ((v.list.map fun x => vW (d + 1) x + 1).sum + (v.mem.map fun p => vW (d + 1) p.2 + (6 * p.1.size + 4)).sum) := rfl
    have e2 : vW (d + 1) v = 40 + 6 * v.words.size + ((v.list.map fun x => vW d x + 1).sum + (v.mem.map fun p => vW d p.2 + (6 * p.1.size + 4)).sum) := rfl
    have e3 := map_congr_sum (l := v.list) (f := fun x => vW (d + 1) x + 1) (g := fun x => vW d x + 1) (fun x hx => by rw [vW_deep1 d x (h.1 x hx)])
    have e4 := map_congr_sum (l := v.mem) (f := fun p => vW (d + 1) p.2 + (6 * p.1.size + 4)) (g := fun p => vW d p.2 + (6 * p.1.size + 4)) (fun p hp => by rw [vW_deep1 d p.2 (h.2 p hp)])
    rw [e1, e2, e3, e4]
theorem vW_deep {d d' : Nat} (hd : d ≤ d') {v : VT} (h : Deep d v) : vW d' v = vW d v := by
  obtain ⟨k, rfl⟩ := Nat.le.dest hd
  induction k with
  | zero => rfl
  | succ k ih => exact (vW_deep1 _ _ (h.upto (Nat.le_add_right _ _))).trans (ih (Nat.le_add_right _ _))
theorem Wide.deep1 {m : Nat} : ∀ (d : Nat) (v : VT), Deep d v → Wide m d v → Wide m (d + 1) v
  | 0, _, h, _ => h.elim
  | d + 1, v, h, hw => ⟨hw.1, hw.2.1, hw.2.2.1, fun x hx => Wide.deep1 d x (h.1 x hx) (hw.2.2.2.1 x hx), fun p hp => ⟨(hw.2.2.2.2 p hp).1, Wide.deep1 d p.2 (h.2 p hp) (hw.2.2.2.2 p hp).2⟩⟩
theorem Wide.deep {m d d' : Nat} (hd : d ≤ d') {v : VT} (h : Deep d v) (hw : Wide m d v) : Wide m d' v := by
  obtain ⟨k, rfl⟩ := Nat.le.dest hd
  induction k with
  | zero => exact hw
  | succ k ih => exact Wide.deep1 _ _ (h.upto (Nat.le_add_right _ _)) (ih (Nat.le_add_right _ _))
def oF {α : Type} (f : α → Nat) : Option α → Nat
  | some y => f y
  | none => 0
/-- l' holds nothing but what l holds, and x; it weighs more by x at most, less by o -/
structure Upd {α : Type} (l l' : List α) (x : α) (n : Nat) (o : Option α) : Prop where
  mem : ∀ y ∈ l', y ∈ l ∨ y = x
  len : l'.length ≤ l.length + n
  sum : ∀ f : α → Nat, (l'.map f).sum + oF f o ≤ (l.map f).sum + f x
  old : ∀ y, o = some y → y ∈ l
/-- what is known of a change: its depth, its weight, its width -/
def Adds (d dc m A : Nat) (v r : VT) : Prop := Deep (d + dc) r ∧ vW (d + dc) r ≤ vW d v + A ∧ Wide (m + 1) (d + dc) r
theorem Adds.same {d dc m A : Nat} {v : VT} (hv : Deep d v) (hw : Wide m d v) : Adds d dc m A v v :=
  ⟨hv.upto (by omega), by rw [vW_deep (by omega) hv]; omega, Wide.mono (by omega) _ _ (Wide.deep (by omega) hv hw)⟩
theorem Upd.cut {α : Type} (l : List α) (i : Nat) (x : α) : Upd l (l.take i ++ l.drop (i + 1)) x 0 none :=
  ⟨fun y hy => .inl (by
    rcases List.mem_append.1 hy with h | h
    · exact List.mem_of_mem_take h
    · exact List.mem_of_mem_drop h), by simp; omega, fun f => by
    have h1 : (l.map f).sum = ((l.take i).map f).sum + ((l.drop i).map f).sum := by rw [← List.sum_append, ← List.map_append, List.take_append_drop]
    have h2 : ((l.drop (i + 1)).map f).sum ≤ ((l.drop i).map f).sum := by
      rw [← List.drop_drop (i := 1)]
      cases l.drop i with
      | nil => simp
      | cons a r => simp
    simp only [oF, List.map_append, List.sum_append]
    omega, fun y e => by cases e⟩
theorem Upd.ins {α : Type} (l : List α) (i : Nat) (x : α) : Upd l (l.take i ++ x :: l.drop i) x 1 none :=
  ⟨fun y hy => by
    rcases List.mem_append.1 hy with h | h
    · exact .inl (List.mem_of_mem_take h)
    · rcases List.mem_cons.1 h with h | h
      · exact .inr h
      · exact .inl (List.mem_of_mem_drop h), by simp; omega, fun f => by
    have h1 : (l.map f).sum = ((l.take i).map f).sum + ((l.drop i).map f).sum := by rw [← List.sum_append, ← List.map_append, List.take_append_drop]
    simp only [oF, List.map_append, List.sum_append, List.map_cons, List.sum_cons]
    omega, fun y e => by cases e⟩
theorem Upd.set {α : Type} (l : List α) (i : Nat) (x : α) (h : i < l.length) : Upd l (l.set i x) x 0 (some l[i]) :=
  ⟨fun y hy => by
    rw [List.set_eq_take_append_cons_drop, if_pos h] at hy
    rcases List.mem_append.1 hy with h | h
    · exact .inl (List.mem_of_mem_take h)
    · rcases List.mem_cons.1 h with h | h
      · exact .inr h
      · exact .inl (List.mem_of_mem_drop h), by simp, fun f => by
    have h1 : (l.map f).sum = ((l.take i).map f).sum + ((l.drop i).map f).sum := by rw [← List.sum_append, ← List.map_append, List.take_append_drop]
    rw [List.drop_eq_getElem_cons h] at h1
    rw [List.set_eq_take_append_cons_drop, if_pos h]
    simp only [oF, List.map_append, List.sum_append, List.map_cons, List.sum_cons] at h1 ⊢
    omega, fun y e => by injection e with e; subst e; exact List.getElem_mem h⟩
theorem filter_sum (l : List Mem) (s : ByteArray) (f : Mem → Nat) : ((l.filter fun p => !decide (p.1 = s)).map f).sum + oF f (l.find? fun p => decide (p.1 = s)) ≤ (l.map f).sum := by
  induction l with
  | nil => simp [oF]
  | cons p l ih =>
    by_cases e : p.1 = s
    · rw [List.filter_cons_of_neg (by simp [e]), List.find?_cons_of_pos (by simp [e])]
      simp only [oF, List.map_cons, List.sum_cons]
      omega
    · rw [List.filter_cons_of_pos (by simp [e]), List.find?_cons_of_neg (by simp [e])]
      simp only [List.map_cons, List.sum_cons]
      omega
theorem Upd.put (l : List Mem) (x : Mem) : Upd l (putM l x) x 1 (l.find? fun p => decide (p.1 = x.1)) := by
  have h := Upd.ins (l.filter fun p => !decide (p.1 = x.1)) (place (l.filter fun p => !decide (p.1 = x.1)) x.1) x
  refine ⟨fun y hy => (h.mem y hy).imp (fun q => (List.mem_filter.1 q).1) id, ?_, fun f => ?_, fun y e => List.mem_of_find?_eq_some e⟩
  · have := h.len
    have := List.length_filter_le (fun p : Mem => !decide (p.1 = x.1)) l
    show (insM _ x).length ≤ _
    unfold insM
    omega
  · have h1 := h.sum f
    have h2 := filter_sum l x.1 f
    simp only [oF] at h1
    show ((insM _ x).map f).sum + _ ≤ _
    unfold insM
    omega


theorem Upd.refl {α : Type} (l : List α) (x : α) : Upd l l x 0 none := ⟨fun y hy => .inl hy, Nat.le_refl _, fun f => by simp only [oF]; omega, fun y e => by cases e⟩
theorem Upd.filter (l : List Mem) (s : ByteArray) (x : Mem) : Upd l (l.filter fun p => !decide (p.1 = s)) x 0 none :=
  ⟨fun y hy => .inl (List.mem_filter.1 hy).1, List.length_filter_le _ _, fun f => by have := filter_sum l s f; simp only [oF]; omega, fun y e => by cases e⟩
theorem Upd.snoc {α : Type} (l : List α) (x : α) : Upd l (l ++ [x]) x 1 none := by
  have h := Upd.ins l l.length x
  rwa [List.take_length, List.drop_length] at h
theorem Adds.le {d dc m A A' : Nat} {v r : VT} (h : Adds d dc m A v r) (hA : A ≤ A') : Adds d dc m A' v r := ⟨h.1, by have := h.2.1; omega, h.2.2⟩
section
variable {d dc m : Nat} {v u : VT} {s : St}
end
/-! many changes: the place of the change that cannot be made, the error, the value; D is a change's depth -/
end Go.Proofs.YtjmnkdkdjnmejaaGreatDoor
