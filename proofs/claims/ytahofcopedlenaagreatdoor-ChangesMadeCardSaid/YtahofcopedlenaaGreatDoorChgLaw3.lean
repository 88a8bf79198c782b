/- Changes of values, the plain law: what changes add; many changes, one after another. No conditions. -/
import Derived.Test.YtahofcopedlenaaGreatDoorChgLaw2
namespace Go.Proofs.YtahofcopedlenaaGreatDoor
open Go.RowKit
set_option linter.unusedVariables false
set_option linter.unusedSimpArgs false

theorem Upd.refl {α : Type} (l : List α) (x : α) : Upd l l x 0 none := ⟨fun y hy => .inl hy, Nat.le_refl _, fun f => by simp only [oF]; omega, fun y e => by cases e⟩
theorem Upd.filter (l : List Mem) (s : ByteArray) (x : Mem) : Upd l (l.filter fun p => !decide (p.1 = s)) x 0 none :=
  ⟨fun y hy => .inl (List.mem_filter.1 hy).1, List.length_filter_le _ _, fun f => by have := filter_sum l s f; simp only [oF]; omega, fun y e => by cases e⟩
theorem Upd.snoc {α : Type} (l : List α) (x : α) : Upd l (l ++ [x]) x 1 none := by
  have h := Upd.ins l l.length x
  rwa [List.take_length, List.drop_length] at h
theorem Adds.le {d dc m A A' : Nat} {v r : VT} (h : Adds d dc m A v r) (hA : A ≤ A') : Adds d dc m A' v r := ⟨h.1, by have := h.2.1; omega, h.2.2⟩
section
variable {d dc m : Nat} {v u : VT} {s : St}
theorem chS_adds (hv : Deep (d + 1) v) (hw : Wide m (d + 1) v) (hu : Deep (d + dc) u) (huw : Wide (m + 1) (d + dc) u) (hs : s.name.size ≤ 100) (k : Int) : Adds (d + 1) dc m (vW (d + dc) u + 604) v (chS v k s u).1 := by
  have hL : ∀ l' n, n ≤ 1 → Upd v.list l' u n none → Adds (d + 1) dc m (vW (d + dc) u + 604) v (v.setL l') := fun l' n hn h => (upd_L hv hw hu huw h hn (B := vW (d + dc) u) (by simp [oF])).le (by omega)
  have hM : ∀ l' n, n ≤ 1 → Upd v.mem l' (s.name, u) n none → Adds (d + 1) dc m (vW (d + dc) u + 604) v (v.setM l') := fun l' n hn h => upd_M hv hw hu huw hs h hn (B := vW (d + dc) u) (by simp [oF])
  have h0 : Adds (d + 1) dc m (vW (d + dc) u + 604) v v := Adds.same hv hw
  cases hn : s.named with
  | true =>
    rw [chS5 hn]
    unfold chM
    split
    · exact h0
    · split
      · split
        · exact hM _ 0 (by omega) (Upd.cut _ _ _)
        · exact h0
      · split
        · rename_i hh
          obtain ⟨hq, -⟩ := hasAt_lt hh
          exact hM _ 0 (by omega) ((Upd.set _ _ _ hq).weak (Nat.le_refl _))
        · exact hM _ 1 (by omega) (Upd.ins _ _ _)
  | false =>
    rw [chS4 hn]
    unfold chL
    split
    · exact h0
    · split
      · exact h0
      · split
        · exact hL _ 0 (by omega) (Upd.cut _ _ _)
        · split
          · rename_i hh
            exact hL _ 0 (by omega) ((Upd.set _ _ _ hh.2).weak (Nat.le_refl _))
          · exact hL _ 1 (by omega) (Upd.ins _ _ _)
theorem withR_adds (hv : Deep (d + 1) v) (hw : Wide m (d + 1) v) (hu : Deep (d + dc) u) (huw : Wide (m + 1) (d + dc) u) (hs : s.name.size ≤ 100) {B : Nat} (hB : vW (d + dc) u ≤ oF (vW d) (getR v s) + B) : Adds (d + 1) dc m (B + 604) v (withR v s u) := by
  unfold getR at hB
  unfold withR
  cases hn : s.named with
  | true =>
    rw [hn, if_pos rfl] at hB
    rw [if_pos rfl]
    refine upd_M hv hw hu huw hs (Upd.put v.mem (s.name, u)) (Nat.le_refl _) ?_
    simp only
    cases hf : v.mem.find? (fun p => decide (p.1 = s.name)) with
    | none => rw [hf] at hB; exact hB
    | some p => rw [hf] at hB; exact hB
  | false =>
    rw [hn, if_neg (by decide)] at hB
    rw [if_neg (by decide)]
    by_cases hq : s.at_.toNat < v.list.length
    · rw [if_neg (by omega)]
      rw [List.getElem?_eq_getElem hq] at hB
      exact (upd_L hv hw hu huw (Upd.set v.list _ u hq) (by omega) hB).le (by omega)
    · rw [List.getElem?_eq_none (by omega)] at hB
      split
      · exact (upd_L hv hw hu huw (Upd.snoc v.list u) (by omega) hB).le (by omega)
      · rw [List.set_eq_of_length_le (by omega)]
        exact (upd_L hv hw hu huw (Upd.refl v.list u) (by omega) hB).le (by omega)
theorem lastR_adds (hv : Deep (d + 1) v) (hw : Wide m (d + 1) v) (hu : Deep (d + dc) u) (huw : Wide (m + 1) (d + dc) u) (hs : s.name.size ≤ 100) (k : Int) : Adds (d + 1) dc m (vW (d + dc) u + 604) v (lastR k u s v).1 := by
  have hL : ∀ l' n, n ≤ 1 → Upd v.list l' u n none → Adds (d + 1) dc m (vW (d + dc) u + 604) v (v.setL l') := fun l' n hn h => (upd_L hv hw hu huw h hn (B := vW (d + dc) u) (by simp [oF])).le (by omega)
  have hM : ∀ l' n, n ≤ 1 → Upd v.mem l' (s.name, u) n none → Adds (d + 1) dc m (vW (d + dc) u + 604) v (v.setM l') := fun l' n hn h => upd_M hv hw hu huw hs h hn (B := vW (d + dc) u) (by simp [oF])
  have h0 : Adds (d + 1) dc m (vW (d + dc) u + 604) v v := Adds.same hv hw
  unfold lastR
  split
  · exact h0
  · split
    · exact h0
    · split
      · exact hM _ 0 (by omega) (Upd.filter _ _ _)
      · split
        · exact hL _ 0 (by omega) (Upd.cut _ _ _)
        · split
          · exact hL _ 1 (by omega) (Upd.ins _ _ _)
          · exact withR_adds hv hw hu huw hs (by omega)
theorem at_deep {x : VT} (h : atV v s = some x) (hv : Deep (d + 1) v) (hw : Wide m (d + 1) v) : Deep d x ∧ Wide m d x ∧ vW d x ≤ vW (d + 1) v := by
  obtain ⟨h1, h2⟩ := at_some h
  cases hn : s.named with
  | true =>
    obtain ⟨-, hq, he⟩ := h1 hn
    have a1 := hv.2 _ (List.getElem_mem hq)
    have a2 := (hw.2.2.2.2 _ (List.getElem_mem hq)).2
    have a3 := vW_member d v hq
    rw [he] at a1 a2 a3
    simp only at a3
    exact ⟨a1, a2, by omega⟩
  | false =>
    obtain ⟨-, hq, he⟩ := h2 hn
    have a1 := hv.1 _ (List.getElem_mem hq)
    have a2 := hw.2.2.2.1 _ (List.getElem_mem hq)
    have a3 := vW_item d v hq
    rw [he] at a1 a2 a3
    exact ⟨a1, a2, a3⟩
theorem getR_deep {x : VT} (h : getR v s = some x) (hv : Deep (d + 1) v) (hw : Wide m (d + 1) v) : Deep d x ∧ Wide m d x ∧ vW d x ≤ vW (d + 1) v := by
  unfold getR at h
  split at h
  · cases hf : v.mem.find? (fun p => decide (p.1 = s.name)) with
    | none => rw [hf] at h; cases h
    | some p =>
      rw [hf] at h
      simp only [Option.map_some, Option.some.injEq] at h
      subst h
      have hm := List.mem_of_find?_eq_some hf
      obtain ⟨i, hi, rfl⟩ := List.getElem_of_mem hm
      exact ⟨hv.2 _ hm, (hw.2.2.2.2 _ hm).2, by have := vW_member d v hi; omega⟩
  · have hm := List.mem_of_getElem? h
    obtain ⟨i, hi, rfl⟩ := List.getElem_of_mem hm
    exact ⟨hv.1 _ hm, hw.2.2.2.1 _ hm, vW_item d v hi⟩
end
theorem chS_adds1 {d dc m A : Nat} {v x y : VT} {s : St} (hv : Deep (d + 1) v) (hw : Wide m (d + 1) v) (hx : atV v s = some x) (hy : Adds d dc m A x y) (hs : s.name.size ≤ 100) : Adds (d + 1) dc m (A + 604) v (chS v 1 s y).1 := by
  obtain ⟨h1, h2⟩ := at_some hx
  cases hn : s.named with
  | true =>
    obtain ⟨hk, hq, he⟩ := h1 hn
    have hh : hasAt v.mem s.name = true := by unfold hasAt; rw [List.getElem?_eq_getElem hq, he]; simp
    rw [chS5 hn, chM5 hk, if_neg (by decide), if_pos hh]
    exact upd_M hv hw hy.1 hy.2.2 hs (Upd.set _ _ _ hq) (by omega) (by rw [he]; exact hy.2.1)
  | false =>
    obtain ⟨hk, hq, he⟩ := h2 hn
    rw [chS4 hn, chL4 hk, if_neg (by omega), if_neg (by decide), if_pos ⟨rfl, hq⟩]
    exact (upd_L hv hw hy.1 hy.2.2 (Upd.set _ _ _ hq) (by omega) (by rw [he]; exact hy.2.1)).le (by omega)
theorem chg_adds {dc m : Nat} {u : VT} (hu : Deep dc u) (huw : Wide (m + 1) dc u) (k : Int) : ∀ (p : List St) (d : Nat) (v : VT), (∀ s ∈ p, s.name.size ≤ 100) → Deep d v → Wide m d v → Adds d dc m (vW dc u + 604 * p.length) v (chg k u p v).1
  | _, 0, _, _, h, _ => h.elim
  | [], d + 1, v, _, hv, hw => ⟨hu.upto (by omega), by show vW (d + 1 + dc) u ≤ _; rw [vW_deep (by omega) hu]; omega, Wide.deep (by omega) hu huw⟩
  | [s], d + 1, v, hs, hv, hw => by
    have h := chS_adds hv hw (u := u) (dc := dc) (hu.upto (by omega)) (Wide.deep (by omega) hu huw) (hs s (by simp)) k
    rw [vW_deep (by omega) hu] at h
    exact h.le (by simp)
  | s :: t :: p, d + 1, v, hs, hv, hw => by
    have e2 : chg k u (s :: t :: p) v = match atV v s with | none => (v, 8) | some x => if (chg k u (t :: p) x).2 ≠ 0 then (v, (chg k u (t :: p) x).2) else chS v 1 s (chg k u (t :: p) x).1 := rfl
    rw [e2]
    cases hx : atV v s with
    | none => exact Adds.same hv hw
    | some x =>
      obtain ⟨a1, a2, a3⟩ := at_deep hx hv hw
      have ih := chg_adds hu huw k (t :: p) d x (fun s hs2 => hs s (List.mem_cons_of_mem _ hs2)) a1 a2
      simp only
      split
      · exact Adds.same hv hw
      · exact (chS_adds1 hv hw hx ih (hs s (by simp))).le (by simp; omega)
theorem rchg_adds {dc m : Nat} {u : VT} (hu : Deep dc u) (huw : Wide (m + 1) dc u) (k : Int) : ∀ (p : List St) (d : Nat) (v : VT), (∀ s ∈ p, s.name.size ≤ 100) → Deep d v → Wide m d v → Adds d dc m (vW dc u + 604 * p.length) v (rchg k u p v).1
  | _, 0, _, _, h, _ => h.elim
  | [], d + 1, v, _, hv, hw => ⟨hu.upto (by omega), by show vW (d + 1 + dc) u ≤ _; rw [vW_deep (by omega) hu]; omega, Wide.deep (by omega) hu huw⟩
  | [s], d + 1, v, hs, hv, hw => by
    have h := lastR_adds hv hw (u := u) (dc := dc) (hu.upto (by omega)) (Wide.deep (by omega) hu huw) (hs s (by simp)) k
    rw [vW_deep (by omega) hu] at h
    exact h.le (by simp)
  | s :: t :: p, d + 1, v, hs, hv, hw => by
    have e1 : rchg k u (s :: t :: p) v = match getR v s with | none => (v, 8) | some x => (withR v s (rchg k u (t :: p) x).1, (rchg k u (t :: p) x).2) := rfl
    rw [e1]
    cases hx : getR v s with
    | none => exact Adds.same hv hw
    | some x =>
      obtain ⟨a1, a2, a3⟩ := getR_deep hx hv hw
      have ih := rchg_adds hu huw k (t :: p) d x (fun s hs2 => hs s (List.mem_cons_of_mem _ hs2)) a1 a2
      simp only
      exact (withR_adds hv hw ih.1 ih.2.2 (hs s (by simp)) (B := vW dc u + 604 * (t :: p).length) (by rw [hx]; exact ih.2.1)).le (by simp; omega)

/-! many changes: the place of the change that cannot be made, the error, the value; D is a change's depth -/
def runF (f : ChD → VT → VT × Int) (D : Nat) : Nat → VT → Nat → List ChD → Nat × Int × VT
  | _, v, _, [] => (0, 0, v)
  | d, v, i, c :: cs => if orF (f c v).2 (vCheck (d + D) (f c v).1) ≠ 0 then (i, orF (f c v).2 (vCheck (d + D) (f c v).1), nilV) else runF f D (d + D) (f c v).1 (i + 1) cs
def progC (c : ChD) (v : VT) : VT × Int := chg c.kind c.val c.path v
def refC (c : ChD) (v : VT) : VT × Int := rchg c.kind c.val c.path v
/-- a change that is right -/
def OkC (D : Nat) (c : ChD) : Prop := 1 ≤ c.kind ∧ c.kind ≤ 3 ∧ (c.kind = 2 → lastNamed c.path = false) ∧ (∀ s ∈ c.path, s.name.size ≤ 100) ∧ c.path.length ≤ 50 ∧ Deep D c.val
theorem vCheck_fault {d : Nat} {v : VT} (h : vCheck d v = 0) : vFault d v = 0 := by
  unfold vCheck at h
  split at h
  · omega
  · exact h
theorem run_eq (D : Nat) : ∀ (cs : List ChD) (m d : Nat) (v : VT) (i : Nat), Deep d v → Wide m d v → vFault d v = 0 → (∀ c ∈ cs, OkC D c ∧ Wide m D c.val) → runF refC D d v i cs = runF progC D d v i cs
  | [], m, d, v, i, _, _, _, _ => rfl
  | c :: cs, m, d, v, i, hd, hw, hv, hc => by
    obtain ⟨⟨k1, k2, k3, k4, k5, k6⟩, k7⟩ := hc c (by simp)
    obtain ⟨e1, e2⟩ := chg_eq (u := c.val) ⟨k1, k2⟩ c.path d v (Good.of d v hd hv) k3
    have e3 : (refC c v).2 = (progC c v).2 := e1
    have e4 : (progC c v).2 = 0 → (refC c v).1 = (progC c v).1 := e2
    unfold runF
    rw [e3]
    by_cases h0 : (progC c v).2 = 0
    · rw [e4 h0]
      by_cases h1 : orF (progC c v).2 (vCheck (d + D) (progC c v).1) = 0
      · rw [if_neg (by simp [h1]), if_neg (by simp [h1])]
        have h2 := (orF_eq_zero h1).2
        have hadd := chg_adds k6 (Wide.mono (Nat.le_succ m) _ _ k7) c.kind c.path d v k4 hd hw
        exact run_eq D cs (m + 1) _ _ _ hadd.1 hadd.2.2 (vCheck_fault h2) (fun c hc2 => ⟨(hc c (List.mem_cons_of_mem _ hc2)).1, Wide.mono (Nat.le_succ m) _ _ (hc c (List.mem_cons_of_mem _ hc2)).2⟩)
      · rw [if_pos h1, if_pos h1]
    · have h1 : ∀ z, orF (progC c v).2 z = (progC c v).2 := fun z => by unfold orF; rw [if_pos h0]
      rw [h1, h1, if_pos h0, if_pos h0]

end Go.Proofs.YtahofcopedlenaaGreatDoor
