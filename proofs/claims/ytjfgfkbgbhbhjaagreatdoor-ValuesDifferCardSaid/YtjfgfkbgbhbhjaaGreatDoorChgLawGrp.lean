/- Several texts in one. (1) Changes of values, the plain law: steps, paths, changes, what a change makes of a value, in the program's words and in the reference's. No program in sight. No conditions. (2) Changes of values, the plain law: the program's change and the reference's are the same; how much a change adds. No conditions. (3) Changes of values, the plain law: what changes add; many changes, one after another. No conditions. -/
import Derived.Test.YtjfgfkbgbhbhjaaGreatDoorValLaw

namespace Go.Proofs.YtjfgfkbgbhbhjaaGreatDoor
open Go.RowKit
set_option linter.unusedVariables false
set_option linter.unusedSimpArgs false

/-- a step as its cells say -/
structure St where
  named : Bool
  name : ByteArray
  at_ : Int
structure ChD where
  kind : Int
  path : List St
  val : VT
def nilV : VT := .mk 0 false 0 ⟨#[]⟩ [] []
def lastNamed (p : List St) : Bool := match p.getLast? with | some s => s.named | none => false
/-! the order of strings -/
theorem cb_zero : ∀ a b : List UInt8, Lib.compareBytes a b = 0 ↔ a = b
  | [], [] => by simp [Lib.compareBytes]
  | [], _ :: _ => by simp [Lib.compareBytes]
  | _ :: _, [] => by simp [Lib.compareBytes]
  | a :: xs, b :: ys => by
    unfold Lib.compareBytes
    split
    · rename_i h
      have : a ≠ b := fun e => by subst e; exact absurd h (UInt8.lt_irrefl _)
      simp [this]
    · split
      · rename_i h1 h
        have : a ≠ b := fun e => by subst e; exact absurd h (UInt8.lt_irrefl _)
        simp [this]
      · rename_i h1 h2
        have : a = b := by
          have h3 : ¬ a.toNat < b.toNat := h1
          have h4 : ¬ b.toNat < a.toNat := h2
          exact UInt8.toNat_inj.1 (by omega)
        rw [cb_zero xs ys]
        simp [this]
theorem cb_less : ∀ a b : List UInt8, Op.bytesLess a b = decide (Lib.compareBytes a b < 0)
  | [], [] => by simp [Lib.compareBytes, Op.bytesLess]
  | [], _ :: _ => by simp [Lib.compareBytes, Op.bytesLess]
  | _ :: _, [] => by simp [Lib.compareBytes, Op.bytesLess]
  | a :: xs, b :: ys => by
    unfold Lib.compareBytes Op.bytesLess
    rw [cb_less xs ys]
    by_cases h1 : a < b
    · simp [h1]
    · by_cases h2 : b < a
      · have : ¬ a = b := fun e => by subst e; exact h1 h2
        simp [h1, h2, this]
      · have : a = b := by
          have h3 : ¬ a.toNat < b.toNat := h1
          have h4 : ¬ b.toNat < a.toNat := h2
          exact UInt8.toNat_inj.1 (by omega)
        simp [h1, h2, this]
theorem cb_swap : ∀ a b : List UInt8, Lib.compareBytes b a = - Lib.compareBytes a b
  | [], [] => by simp [Lib.compareBytes]
  | [], _ :: _ => by simp [Lib.compareBytes]
  | _ :: _, [] => by simp [Lib.compareBytes]
  | a :: xs, b :: ys => by
    unfold Lib.compareBytes
    rw [cb_swap xs ys]
    by_cases h1 : a < b
    · have : ¬ b < a := by
        have h3 : a.toNat < b.toNat := h1
        intro h; have h4 : b.toNat < a.toNat := h; omega
      simp [h1, this]
    · by_cases h2 : b < a
      · simp [h1, h2]
      · simp [h1, h2]
theorem cb_trans : ∀ a b c : List UInt8, Lib.compareBytes a b < 0 → Lib.compareBytes b c < 0 → Lib.compareBytes a c < 0
  | [], [], _ => fun h => by simp [Lib.compareBytes] at h
  | [], _ :: _, [] => fun _ h => by simp [Lib.compareBytes] at h
  | [], _ :: _, _ :: _ => fun _ _ => by simp [Lib.compareBytes]
  | _ :: _, [], _ => fun h => by simp [Lib.compareBytes] at h
  | _ :: _, _ :: _, [] => fun _ h => by simp [Lib.compareBytes] at h
  | a :: xs, b :: ys, c :: zs => by
    intro h1 h2
    unfold Lib.compareBytes at h1 h2 ⊢
    have key : ∀ x y : UInt8, (x < y) = (x.toNat < y.toNat) := fun _ _ => rfl
    simp only [key] at h1 h2 ⊢
    by_cases e1 : a.toNat < b.toNat
    · by_cases e2 : b.toNat < c.toNat
      · rw [if_pos (by omega)]; omega
      · rw [if_neg e2] at h2
        by_cases e3 : c.toNat < b.toNat
        · rw [if_pos e3] at h2; omega
        · rw [if_pos (by omega)]; omega
    · rw [if_neg e1] at h1
      by_cases e3 : b.toNat < a.toNat
      · rw [if_pos e3] at h1; omega
      · rw [if_neg e3] at h1
        by_cases e2 : b.toNat < c.toNat
        · rw [if_pos (by omega)]; omega
        · rw [if_neg e2] at h2
          by_cases e4 : c.toNat < b.toNat
          · rw [if_pos e4] at h2; omega
          · rw [if_neg e4] at h2
            rw [if_neg (by omega), if_neg (by omega)]
            exact cb_trans xs ys zs h1 h2
theorem ba_ext {a b : ByteArray} (h : a.data.toList = b.data.toList) : a = b := by
  cases a; cases b; congr; exact Array.toList_inj.1 h
theorem cmpB_zero (a b : ByteArray) : cmpB a b = 0 ↔ a = b := by
  unfold cmpB
  rw [cb_zero]
  exact ⟨ba_ext, fun e => by rw [e]⟩
theorem cmpB_swap (a b : ByteArray) : cmpB b a = - cmpB a b := cb_swap _ _
theorem cmpB_trans {a b c : ByteArray} (h1 : cmpB a b < 0) (h2 : cmpB b c < 0) : cmpB a c < 0 := cb_trans _ _ _ h1 h2
theorem cmpB_self (a : ByteArray) : cmpB a a = 0 := (cmpB_zero a a).2 rfl
theorem ba_toList (a : ByteArray) : a.toList = a.data.toList := by simp [ByteArray.toList_eq]
theorem strLe_cmp (a b : ByteArray) : strLeV a b = decide (cmpB a b ≤ 0) := by
  unfold strLeV
  rw [cb_less, ba_toList, ba_toList]
  unfold cmpB
  have h := cb_zero a.data.toList b.data.toList
  by_cases e : a.data.toList = b.data.toList
  · rw [h.2 e, e]; simp
  · have h2 : Lib.compareBytes a.data.toList b.data.toList ≠ 0 := fun q => e (h.1 q)
    rw [show (a.data.toList == b.data.toList) = false by simpa using e, Bool.or_false]
    congr 1
    exact propext (by omega)

/-! names in order -/
abbrev Mem := ByteArray × VT
def Srt : List Mem → Prop
  | [] => True
  | p :: l => (∀ q ∈ l, cmpB p.1 q.1 < 0) ∧ Srt l
/-- how many names stand ahead of a name -/
def place : List Mem → ByteArray → Nat
  | [], _ => 0
  | p :: l, s => if cmpB p.1 s < 0 then place l s + 1 else 0
theorem place_le : ∀ (l : List Mem) (s : ByteArray), place l s ≤ l.length
  | [], _ => Nat.le_refl _
  | p :: l, s => by
    unfold place
    have := place_le l s
    split <;> simp <;> omega
theorem place_eq : ∀ (l : List Mem) (s : ByteArray) (i : Nat), i ≤ l.length → (∀ j (h : j < l.length), j < i → cmpB l[j].1 s < 0) → (∀ h : i < l.length, ¬ cmpB l[i].1 s < 0) → place l s = i
  | [], s, i, h, _, _ => by simp at h; subst h; rfl
  | p :: l, s, 0, _, _, h2 => by
    have := h2 (by simp)
    simp only [List.getElem_cons_zero] at this
    unfold place
    rw [if_neg this]
  | p :: l, s, i + 1, h, h1, h2 => by
    have h0 := h1 0 (by simp) (by omega)
    simp only [List.getElem_cons_zero] at h0
    unfold place
    rw [if_pos h0, place_eq l s i (by simpa using h) (fun j hj hi => by have := h1 (j + 1) (by simp; omega) (by omega); simpa using this) (fun hi => by have := h2 (by simp; omega); simpa using this)]
def hasAt (l : List Mem) (s : ByteArray) : Bool := match l[place l s]? with | some p => decide (p.1 = s) | none => false
theorem hasAt_cons (p : Mem) (l : List Mem) (s : ByteArray) : hasAt (p :: l) s = if cmpB p.1 s < 0 then hasAt l s else decide (p.1 = s) := by
  have e : place (p :: l) s = if cmpB p.1 s < 0 then place l s + 1 else 0 := rfl
  unfold hasAt
  rw [e]
  by_cases h : cmpB p.1 s < 0
  · rw [if_pos h, if_pos h, List.getElem?_cons_succ]
  · rw [if_neg h, if_neg h, List.getElem?_cons_zero]
theorem Srt.above {p : Mem} {l : List Mem} (h : Srt (p :: l)) {s : ByteArray} (hs : ¬ cmpB p.1 s < 0) : ∀ q ∈ l, ¬ q.1 = s := fun q hq e => by
  have h1 := h.1 q hq
  rw [e] at h1
  exact hs h1
theorem find_has : ∀ (l : List Mem) (s : ByteArray), Srt l → l.find? (fun p => decide (p.1 = s)) = if hasAt l s = true then l[place l s]? else none
  | [], s, _ => by simp [hasAt, place]
  | p :: l, s, h => by
    rw [hasAt_cons, List.find?_cons]
    by_cases h1 : cmpB p.1 s < 0
    · have h2 : ¬ p.1 = s := fun e => by rw [e, cmpB_self] at h1; omega
      simp only [h1, if_true, h2, decide_false, place]
      rw [find_has l s h.2, List.getElem?_cons_succ]
    · simp only [h1, if_false, place]
      by_cases e : p.1 = s
      · simp [e]
      · simp [e]
        intro a b hq
        exact h.above h1 (a, b) hq
theorem filter_id {l : List Mem} {s : ByteArray} (h : ∀ q ∈ l, ¬ q.1 = s) : l.filter (fun p => !decide (p.1 = s)) = l := by
  rw [List.filter_eq_self]
  intro q hq
  simp [h q hq]
theorem filter_has : ∀ (l : List Mem) (s : ByteArray), Srt l → l.filter (fun p => !decide (p.1 = s)) = if hasAt l s = true then l.take (place l s) ++ l.drop (place l s + 1) else l
  | [], s, _ => by simp [hasAt, place]
  | p :: l, s, h => by
    rw [hasAt_cons]
    by_cases h1 : cmpB p.1 s < 0
    · have h2 : ¬ p.1 = s := fun e => by rw [e, cmpB_self] at h1; omega
      simp only [h1, if_true, place]
      rw [List.filter_cons_of_pos (by simp [h2]), filter_has l s h.2]
      split
      · simp
      · rfl
    · simp only [h1, if_false, place]
      by_cases e : p.1 = s
      · simp only [e, decide_true, if_true, List.take_zero, List.nil_append, Nat.zero_add, List.drop_succ_cons, List.drop_zero]
        rw [List.filter_cons_of_neg (by simp [e]), filter_id (h.above h1)]
      · simp only [e, decide_false, Bool.false_eq_true, if_false]
        rw [List.filter_cons_of_pos (by simp [e]), filter_id (h.above h1)]
/-- to put a member where it belongs -/
def insM (l : List Mem) (x : Mem) : List Mem := l.take (place l x.1) ++ x :: l.drop (place l x.1)
def putM (l : List Mem) (x : Mem) : List Mem := insM (l.filter fun p => !decide (p.1 = x.1)) x
theorem place_gone : ∀ (l : List Mem) (s : ByteArray), Srt l → hasAt l s = true → place (l.take (place l s) ++ l.drop (place l s + 1)) s = place l s
  | [], s, _ => by simp [hasAt, place]
  | p :: l, s, h => by
    rw [hasAt_cons]
    by_cases h1 : cmpB p.1 s < 0
    · simp only [h1, if_true, place]
      intro hh
      have := place_gone l s h.2 hh
      simp only [List.take_succ_cons, List.cons_append, List.drop_succ_cons, place, h1, if_true, this]
    · simp only [h1, if_false, place]
      intro e
      simp only [decide_eq_true_eq] at e
      simp only [List.take_zero, List.nil_append, Nat.zero_add, List.drop_succ_cons, List.drop_zero]
      cases l with
      | nil => rfl
      | cons q l =>
        have h2 := h.1 q (by simp)
        rw [e] at h2
        unfold place
        rw [if_neg (by rw [cmpB_swap]; omega)]
theorem put_has (l : List Mem) (x : Mem) (h : Srt l) : putM l x = if hasAt l x.1 = true then l.set (place l x.1) x else insM l x := by
  unfold putM
  rw [filter_has l x.1 h]
  by_cases e : hasAt l x.1 = true
  · rw [if_pos e, if_pos e]
    unfold insM
    rw [place_gone l x.1 h e]
    have hlt : place l x.1 < l.length := by
      unfold hasAt at e
      by_cases hq : place l x.1 < l.length
      · exact hq
      · rw [List.getElem?_eq_none (by omega)] at e; cases e
    rw [List.take_append_of_le_length (by simp; omega), List.take_take, Nat.min_self, List.drop_append]
    rw [List.drop_of_length_le (by simp; omega)]
    simp only [List.length_take, Nat.min_eq_left (Nat.le_of_lt hlt), Nat.sub_self, List.drop_zero, List.nil_append]
    rw [List.set_eq_take_append_cons_drop, if_pos hlt]
  · rw [if_neg e, if_neg e]
/-- names that are right stand in order -/
theorem srt_of_next : ∀ (l : List Mem), (∀ k (h : k + 1 < l.length), cmpB l[k].1 l[k + 1].1 < 0) → Srt l
  | [], _ => trivial
  | [p], _ => ⟨fun q hq => (by cases hq), trivial⟩
  | p :: q :: l, h => by
    have ih := srt_of_next (q :: l) (fun k hk => by have := h (k + 1) (by simpa using hk); simpa using this)
    have h0 := h 0 (by simp)
    simp only [List.getElem_cons_zero, List.getElem_cons_succ, Nat.zero_add] at h0
    refine ⟨fun r hr => ?_, ih⟩
    rcases List.mem_cons.1 hr with rfl | hr
    · exact h0
    · exact cmpB_trans h0 (ih.1 r hr)
theorem fz_zero {l : List Int} (h : fz l = 0) : ∀ x ∈ l, x = 0 := by
  induction l with
  | nil => intro x hx; cases hx
  | cons a l ih =>
    simp only [fz] at h
    split at h
    · rename_i h2; exact absurd h h2
    · rename_i h2
      intro x hx
      rcases List.mem_cons.1 hx with rfl | hx
      · omega
      · exact ih h x hx
theorem srt_of_names {l : List Mem} (h : namesF (l.map (·.1)) = 0) : Srt l := by
  refine srt_of_next l (fun k hk => ?_)
  have h1 := fz_zero h (nameAt (l.map (·.1)) (k + 1)) (List.mem_map.2 ⟨k + 1, by simpa using hk, rfl⟩)
  have h2 := nameAt_eq (l := l.map (·.1)) (k := k + 1) (s := l[k + 1].1) (by simp [hk]) l[k].1 (fun _ => by simp [show k < l.length by omega])
  rw [h1] at h2
  split at h2
  · rename_i h3; exact absurd h2.symm h3
  · split at h2
    · omega
    · rename_i h3
      have h4 : ¬ strLeV l[k + 1].1 l[k].1 = true := fun e => h3 ⟨by omega, e⟩
      rw [strLe_cmp] at h4
      simp at h4
      rw [cmpB_swap]
      omega

/-! one change -/
def VT.setL (v : VT) (l : List VT) : VT := .mk v.kind v.flag v.num v.words l v.mem
def VT.setM (v : VT) (l : List Mem) : VT := .mk v.kind v.flag v.num v.words v.list l
def chM (v : VT) (k : Int) (s : ByteArray) (u : VT) : VT × Int :=
  if v.kind ≠ 5 then (v, 10) else
  if k = 3 then (if hasAt v.mem s = true then (v.setM (v.mem.take (place v.mem s) ++ v.mem.drop (place v.mem s + 1)), 0) else (v, 8)) else
  if hasAt v.mem s = true then (v.setM (v.mem.set (place v.mem s) (s, u)), 0) else (v.setM (insM v.mem (s, u)), 0)
def chL (v : VT) (k : Int) (i : Nat) (u : VT) : VT × Int :=
  if v.kind ≠ 4 then (v, 10) else if v.list.length < i ∨ (k = 3 ∧ i = v.list.length) then (v, 8) else
  if k = 3 then (v.setL (v.list.take i ++ v.list.drop (i + 1)), 0) else
  if k = 1 ∧ i < v.list.length then (v.setL (v.list.set i u), 0) else (v.setL (v.list.take i ++ u :: v.list.drop i), 0)
def atV (v : VT) (s : St) : Option VT :=
  if s.named = true then (if v.kind = 5 ∧ hasAt v.mem s.name = true then (v.mem[place v.mem s.name]?).map (·.2) else none)
  else if v.kind = 4 then v.list[s.at_.toNat]? else none
def chS (v : VT) (k : Int) (s : St) (u : VT) : VT × Int := if s.named = true then chM v k s.name u else chL v k s.at_.toNat u
def chg (k : Int) (u : VT) : List St → VT → VT × Int
  | [], _ => (u, 0)
  | [s], v => chS v k s u
  | s :: t :: p, v => match atV v s with
    | none => (v, 8)
    | some x => if (chg k u (t :: p) x).2 ≠ 0 then (v, (chg k u (t :: p) x).2) else chS v 1 s (chg k u (t :: p) x).1
def getR (v : VT) (s : St) : Option VT := if s.named = true then (v.mem.find? fun p => decide (p.1 = s.name)).map (·.2) else v.list[s.at_.toNat]?
end Go.Proofs.YtjfgfkbgbhbhjaaGreatDoor

namespace Go.Proofs.YtjfgfkbgbhbhjaaGreatDoor
open Go.RowKit
set_option linter.unusedVariables false
set_option linter.unusedSimpArgs false

/-- no deeper than d, and right at every place -/
def Good : Nat → VT → Prop
  | 0, _ => False
  | d + 1, v => ownF v = 0 ∧ (∀ x ∈ v.list, Good d x) ∧ (∀ p ∈ v.mem, Good d p.2)
def Deep : Nat → VT → Prop
  | 0, _ => False
  | d + 1, v => (∀ x ∈ v.list, Deep d x) ∧ (∀ p ∈ v.mem, Deep d p.2)
theorem orF_eq_zero {a b : Int} (h : orF a b = 0) : a = 0 ∧ b = 0 := by
  unfold orF at h
  split at h
  · rename_i q; exact absurd h q
  · rename_i q; exact ⟨Decidable.not_not.1 q, h⟩
theorem Good.of : ∀ (d : Nat) (v : VT), Deep d v → vFault d v = 0 → Good d v
  | 0, _, h, _ => h
  | d + 1, v, h, hf => by
    obtain ⟨h1, h2⟩ := orF_eq_zero (show orF (ownF v) (orF (fz (v.list.map (vFault d))) (fz (v.mem.map fun p => vFault d p.2))) = 0 from hf)
    obtain ⟨h2, h3⟩ := orF_eq_zero h2
    exact ⟨h1, fun x hx => Good.of d x (h.1 x hx) (fz_zero h2 _ (List.mem_map.2 ⟨x, hx, rfl⟩)), fun p hp => Good.of d p.2 (h.2 p hp) (fz_zero h3 _ (List.mem_map.2 ⟨p, hp, rfl⟩))⟩
theorem own_idle {v : VT} (h : ownF v = 0) : (v.kind ≠ 4 → v.list = []) ∧ (v.kind ≠ 5 → v.mem = []) ∧ Srt v.mem := by
  obtain ⟨h1, h2⟩ := orF_eq_zero (show orF (headF v) (namesF (v.mem.map (·.1))) = 0 from h)
  have hi : idleV v = true := by
    unfold headF at h1
    split at h1
    · omega
    · split at h1
      · omega
      · rename_i q; simpa using q
  unfold idleV at hi
  simp only [Bool.and_eq_true, Bool.or_eq_true, decide_eq_true_eq] at hi
  obtain ⟨⟨-, h4⟩, h5⟩ := hi
  refine ⟨fun q => ?_, fun q => ?_, srt_of_names h2⟩
  · rcases h4 with h4 | h4
    · exact absurd h4 q
    · exact List.eq_nil_of_length_eq_zero h4
  · rcases h5 with h5 | h5
    · exact absurd h5 q
    · exact List.eq_nil_of_length_eq_zero h5
theorem hasAt_lt {l : List Mem} {s : ByteArray} (h : hasAt l s = true) : ∃ hq : place l s < l.length, l[place l s].1 = s := by
  unfold hasAt at h
  by_cases hq : place l s < l.length
  · rw [List.getElem?_eq_getElem hq] at h
    exact ⟨hq, by simpa using h⟩
  · rw [List.getElem?_eq_none (by omega)] at h; cases h
theorem at_eq {v : VT} (h : ownF v = 0) (s : St) : atV v s = getR v s := by
  obtain ⟨h1, h2, h3⟩ := own_idle h
  unfold atV getR
  by_cases hn : s.named = true
  · rw [if_pos hn, if_pos hn, find_has _ _ h3]
    by_cases hk : v.kind = 5
    · by_cases hh : hasAt v.mem s.name = true
      · rw [if_pos ⟨hk, hh⟩, if_pos hh]
      · rw [if_neg (fun q => hh q.2), if_neg hh]; rfl
    · rw [if_neg (fun q => hk q.1), h2 hk]; simp [hasAt, place]
  · rw [if_neg hn, if_neg hn]
    by_cases hk : v.kind = 4
    · rw [if_pos hk]
    · rw [if_neg hk, h1 hk]; simp
theorem at_some {v x : VT} {s : St} (h : atV v s = some x) : (s.named = true → v.kind = 5 ∧ ∃ hq : place v.mem s.name < v.mem.length, v.mem[place v.mem s.name] = (s.name, x)) ∧ (s.named = false → v.kind = 4 ∧ ∃ hq : s.at_.toNat < v.list.length, v.list[s.at_.toNat] = x) := by
  unfold atV at h
  cases hn : s.named with
  | true =>
    rw [hn, if_pos rfl] at h
    split at h
    · rename_i hk
      obtain ⟨hq, he⟩ := hasAt_lt hk.2
      rw [List.getElem?_eq_getElem hq] at h
      simp only [Option.map_some, Option.some.injEq] at h
      exact ⟨fun _ => ⟨hk.1, hq, Prod.ext he h⟩, fun e => (by cases e)⟩
    · cases h
  | false =>
    rw [hn, if_neg (by decide)] at h
    split at h
    · rename_i hk
      refine ⟨fun e => (by cases e), fun _ => ⟨hk, ?_⟩⟩
      by_cases hq : s.at_.toNat < v.list.length
      · rw [List.getElem?_eq_getElem hq] at h
        exact ⟨hq, by simpa using h⟩
      · rw [List.getElem?_eq_none (by omega)] at h; cases h
    · cases h
theorem chM5 {v : VT} (h : v.kind = 5) (k : Int) (s : ByteArray) (u : VT) : chM v k s u = if k = 3 then (if hasAt v.mem s = true then (v.setM (v.mem.take (place v.mem s) ++ v.mem.drop (place v.mem s + 1)), 0) else (v, 8)) else
    if hasAt v.mem s = true then (v.setM (v.mem.set (place v.mem s) (s, u)), 0) else (v.setM (insM v.mem (s, u)), 0) := by
  unfold chM; rw [if_neg (by simp [h])]
theorem chL4 {v : VT} (h : v.kind = 4) (k : Int) (i : Nat) (u : VT) : chL v k i u = if v.list.length < i ∨ (k = 3 ∧ i = v.list.length) then (v, 8) else
    if k = 3 then (v.setL (v.list.take i ++ v.list.drop (i + 1)), 0) else
    if k = 1 ∧ i < v.list.length then (v.setL (v.list.set i u), 0) else (v.setL (v.list.take i ++ u :: v.list.drop i), 0) := by
  unfold chL; rw [if_neg (by simp [h])]
theorem getR5 {v : VT} {s : St} (hn : s.named = true) (h4 : Srt v.mem) : getR v s = if hasAt v.mem s.name = true then (v.mem[place v.mem s.name]?).map (·.2) else none := by
  unfold getR; rw [if_pos hn, find_has _ _ h4]; split <;> rfl
theorem getR4 {v : VT} {s : St} (hn : s.named = false) : getR v s = v.list[s.at_.toNat]? := by unfold getR; rw [if_neg (by simp [hn])]
theorem chS5 {v : VT} {s : St} (hn : s.named = true) (k : Int) (u : VT) : chS v k s u = chM v k s.name u := by unfold chS; rw [if_pos hn]
theorem chS4 {v : VT} {s : St} (hn : s.named = false) (k : Int) (u : VT) : chS v k s u = chL v k s.at_.toNat u := by unfold chS; rw [if_neg (by simp [hn])]
theorem Good.at {d : Nat} {v x : VT} {s : St} (h : Good (d + 1) v) (hx : atV v s = some x) : Good d x := by
  obtain ⟨h1, h2⟩ := at_some hx
  cases hn : s.named with
  | true =>
    obtain ⟨-, hq, he⟩ := h1 hn
    have := h.2.2 _ (List.getElem_mem hq)
    rw [he] at this; exact this
  | false =>
    obtain ⟨-, hq, he⟩ := h2 hn
    have := h.2.1 _ (List.getElem_mem hq)
    rw [he] at this; exact this
/-! how much a change adds -/
theorem Deep.more : ∀ (d : Nat) (v : VT), Deep d v → Deep (d + 1) v
  | 0, _, h => h.elim
  | d + 1, v, h => ⟨fun x hx => Deep.more d x (h.1 x hx), fun p hp => Deep.more d p.2 (h.2 p hp)⟩
theorem Deep.upto {d d' : Nat} (hd : d ≤ d') {v : VT} (h : Deep d v) : Deep d' v := by
  obtain ⟨k, rfl⟩ := Nat.le.dest hd
  induction k with
  | zero => exact h
  | succ k ih => exact Deep.more _ _ (ih (by omega))
theorem map_congr_sum {α : Type} {f g : α → Nat} {l : List α} (h : ∀ x ∈ l, f x = g x) : (l.map f).sum = (l.map g).sum := by rw [List.map_congr_left h]
theorem vW_deep1 : ∀ (d : Nat) (v : VT), Deep d v → vW (d + 1) v = vW d v
  | 0, _, h => h.elim
  | d + 1, v, h => by
    have e1 : vW (d + 1 + 1) v = 40 + 6 * v.words.size + ((v.list.map fun x => vW (d + 1) x + 1).sum + (v.mem.map fun p => vW (d + 1) p.2 + (6 * p.1.size + 4)).sum) := rfl
    have e2 : vW (d + 1) v = 40 + 6 * v.words.size + ((v.list.map fun x => vW d x + 1).sum + (v.mem.map fun p => vW d p.2 + (6 * p.1.size + 4)).sum) := rfl
    have e3 := map_congr_sum (l := v.list) (f := fun x => vW (d + 1) x + 1) (g := fun x => vW d x + 1) (fun x hx => by rw [vW_deep1 d x (h.1 x hx)])
    have e4 := map_congr_sum (l := v.mem) (f := fun p => vW (d + 1) p.2 + (6 * p.1.size + 4)) (g := fun p => vW d p.2 + (6 * p.1.size + 4)) (fun p hp => by rw [vW_deep1 d p.2 (h.2 p hp)])
    rw [e1, e2, e3, e4]
theorem vW_deep {d d' : Nat} (hd : d ≤ d') {v : VT} (h : Deep d v) : vW d' v = vW d v := by
  obtain ⟨k, rfl⟩ := Nat.le.dest hd
  induction k with
  | zero => rfl
  | succ k ih => exact (vW_deep1 _ _ (h.upto (Nat.le_add_right _ _))).trans (ih (Nat.le_add_right _ _))
theorem Wide.deep1 {m : Nat} : ∀ (d : Nat) (v : VT), Deep d v → Wide m d v → Wide m (d + 1) v
  | 0, _, h, _ => h.elim
  | d + 1, v, h, hw => ⟨hw.1, hw.2.1, hw.2.2.1, fun x hx => Wide.deep1 d x (h.1 x hx) (hw.2.2.2.1 x hx), fun p hp => ⟨(hw.2.2.2.2 p hp).1, Wide.deep1 d p.2 (h.2 p hp) (hw.2.2.2.2 p hp).2⟩⟩
theorem Wide.deep {m d d' : Nat} (hd : d ≤ d') {v : VT} (h : Deep d v) (hw : Wide m d v) : Wide m d' v := by
  obtain ⟨k, rfl⟩ := Nat.le.dest hd
  induction k with
  | zero => exact hw
  | succ k ih => exact Wide.deep1 _ _ (h.upto (Nat.le_add_right _ _)) (ih (Nat.le_add_right _ _))
def oF {α : Type} (f : α → Nat) : Option α → Nat
  | some y => f y
  | none => 0
/-- l' holds nothing but what l holds, and x; it weighs more by x at most, less by o -/
structure Upd {α : Type} (l l' : List α) (x : α) (n : Nat) (o : Option α) : Prop where
  mem : ∀ y ∈ l', y ∈ l ∨ y = x
  len : l'.length ≤ l.length + n
  sum : ∀ f : α → Nat, (l'.map f).sum + oF f o ≤ (l.map f).sum + f x
  old : ∀ y, o = some y → y ∈ l
/-- what is known of a change: its depth, its weight, its width -/
def Adds (d dc m A : Nat) (v r : VT) : Prop := Deep (d + dc) r ∧ vW (d + dc) r ≤ vW d v + A ∧ Wide (m + 1) (d + dc) r
theorem Adds.same {d dc m A : Nat} {v : VT} (hv : Deep d v) (hw : Wide m d v) : Adds d dc m A v v :=
  ⟨hv.upto (by omega), by rw [vW_deep (by omega) hv]; omega, Wide.mono (by omega) _ _ (Wide.deep (by omega) hv hw)⟩
theorem upd_L {d dc m n B : Nat} {v u : VT} {l' : List VT} {o : Option VT} (hv : Deep (d + 1) v) (hw : Wide m (d + 1) v) (hu : Deep (d + dc) u) (huw : Wide (m + 1) (d + dc) u) (h : Upd v.list l' u n o) (hn : n ≤ 1)
    (ha : vW (d + dc) u ≤ oF (vW d) o + B) : Adds (d + 1) dc m (B + 1) v (v.setL l') := by
  have e0 : d + 1 + dc = d + dc + 1 := by omega
  unfold Adds
  rw [e0]
  refine ⟨⟨fun x hx => ?_, fun p hp => (hv.2 p hp).upto (by omega)⟩, ?_, ⟨?_, ?_, hw.2.2.1, fun x hx => ?_, fun p hp => ⟨(hw.2.2.2.2 p hp).1, Wide.mono (by omega) _ _ (Wide.deep (by omega) (hv.2 p hp) (hw.2.2.2.2 p hp).2)⟩⟩⟩
  · rcases h.mem x hx with hx | rfl
    · exact (hv.1 x hx).upto (by omega)
    · exact hu
  · have e1 : vW (d + dc + 1) (v.setL l') = 40 + 6 * v.words.size + ((l'.map fun x => vW (d + dc) x + 1).sum + (v.mem.map fun p => vW (d + dc) p.2 + (6 * p.1.size + 4)).sum) := rfl
    have e2 : vW (d + 1) v = 40 + 6 * v.words.size + ((v.list.map fun x => vW d x + 1).sum + (v.mem.map fun p => vW d p.2 + (6 * p.1.size + 4)).sum) := rfl
    have e3 := h.sum (fun x => vW (d + dc) x + 1)
    have e4 := map_congr_sum (l := v.mem) (f := fun p => vW (d + dc) p.2 + (6 * p.1.size + 4)) (g := fun p => vW d p.2 + (6 * p.1.size + 4)) (fun p hp => by rw [vW_deep (by omega) (hv.2 p hp)])
    have e5 := map_congr_sum (l := v.list) (f := fun x => vW (d + dc) x + 1) (g := fun x => vW d x + 1) (fun x hx => by rw [vW_deep (by omega) (hv.1 x hx)])
    cases o with
    | none => simp only [oF] at e3 ha; omega
    | some y =>
      have e6 := vW_deep (show d ≤ d + dc by omega) (hv.1 y (h.old y rfl))
      simp only [oF] at e3 ha
      omega
  · show l'.length ≤ m + 1
    have := h.len; have := hw.1; omega
  · have := hw.2.1; show v.mem.length ≤ m + 1; omega
  · rcases h.mem x hx with hx | rfl
    · exact Wide.mono (by omega) _ _ (Wide.deep (by omega) (hv.1 x hx) (hw.2.2.2.1 x hx))
    · exact huw
theorem upd_M {d dc m n B : Nat} {v u : VT} {s : ByteArray} {l' : List (ByteArray × VT)} {o : Option (ByteArray × VT)} (hv : Deep (d + 1) v) (hw : Wide m (d + 1) v) (hu : Deep (d + dc) u) (huw : Wide (m + 1) (d + dc) u) (hs : s.size ≤ 100) (h : Upd v.mem l' (s, u) n o) (hn : n ≤ 1)
    (ha : vW (d + dc) u ≤ oF (fun p => vW d p.2) o + B) : Adds (d + 1) dc m (B + 604) v (v.setM l') := by
  have e0 : d + 1 + dc = d + dc + 1 := by omega
  unfold Adds
  rw [e0]
  refine ⟨⟨fun x hx => (hv.1 x hx).upto (by omega), fun p hp => ?_⟩, ?_, ⟨?_, ?_, hw.2.2.1, fun x hx => Wide.mono (by omega) _ _ (Wide.deep (by omega) (hv.1 x hx) (hw.2.2.2.1 x hx)), fun p hp => ?_⟩⟩
  · rcases h.mem p hp with hp | rfl
    · exact (hv.2 p hp).upto (by omega)
    · exact hu
  · have e1 : vW (d + dc + 1) (v.setM l') = 40 + 6 * v.words.size + ((v.list.map fun x => vW (d + dc) x + 1).sum + (l'.map fun p => vW (d + dc) p.2 + (6 * p.1.size + 4)).sum) := rfl
    have e2 : vW (d + 1) v = 40 + 6 * v.words.size + ((v.list.map fun x => vW d x + 1).sum + (v.mem.map fun p => vW d p.2 + (6 * p.1.size + 4)).sum) := rfl
    have e3 := h.sum (fun p => vW (d + dc) p.2 + (6 * p.1.size + 4))
    have e4 := map_congr_sum (l := v.mem) (f := fun p => vW (d + dc) p.2 + (6 * p.1.size + 4)) (g := fun p => vW d p.2 + (6 * p.1.size + 4)) (fun p hp => by rw [vW_deep (by omega) (hv.2 p hp)])
    have e5 := map_congr_sum (l := v.list) (f := fun x => vW (d + dc) x + 1) (g := fun x => vW d x + 1) (fun x hx => by rw [vW_deep (by omega) (hv.1 x hx)])
    cases o with
    | none => simp only [oF] at e3 ha; omega
    | some y =>
      have e6 := vW_deep (show d ≤ d + dc by omega) (hv.2 y (h.old y rfl))
      simp only [oF] at e3 ha
      omega
  · have := hw.1; show v.list.length ≤ m + 1; omega
  · show l'.length ≤ m + 1
    have := h.len; have := hw.2.1; omega
  · rcases h.mem p hp with hp | rfl
    · exact ⟨(hw.2.2.2.2 p hp).1, Wide.mono (by omega) _ _ (Wide.deep (by omega) (hv.2 p hp) (hw.2.2.2.2 p hp).2)⟩
    · exact ⟨by show s.size ≤ 100000; omega, huw⟩
theorem Upd.cut {α : Type} (l : List α) (i : Nat) (x : α) : Upd l (l.take i ++ l.drop (i + 1)) x 0 none :=
  ⟨fun y hy => .inl (by
    rcases List.mem_append.1 hy with h | h
    · exact List.mem_of_mem_take h
    · exact List.mem_of_mem_drop h), by simp; omega, fun f => by
    have h1 : (l.map f).sum = ((l.take i).map f).sum + ((l.drop i).map f).sum := by rw [← List.sum_append, ← List.map_append, List.take_append_drop]
    have h2 : ((l.drop (i + 1)).map f).sum ≤ ((l.drop i).map f).sum := by
      rw [← List.drop_drop (i := 1)]
      cases l.drop i with
      | nil => simp
      | cons a r => simp
    simp only [oF, List.map_append, List.sum_append]
    omega, fun y e => by cases e⟩
theorem Upd.ins {α : Type} (l : List α) (i : Nat) (x : α) : Upd l (l.take i ++ x :: l.drop i) x 1 none :=
  ⟨fun y hy => by
    rcases List.mem_append.1 hy with h | h
    · exact .inl (List.mem_of_mem_take h)
    · rcases List.mem_cons.1 h with h | h
      · exact .inr h
      · exact .inl (List.mem_of_mem_drop h), by simp; omega, fun f => by
    have h1 : (l.map f).sum = ((l.take i).map f).sum + ((l.drop i).map f).sum := by rw [← List.sum_append, ← List.map_append, List.take_append_drop]
    simp only [oF, List.map_append, List.sum_append, List.map_cons, List.sum_cons]
    omega, fun y e => by cases e⟩
theorem Upd.set {α : Type} (l : List α) (i : Nat) (x : α) (h : i < l.length) : Upd l (l.set i x) x 0 (some l[i]) :=
  ⟨fun y hy => by
    rw [List.set_eq_take_append_cons_drop, if_pos h] at hy
    rcases List.mem_append.1 hy with h | h
    · exact .inl (List.mem_of_mem_take h)
    · rcases List.mem_cons.1 h with h | h
      · exact .inr h
      · exact .inl (List.mem_of_mem_drop h), by simp, fun f => by
    have h1 : (l.map f).sum = ((l.take i).map f).sum + ((l.drop i).map f).sum := by rw [← List.sum_append, ← List.map_append, List.take_append_drop]
    rw [List.drop_eq_getElem_cons h] at h1
    rw [List.set_eq_take_append_cons_drop, if_pos h]
    simp only [oF, List.map_append, List.sum_append, List.map_cons, List.sum_cons] at h1 ⊢
    omega, fun y e => by injection e with e; subst e; exact List.getElem_mem h⟩
theorem Upd.weak {α : Type} {l l' : List α} {x : α} {n n' : Nat} {o : Option α} (h : Upd l l' x n o) (hn : n ≤ n') : Upd l l' x n' none :=
  ⟨h.mem, by have := h.len; omega, fun f => by have := h.sum f; simp only [oF]; omega, fun y e => by cases e⟩
theorem filter_sum (l : List Mem) (s : ByteArray) (f : Mem → Nat) : ((l.filter fun p => !decide (p.1 = s)).map f).sum + oF f (l.find? fun p => decide (p.1 = s)) ≤ (l.map f).sum := by
  induction l with
  | nil => simp [oF]
  | cons p l ih =>
    by_cases e : p.1 = s
    · rw [List.filter_cons_of_neg (by simp [e]), List.find?_cons_of_pos (by simp [e])]
      simp only [oF, List.map_cons, List.sum_cons]
      omega
    · rw [List.filter_cons_of_pos (by simp [e]), List.find?_cons_of_neg (by simp [e])]
      simp only [List.map_cons, List.sum_cons]
      omega
theorem Upd.put (l : List Mem) (x : Mem) : Upd l (putM l x) x 1 (l.find? fun p => decide (p.1 = x.1)) := by
  have h := Upd.ins (l.filter fun p => !decide (p.1 = x.1)) (place (l.filter fun p => !decide (p.1 = x.1)) x.1) x
  refine ⟨fun y hy => (h.mem y hy).imp (fun q => (List.mem_filter.1 q).1) id, ?_, fun f => ?_, fun y e => List.mem_of_find?_eq_some e⟩
  · have := h.len
    have := List.length_filter_le (fun p : Mem => !decide (p.1 = x.1)) l
    show (insM _ x).length ≤ _
    unfold insM
    omega
  · have h1 := h.sum f
    have h2 := filter_sum l x.1 f
    simp only [oF] at h1
    show ((insM _ x).map f).sum + _ ≤ _
    unfold insM
    omega

end Go.Proofs.YtjfgfkbgbhbhjaaGreatDoor

namespace Go.Proofs.YtjfgfkbgbhbhjaaGreatDoor
open Go.RowKit
set_option linter.unusedVariables false
set_option linter.unusedSimpArgs false

theorem Upd.refl {α : Type} (l : List α) (x : α) : Upd l l x 0 none := ⟨fun y hy => .inl hy, Nat.le_refl _, fun f => by simp only [oF]; omega, fun y e => by cases e⟩
theorem Upd.filter (l : List Mem) (s : ByteArray) (x : Mem) : Upd l (l.filter fun p => !decide (p.1 = s)) x 0 none :=
  ⟨fun y hy => .inl (List.mem_filter.1 hy).1, List.length_filter_le _ _, fun f => by have := filter_sum l s f; simp only [oF]; omega, fun y e => by cases e⟩
theorem Adds.le {d dc m A A' : Nat} {v r : VT} (h : Adds d dc m A v r) (hA : A ≤ A') : Adds d dc m A' v r := ⟨h.1, by have := h.2.1; omega, h.2.2⟩
section
variable {d dc m : Nat} {v u : VT} {s : St}
theorem chS_adds (hv : Deep (d + 1) v) (hw : Wide m (d + 1) v) (hu : Deep (d + dc) u) (huw : Wide (m + 1) (d + dc) u) (hs : s.name.size ≤ 100) (k : Int) : Adds (d + 1) dc m (vW (d + dc) u + 604) v (chS v k s u).1 := by
  have hL : ∀ l' n, n ≤ 1 → Upd v.list l' u n none → Adds (d + 1) dc m (vW (d + dc) u + 604) v (v.setL l') := fun l' n hn h => (upd_L hv hw hu huw h hn (B := vW (d + dc) u) (by simp [oF])).le (by omega)
  have hM : ∀ l' n, n ≤ 1 → Upd v.mem l' (s.name, u) n none → Adds (d + 1) dc m (vW (d + dc) u + 604) v (v.setM l') := fun l' n hn h => upd_M hv hw hu huw hs h hn (B := vW (d + dc) u) (by simp [oF])
  have h0 : Adds (d + 1) dc m (vW (d + dc) u + 604) v v := Adds.same hv hw
  cases hn : s.named with
  | true =>
    rw [chS5 hn]
    unfold chM
    split
    · exact h0
    · split
      · split
        · exact hM _ 0 (by omega) (Upd.cut _ _ _)
        · exact h0
      · split
        · rename_i hh
          obtain ⟨hq, -⟩ := hasAt_lt hh
          exact hM _ 0 (by omega) ((Upd.set _ _ _ hq).weak (Nat.le_refl _))
        · exact hM _ 1 (by omega) (Upd.ins _ _ _)
  | false =>
    rw [chS4 hn]
    unfold chL
    split
    · exact h0
    · split
      · exact h0
      · split
        · exact hL _ 0 (by omega) (Upd.cut _ _ _)
        · split
          · rename_i hh
            exact hL _ 0 (by omega) ((Upd.set _ _ _ hh.2).weak (Nat.le_refl _))
          · exact hL _ 1 (by omega) (Upd.ins _ _ _)
theorem at_deep {x : VT} (h : atV v s = some x) (hv : Deep (d + 1) v) (hw : Wide m (d + 1) v) : Deep d x ∧ Wide m d x ∧ vW d x ≤ vW (d + 1) v := by
  obtain ⟨h1, h2⟩ := at_some h
  cases hn : s.named with
  | true =>
    obtain ⟨-, hq, he⟩ := h1 hn
    have a1 := hv.2 _ (List.getElem_mem hq)
    have a2 := (hw.2.2.2.2 _ (List.getElem_mem hq)).2
    have a3 := vW_member d v hq
    rw [he] at a1 a2 a3
    simp only at a3
    exact ⟨a1, a2, by omega⟩
  | false =>
    obtain ⟨-, hq, he⟩ := h2 hn
    have a1 := hv.1 _ (List.getElem_mem hq)
    have a2 := hw.2.2.2.1 _ (List.getElem_mem hq)
    have a3 := vW_item d v hq
    rw [he] at a1 a2 a3
    exact ⟨a1, a2, a3⟩
theorem getR_deep {x : VT} (h : getR v s = some x) (hv : Deep (d + 1) v) (hw : Wide m (d + 1) v) : Deep d x ∧ Wide m d x ∧ vW d x ≤ vW (d + 1) v := by
  unfold getR at h
  split at h
  · cases hf : v.mem.find? (fun p => decide (p.1 = s.name)) with
    | none => rw [hf] at h; cases h
    | some p =>
      rw [hf] at h
      simp only [Option.map_some, Option.some.injEq] at h
      subst h
      have hm := List.mem_of_find?_eq_some hf
      obtain ⟨i, hi, rfl⟩ := List.getElem_of_mem hm
      exact ⟨hv.2 _ hm, (hw.2.2.2.2 _ hm).2, by have := vW_member d v hi; omega⟩
  · have hm := List.mem_of_getElem? h
    obtain ⟨i, hi, rfl⟩ := List.getElem_of_mem hm
    exact ⟨hv.1 _ hm, hw.2.2.2.1 _ hm, vW_item d v hi⟩
end
theorem chS_adds1 {d dc m A : Nat} {v x y : VT} {s : St} (hv : Deep (d + 1) v) (hw : Wide m (d + 1) v) (hx : atV v s = some x) (hy : Adds d dc m A x y) (hs : s.name.size ≤ 100) : Adds (d + 1) dc m (A + 604) v (chS v 1 s y).1 := by
  obtain ⟨h1, h2⟩ := at_some hx
  cases hn : s.named with
  | true =>
    obtain ⟨hk, hq, he⟩ := h1 hn
    have hh : hasAt v.mem s.name = true := by unfold hasAt; rw [List.getElem?_eq_getElem hq, he]; simp
    rw [chS5 hn, chM5 hk, if_neg (by decide), if_pos hh]
    exact upd_M hv hw hy.1 hy.2.2 hs (Upd.set _ _ _ hq) (by omega) (by rw [he]; exact hy.2.1)
  | false =>
    obtain ⟨hk, hq, he⟩ := h2 hn
    rw [chS4 hn, chL4 hk, if_neg (by omega), if_neg (by decide), if_pos ⟨rfl, hq⟩]
    exact (upd_L hv hw hy.1 hy.2.2 (Upd.set _ _ _ hq) (by omega) (by rw [he]; exact hy.2.1)).le (by omega)
theorem chg_adds {dc m : Nat} {u : VT} (hu : Deep dc u) (huw : Wide (m + 1) dc u) (k : Int) : ∀ (p : List St) (d : Nat) (v : VT), (∀ s ∈ p, s.name.size ≤ 100) → Deep d v → Wide m d v → Adds d dc m (vW dc u + 604 * p.length) v (chg k u p v).1
  | _, 0, _, _, h, _ => h.elim
  | [], d + 1, v, _, hv, hw => ⟨hu.upto (by omega), by show vW (d + 1 + dc) u ≤ _; rw [vW_deep (by omega) hu]; omega, Wide.deep (by omega) hu huw⟩
  | [s], d + 1, v, hs, hv, hw => by
    have h := chS_adds hv hw (u := u) (dc := dc) (hu.upto (by omega)) (Wide.deep (by omega) hu huw) (hs s (by simp)) k
    rw [vW_deep (by omega) hu] at h
    exact h.le (by simp)
  | s :: t :: p, d + 1, v, hs, hv, hw => by
    have e2 : chg k u (s :: t :: p) v = match atV v s with | none => (v, 8) | some x => if (chg k u (t :: p) x).2 ≠ 0 then (v, (chg k u (t :: p) x).2) else chS v 1 s (chg k u (t :: p) x).1 := rfl
    rw [e2]
    cases hx : atV v s with
    | none => exact Adds.same hv hw
    | some x =>
      obtain ⟨a1, a2, a3⟩ := at_deep hx hv hw
      have ih := chg_adds hu huw k (t :: p) d x (fun s hs2 => hs s (List.mem_cons_of_mem _ hs2)) a1 a2
      simp only
      split
      · exact Adds.same hv hw
      · exact (chS_adds1 hv hw hx ih (hs s (by simp))).le (by simp; omega)
/-! many changes: the place of the change that cannot be made, the error, the value; D is a change's depth -/
def progC (c : ChD) (v : VT) : VT × Int := chg c.kind c.val c.path v
/-- a change that is right -/
def OkC (D : Nat) (c : ChD) : Prop := 1 ≤ c.kind ∧ c.kind ≤ 3 ∧ (c.kind = 2 → lastNamed c.path = false) ∧ (∀ s ∈ c.path, s.name.size ≤ 100) ∧ c.path.length ≤ 50 ∧ Deep D c.val
theorem vCheck_fault {d : Nat} {v : VT} (h : vCheck d v = 0) : vFault d v = 0 := by
  unfold vCheck at h
  split at h
  · omega
  · exact h
end Go.Proofs.YtjfgfkbgbhbhjaaGreatDoor
