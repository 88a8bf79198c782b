/- Changes of values, the plain law: steps, paths, changes, what a change makes of a value, in the program's words and in the reference's. No program in sight. No conditions. -/
import Derived.Test.YtahofcopedlenaaGreatDoorValLaw
namespace Go.Proofs.YtahofcopedlenaaGreatDoor
open Go.RowKit
set_option linter.unusedVariables false
set_option linter.unusedSimpArgs false

/-- a step as its cells say -/
structure St where
  named : Bool
  name : ByteArray
  at_ : Int
def stepF (s : St) : Int := if ((s.named && s.at_ != 0) || (!s.named && decide (s.name ≠ ⟨#[]⟩))) = true then 3 else if nameF s.name ≠ 0 then nameF s.name else if s.at_ < 0 ∨ 5000 < s.at_ then 1 else 0
def pathF (p : List St) : Int := if 50 < p.length then 2 else fz (p.map stepF)
structure ChD where
  kind : Int
  path : List St
  val : VT
def nilV : VT := .mk 0 false 0 ⟨#[]⟩ [] []
def lastNamed (p : List St) : Bool := match p.getLast? with | some s => s.named | none => false
def nilB (v : VT) : Bool := decide (v.kind = 0) && !v.flag && decide (v.num = 0) && decide (v.words = ⟨#[]⟩) && v.list.isEmpty && v.mem.isEmpty
theorem nilB_iff (v : VT) : nilB v = true ↔ v = nilV := by
  obtain ⟨a, b, c, e, f, g⟩ := v
  show (decide (a = 0) && !b && decide (c = 0) && decide (e = ⟨#[]⟩) && f.isEmpty && g.isEmpty) = true ↔ VT.mk a b c e f g = .mk 0 false 0 ⟨#[]⟩ [] []
  simp [and_assoc]
def chgF (d : Nat) (c : ChD) : Int :=
  if c.kind < 1 ∨ 3 < c.kind then 4 else if pathF c.path ≠ 0 then pathF c.path else if c.kind ≠ 1 ∧ c.path.length = 0 then 8 else
  if c.kind = 2 ∧ lastNamed c.path = true then 10 else if vCheck d c.val ≠ 0 then vCheck d c.val else
  if c.kind = 3 ∧ nilB c.val = false then 3 else 0
def chgsF (d : Nat) (l : List ChD) : Int := if 5000 < l.length then 2 else fz (l.map (chgF d))

/-! the order of strings -/
theorem cb_bounds : ∀ a b : List UInt8, Lib.compareBytes a b = -1 ∨ Lib.compareBytes a b = 0 ∨ Lib.compareBytes a b = 1
  | [], [] => by simp [Lib.compareBytes]
  | [], _ :: _ => by simp [Lib.compareBytes]
  | _ :: _, [] => by simp [Lib.compareBytes]
  | a :: xs, b :: ys => by
    unfold Lib.compareBytes
    split
    · simp
    · split
      · simp
      · exact cb_bounds xs ys
theorem cb_zero : ∀ a b : List UInt8, Lib.compareBytes a b = 0 ↔ a = b
  | [], [] => by simp [Lib.compareBytes]
  | [], _ :: _ => by simp [Lib.compareBytes]
  | _ :: _, [] => by simp [Lib.compareBytes]
  | a :: xs, b :: ys => by
    unfold Lib.compareBytes
    split
    · rename_i h
      have : a ≠ b := fun e => by subst e; exact absurd h (UInt8.lt_irrefl _)
      simp [this]
    · split
      · rename_i h1 h
        have : a ≠ b := fun e => by subst e; exact absurd h (UInt8.lt_irrefl _)
        simp [this]
      · rename_i h1 h2
        have : a = b := by
          have h3 : ¬ a.toNat < b.toNat := h1
          have h4 : ¬ b.toNat < a.toNat := h2
          exact UInt8.toNat_inj.1 (by omega)
        rw [cb_zero xs ys]
        simp [this]
theorem cb_less : ∀ a b : List UInt8, Op.bytesLess a b = decide (Lib.compareBytes a b < 0)
  | [], [] => by simp [Lib.compareBytes, Op.bytesLess]
  | [], _ :: _ => by simp [Lib.compareBytes, Op.bytesLess]
  | _ :: _, [] => by simp [Lib.compareBytes, Op.bytesLess]
  | a :: xs, b :: ys => by
    unfold Lib.compareBytes Op.bytesLess
    rw [cb_less xs ys]
    by_cases h1 : a < b
    · simp [h1]
    · by_cases h2 : b < a
      · have : ¬ a = b := fun e => by subst e; exact h1 h2
        simp [h1, h2, this]
      · have : a = b := by
          have h3 : ¬ a.toNat < b.toNat := h1
          have h4 : ¬ b.toNat < a.toNat := h2
          exact UInt8.toNat_inj.1 (by omega)
        simp [h1, h2, this]
theorem cb_swap : ∀ a b : List UInt8, Lib.compareBytes b a = - Lib.compareBytes a b
  | [], [] => by simp [Lib.compareBytes]
  | [], _ :: _ => by simp [Lib.compareBytes]
  | _ :: _, [] => by simp [Lib.compareBytes]
  | a :: xs, b :: ys => by
    unfold Lib.compareBytes
    rw [cb_swap xs ys]
    by_cases h1 : a < b
    · have : ¬ b < a := by
        have h3 : a.toNat < b.toNat := h1
        intro h; have h4 : b.toNat < a.toNat := h; omega
      simp [h1, this]
    · by_cases h2 : b < a
      · simp [h1, h2]
      · simp [h1, h2]
theorem cb_trans : ∀ a b c : List UInt8, Lib.compareBytes a b < 0 → Lib.compareBytes b c < 0 → Lib.compareBytes a c < 0
  | [], [], _ => fun h => by simp [Lib.compareBytes] at h
  | [], _ :: _, [] => fun _ h => by simp [Lib.compareBytes] at h
  | [], _ :: _, _ :: _ => fun _ _ => by simp [Lib.compareBytes]
  | _ :: _, [], _ => fun h => by simp [Lib.compareBytes] at h
  | _ :: _, _ :: _, [] => fun _ h => by simp [Lib.compareBytes] at h
  | a :: xs, b :: ys, c :: zs => by
    intro h1 h2
    unfold Lib.compareBytes at h1 h2 ⊢
    have key : ∀ x y : UInt8, (x < y) = (x.toNat < y.toNat) := fun _ _ => rfl
    simp only [key] at h1 h2 ⊢
    by_cases e1 : a.toNat < b.toNat
    · by_cases e2 : b.toNat < c.toNat
      · rw [if_pos (by omega)]; omega
      · rw [if_neg e2] at h2
        by_cases e3 : c.toNat < b.toNat
        · rw [if_pos e3] at h2; omega
        · rw [if_pos (by omega)]; omega
    · rw [if_neg e1] at h1
      by_cases e3 : b.toNat < a.toNat
      · rw [if_pos e3] at h1; omega
      · rw [if_neg e3] at h1
        by_cases e2 : b.toNat < c.toNat
        · rw [if_pos (by omega)]; omega
        · rw [if_neg e2] at h2
          by_cases e4 : c.toNat < b.toNat
          · rw [if_pos e4] at h2; omega
          · rw [if_neg e4] at h2
            rw [if_neg (by omega), if_neg (by omega)]
            exact cb_trans xs ys zs h1 h2
theorem ba_ext {a b : ByteArray} (h : a.data.toList = b.data.toList) : a = b := by
  cases a; cases b; congr; exact Array.toList_inj.1 h
theorem cmpB_zero (a b : ByteArray) : cmpB a b = 0 ↔ a = b := by
  unfold cmpB
  rw [cb_zero]
  exact ⟨ba_ext, fun e => by rw [e]⟩
theorem cmpB_swap (a b : ByteArray) : cmpB b a = - cmpB a b := cb_swap _ _
theorem cmpB_trans {a b c : ByteArray} (h1 : cmpB a b < 0) (h2 : cmpB b c < 0) : cmpB a c < 0 := cb_trans _ _ _ h1 h2
theorem cmpB_self (a : ByteArray) : cmpB a a = 0 := (cmpB_zero a a).2 rfl
theorem ba_toList (a : ByteArray) : a.toList = a.data.toList := by simp [ByteArray.toList_eq]
theorem strLe_cmp (a b : ByteArray) : strLeV a b = decide (cmpB a b ≤ 0) := by
  unfold strLeV
  rw [cb_less, ba_toList, ba_toList]
  unfold cmpB
  have h := cb_zero a.data.toList b.data.toList
  by_cases e : a.data.toList = b.data.toList
  · rw [h.2 e, e]; simp
  · have h2 : Lib.compareBytes a.data.toList b.data.toList ≠ 0 := fun q => e (h.1 q)
    rw [show (a.data.toList == b.data.toList) = false by simpa using e, Bool.or_false]
    congr 1
    exact propext (by omega)

/-! names in order -/
abbrev Mem := ByteArray × VT
def Srt : List Mem → Prop
  | [] => True
  | p :: l => (∀ q ∈ l, cmpB p.1 q.1 < 0) ∧ Srt l
/-- how many names stand ahead of a name -/
def place : List Mem → ByteArray → Nat
  | [], _ => 0
  | p :: l, s => if cmpB p.1 s < 0 then place l s + 1 else 0
theorem place_le : ∀ (l : List Mem) (s : ByteArray), place l s ≤ l.length
  | [], _ => Nat.le_refl _
  | p :: l, s => by
    unfold place
    have := place_le l s
    split <;> simp <;> omega
theorem place_eq : ∀ (l : List Mem) (s : ByteArray) (i : Nat), i ≤ l.length → (∀ j (h : j < l.length), j < i → cmpB l[j].1 s < 0) → (∀ h : i < l.length, ¬ cmpB l[i].1 s < 0) → place l s = i
  | [], s, i, h, _, _ => by simp at h; subst h; rfl
  | p :: l, s, 0, _, _, h2 => by
    have := h2 (by simp)
    simp only [List.getElem_cons_zero] at this
    unfold place
    rw [if_neg this]
  | p :: l, s, i + 1, h, h1, h2 => by
    have h0 := h1 0 (by simp) (by omega)
    simp only [List.getElem_cons_zero] at h0
    unfold place
    rw [if_pos h0, place_eq l s i (by simpa using h) (fun j hj hi => by have := h1 (j + 1) (by simp; omega) (by omega); simpa using this) (fun hi => by have := h2 (by simp; omega); simpa using this)]
def hasAt (l : List Mem) (s : ByteArray) : Bool := match l[place l s]? with | some p => decide (p.1 = s) | none => false
theorem hasAt_cons (p : Mem) (l : List Mem) (s : ByteArray) : hasAt (p :: l) s = if cmpB p.1 s < 0 then hasAt l s else decide (p.1 = s) := by
  have e : place (p :: l) s = if cmpB p.1 s < 0 then place l s + 1 else 0 := rfl
  unfold hasAt
  rw [e]
  by_cases h : cmpB p.1 s < 0
  · rw [if_pos h, if_pos h, List.getElem?_cons_succ]
  · rw [if_neg h, if_neg h, List.getElem?_cons_zero]
theorem Srt.above {p : Mem} {l : List Mem} (h : Srt (p :: l)) {s : ByteArray} (hs : ¬ cmpB p.1 s < 0) : ∀ q ∈ l, ¬ q.1 = s := fun q hq e => by
  have h1 := h.1 q hq
  rw [e] at h1
  exact hs h1
theorem find_has : ∀ (l : List Mem) (s : ByteArray), Srt l → l.find? (fun p => decide (p.1 = s)) = if hasAt l s = true then l[place l s]? else none
  | [], s, _ => by simp [hasAt, place]
  | p :: l, s, h => by
    rw [hasAt_cons, List.find?_cons]
    by_cases h1 : cmpB p.1 s < 0
    · have h2 : ¬ p.1 = s := fun e => by rw [e, cmpB_self] at h1; omega
      simp only [h1, if_true, h2, decide_false, place]
      rw [find_has l s h.2, List.getElem?_cons_succ]
    · simp only [h1, if_false, place]
      by_cases e : p.1 = s
      · simp [e]
      · simp [e]
        intro a b hq
        exact h.above h1 (a, b) hq
theorem filter_id {l : List Mem} {s : ByteArray} (h : ∀ q ∈ l, ¬ q.1 = s) : l.filter (fun p => !decide (p.1 = s)) = l := by
  rw [List.filter_eq_self]
  intro q hq
  simp [h q hq]
theorem filter_has : ∀ (l : List Mem) (s : ByteArray), Srt l → l.filter (fun p => !decide (p.1 = s)) = if hasAt l s = true then l.take (place l s) ++ l.drop (place l s + 1) else l
  | [], s, _ => by simp [hasAt, place]
  | p :: l, s, h => by
    rw [hasAt_cons]
    by_cases h1 : cmpB p.1 s < 0
    · have h2 : ¬ p.1 = s := fun e => by rw [e, cmpB_self] at h1; omega
      simp only [h1, if_true, place]
      rw [List.filter_cons_of_pos (by simp [h2]), filter_has l s h.2]
      split
      · simp
      · rfl
    · simp only [h1, if_false, place]
      by_cases e : p.1 = s
      · simp only [e, decide_true, if_true, List.take_zero, List.nil_append, Nat.zero_add, List.drop_succ_cons, List.drop_zero]
        rw [List.filter_cons_of_neg (by simp [e]), filter_id (h.above h1)]
      · simp only [e, decide_false, Bool.false_eq_true, if_false]
        rw [List.filter_cons_of_pos (by simp [e]), filter_id (h.above h1)]
/-- to put a member where it belongs -/
def insM (l : List Mem) (x : Mem) : List Mem := l.take (place l x.1) ++ x :: l.drop (place l x.1)
def putM (l : List Mem) (x : Mem) : List Mem := insM (l.filter fun p => !decide (p.1 = x.1)) x
theorem place_gone : ∀ (l : List Mem) (s : ByteArray), Srt l → hasAt l s = true → place (l.take (place l s) ++ l.drop (place l s + 1)) s = place l s
  | [], s, _ => by simp [hasAt, place]
  | p :: l, s, h => by
    rw [hasAt_cons]
    by_cases h1 : cmpB p.1 s < 0
    · simp only [h1, if_true, place]
      intro hh
      have := place_gone l s h.2 hh
      simp only [List.take_succ_cons, List.cons_append, List.drop_succ_cons, place, h1, if_true, this]
    · simp only [h1, if_false, place]
      intro e
      simp only [decide_eq_true_eq] at e
      simp only [List.take_zero, List.nil_append, Nat.zero_add, List.drop_succ_cons, List.drop_zero]
      cases l with
      | nil => rfl
      | cons q l =>
        have h2 := h.1 q (by simp)
        rw [e] at h2
        unfold place
        rw [if_neg (by rw [cmpB_swap]; omega)]
theorem put_has (l : List Mem) (x : Mem) (h : Srt l) : putM l x = if hasAt l x.1 = true then l.set (place l x.1) x else insM l x := by
  unfold putM
  rw [filter_has l x.1 h]
  by_cases e : hasAt l x.1 = true
  · rw [if_pos e, if_pos e]
    unfold insM
    rw [place_gone l x.1 h e]
    have hlt : place l x.1 < l.length := by
      unfold hasAt at e
      by_cases hq : place l x.1 < l.length
      · exact hq
      · rw [List.getElem?_eq_none (by omega)] at e; cases e
    rw [List.take_append_of_le_length (by simp; omega), List.take_take, Nat.min_self, List.drop_append]
    rw [List.drop_of_length_le (by simp; omega)]
    simp only [List.length_take, Nat.min_eq_left (Nat.le_of_lt hlt), Nat.sub_self, List.drop_zero, List.nil_append]
    rw [List.set_eq_take_append_cons_drop, if_pos hlt]
  · rw [if_neg e, if_neg e]
/-- names that are right stand in order -/
theorem srt_of_next : ∀ (l : List Mem), (∀ k (h : k + 1 < l.length), cmpB l[k].1 l[k + 1].1 < 0) → Srt l
  | [], _ => trivial
  | [p], _ => ⟨fun q hq => (by cases hq), trivial⟩
  | p :: q :: l, h => by
    have ih := srt_of_next (q :: l) (fun k hk => by have := h (k + 1) (by simpa using hk); simpa using this)
    have h0 := h 0 (by simp)
    simp only [List.getElem_cons_zero, List.getElem_cons_succ, Nat.zero_add] at h0
    refine ⟨fun r hr => ?_, ih⟩
    rcases List.mem_cons.1 hr with rfl | hr
    · exact h0
    · exact cmpB_trans h0 (ih.1 r hr)
theorem fz_zero {l : List Int} (h : fz l = 0) : ∀ x ∈ l, x = 0 := by
  induction l with
  | nil => intro x hx; cases hx
  | cons a l ih =>
    simp only [fz] at h
    split at h
    · rename_i h2; exact absurd h h2
    · rename_i h2
      intro x hx
      rcases List.mem_cons.1 hx with rfl | hx
      · omega
      · exact ih h x hx
theorem srt_of_names {l : List Mem} (h : namesF (l.map (·.1)) = 0) : Srt l := by
  refine srt_of_next l (fun k hk => ?_)
  have h1 := fz_zero h (nameAt (l.map (·.1)) (k + 1)) (List.mem_map.2 ⟨k + 1, by simpa using hk, rfl⟩)
  have h2 := nameAt_eq (l := l.map (·.1)) (k := k + 1) (s := l[k + 1].1) (by simp [hk]) l[k].1 (fun _ => by simp [show k < l.length by omega])
  rw [h1] at h2
  split at h2
  · rename_i h3; exact absurd h2.symm h3
  · split at h2
    · omega
    · rename_i h3
      have h4 : ¬ strLeV l[k + 1].1 l[k].1 = true := fun e => h3 ⟨by omega, e⟩
      rw [strLe_cmp] at h4
      simp at h4
      rw [cmpB_swap]
      omega

/-! one change -/
def VT.setL (v : VT) (l : List VT) : VT := .mk v.kind v.flag v.num v.words l v.mem
def VT.setM (v : VT) (l : List Mem) : VT := .mk v.kind v.flag v.num v.words v.list l
def chM (v : VT) (k : Int) (s : ByteArray) (u : VT) : VT × Int :=
  if v.kind ≠ 5 then (v, 10) else
  if k = 3 then (if hasAt v.mem s = true then (v.setM (v.mem.take (place v.mem s) ++ v.mem.drop (place v.mem s + 1)), 0) else (v, 8)) else
  if hasAt v.mem s = true then (v.setM (v.mem.set (place v.mem s) (s, u)), 0) else (v.setM (insM v.mem (s, u)), 0)
def chL (v : VT) (k : Int) (i : Nat) (u : VT) : VT × Int :=
  if v.kind ≠ 4 then (v, 10) else if v.list.length < i ∨ (k = 3 ∧ i = v.list.length) then (v, 8) else
  if k = 3 then (v.setL (v.list.take i ++ v.list.drop (i + 1)), 0) else
  if k = 1 ∧ i < v.list.length then (v.setL (v.list.set i u), 0) else (v.setL (v.list.take i ++ u :: v.list.drop i), 0)
def atV (v : VT) (s : St) : Option VT :=
  if s.named = true then (if v.kind = 5 ∧ hasAt v.mem s.name = true then (v.mem[place v.mem s.name]?).map (·.2) else none)
  else if v.kind = 4 then v.list[s.at_.toNat]? else none
def chS (v : VT) (k : Int) (s : St) (u : VT) : VT × Int := if s.named = true then chM v k s.name u else chL v k s.at_.toNat u
def chg (k : Int) (u : VT) : List St → VT → VT × Int
  | [], _ => (u, 0)
  | [s], v => chS v k s u
  | s :: t :: p, v => match atV v s with
    | none => (v, 8)
    | some x => if (chg k u (t :: p) x).2 ≠ 0 then (v, (chg k u (t :: p) x).2) else chS v 1 s (chg k u (t :: p) x).1
def getR (v : VT) (s : St) : Option VT := if s.named = true then (v.mem.find? fun p => decide (p.1 = s.name)).map (·.2) else v.list[s.at_.toNat]?
def withR (v : VT) (s : St) (u : VT) : VT :=
  if s.named = true then v.setM (putM v.mem (s.name, u)) else
  if s.at_.toNat = v.list.length then v.setL (v.list ++ [u]) else v.setL (v.list.set s.at_.toNat u)
def lastR (k : Int) (u : VT) (s : St) (v : VT) : VT × Int :=
  if (s.named = true ∧ v.kind ≠ 5) ∨ (s.named = false ∧ v.kind ≠ 4) then (v, 10) else
  if (k = 3 ∧ getR v s = none) ∨ (s.named = false ∧ v.list.length < s.at_.toNat) then (v, 8) else
  if k = 3 ∧ s.named = true then (v.setM (v.mem.filter fun p => !decide (p.1 = s.name)), 0) else
  if k = 3 then (v.setL (v.list.take s.at_.toNat ++ v.list.drop (s.at_.toNat + 1)), 0) else
  if k = 2 then (v.setL (v.list.take s.at_.toNat ++ u :: v.list.drop s.at_.toNat), 0) else (withR v s u, 0)
def rchg (k : Int) (u : VT) : List St → VT → VT × Int
  | [], _ => (u, 0)
  | [s], v => lastR k u s v
  | s :: t :: p, v => match getR v s with
    | none => (v, 8)
    | some x => (withR v s (rchg k u (t :: p) x).1, (rchg k u (t :: p) x).2)

end Go.Proofs.YtahofcopedlenaaGreatDoor
