/- Values as trees, the plain law: how many, how deep, what is wrong, how two compare, how one is written. No program in sight. No conditions. -/
import Derived.Test.YtjfgfkbgbhbhjaaGreatDoorBase
import Derived.Shelf.Small.Strs
import Derived.Lib.ValidU
import Derived.Lib.ItoaLen
import Derived.Lib.Small
namespace Go.Proofs.YtjfgfkbgbhbhjaaGreatDoor
open Go.RowKit
set_option linter.unusedVariables false
set_option linter.unusedSimpArgs false

inductive VT where
  | mk (kind : Int) (flag : Bool) (num : Int) (words : ByteArray) (list : List VT) (mem : List (ByteArray × VT))
namespace VT
def kind : VT → Int | mk a _ _ _ _ _ => a
def flag : VT → Bool | mk _ a _ _ _ _ => a
def num : VT → Int | mk _ _ a _ _ _ => a
def words : VT → ByteArray | mk _ _ _ a _ _ => a
def list : VT → List VT | mk _ _ _ _ a _ => a
def mem : VT → List (ByteArray × VT) | mk _ _ _ _ _ a => a
def kids (v : VT) : List VT := v.list ++ v.mem.map (·.2)
end VT

/-- the first that is not nought -/
def fz : List Int → Int
  | [] => 0
  | x :: xs => if x ≠ 0 then x else fz xs
def orF (a b : Int) : Int := if a ≠ 0 then a else b
theorem fz_append (a b : List Int) : fz (a ++ b) = orF (fz a) (fz b) := by
  induction a with
  | nil => simp [fz, orF]
  | cons x xs ih =>
    simp only [List.cons_append, fz]
    split
    · rename_i h; simp [orF, h]
    · exact ih
theorem fz_take {l : List Int} {k : Nat} (h : k < l.length) : fz (l.take (k + 1)) = orF (fz (l.take k)) l[k] := by
  rw [List.take_succ_eq_append_getElem h, fz_append]
  have : fz [l[k]] = l[k] := by
    simp only [fz]
    split
    · rfl
    · rename_i hq; exact (Decidable.not_not.1 hq).symm
  rw [this]
theorem fz_map_take {α : Type} (f : α → Int) {l : List α} {k : Nat} (h : k < l.length) : fz ((l.take (k + 1)).map f) = orF (fz ((l.take k).map f)) (f l[k]) := by
  rw [List.map_take, fz_take (by simpa using h), List.map_take]
  simp
theorem fz_stop {l : List Int} {k : Nat} (h : k < l.length) (h0 : fz (l.take k) = 0) (hk : l[k] ≠ 0) : fz l = l[k] := by
  have h1 : fz l = fz (l.take (k + 1) ++ l.drop (k + 1)) := by rw [List.take_append_drop]
  rw [h1, fz_append, fz_take h, h0]
  simp [orF, hk]
theorem fz_map_stop {α : Type} (f : α → Int) {l : List α} {k : Nat} (h : k < l.length) (h0 : fz ((l.take k).map f) = 0) (hk : f l[k] ≠ 0) : fz (l.map f) = f l[k] := by
  have := fz_stop (l := l.map f) (k := k) (by simpa using h) (by rw [← List.map_take]; exact h0) (by simpa using hk)
  simpa using this

def vMany : Nat → VT → Nat
  | 0, _ => 0
  | d + 1, v => 1 + ((v.list.map (vMany d)).sum + (v.mem.map fun p => vMany d p.2).sum)
def maxL : List Nat → Nat
  | [] => 0
  | x :: xs => max x (maxL xs)
theorem maxL_append (a b : List Nat) : maxL (a ++ b) = max (maxL a) (maxL b) := by
  induction a with
  | nil => simp [maxL]
  | cons x xs ih => simp only [List.cons_append, maxL, ih]; omega
def vDeep : Nat → VT → Nat
  | 0, _ => 0
  | d + 1, v => 1 + max (maxL (v.list.map (vDeep d))) (maxL (v.mem.map fun p => vDeep d p.2))
theorem sum_map_take {α : Type} (f : α → Nat) {l : List α} {k : Nat} (h : k < l.length) : ((l.take (k + 1)).map f).sum = ((l.take k).map f).sum + f l[k] := by
  rw [List.take_succ_eq_append_getElem h]
  simp only [List.map_append, List.sum_append, List.map_cons, List.map_nil, List.sum_cons, List.sum_nil, Nat.add_zero]
theorem max_map_take {α : Type} (f : α → Nat) {l : List α} {k : Nat} (h : k < l.length) : maxL ((l.take (k + 1)).map f) = max (maxL ((l.take k).map f)) (f l[k]) := by
  rw [List.take_succ_eq_append_getElem h, List.map_append, maxL_append]
  simp only [List.map_cons, List.map_nil, maxL, Nat.max_zero]
theorem sum_map_le {α : Type} (f : α → Nat) (l : List α) (k : Nat) : ((l.take k).map f).sum ≤ (l.map f).sum := by
  have h1 : (l.map f).sum = ((l.take k).map f).sum + ((l.drop k).map f).sum := by
    rw [← List.sum_append, ← List.map_append, List.take_append_drop]
  omega
theorem sum_map_one {α : Type} (f : α → Nat) {l : List α} {k : Nat} (h : k < l.length) : ((l.take k).map f).sum + f l[k] ≤ (l.map f).sum := by
  rw [← sum_map_take f h]; exact sum_map_le f l _
theorem sum_map_get {α : Type} (f : α → Nat) {l : List α} {k : Nat} (h : k < l.length) : f l[k] ≤ (l.map f).sum := by
  have := sum_map_one f h; omega
theorem max_map_get {α : Type} (f : α → Nat) {l : List α} {k : Nat} (h : k < l.length) : f l[k] ≤ maxL (l.map f) := by
  have h1 : l = l.take (k + 1) ++ l.drop (k + 1) := (List.take_append_drop _ _).symm
  have h2 : maxL (l.map f) = max (maxL ((l.take (k + 1)).map f)) (maxL ((l.drop (k + 1)).map f)) := by
    rw [← maxL_append, ← List.map_append, ← h1]
  rw [h2, max_map_take f h]
  omega
theorem max_map_all {α : Type} (f : α → Nat) {l : List α} {m : Nat} (h : ∀ x ∈ l, f x ≤ m) : maxL (l.map f) ≤ m := by
  induction l with
  | nil => simp [maxL]
  | cons x xs ih =>
    have h1 := h x (by simp)
    have h2 := ih (fun y hy => h y (by simp [hy]))
    simp only [List.map_cons, maxL]
    omega

/-- what a text's length does not pass -/
def vW : Nat → VT → Nat
  | 0, _ => 0
  | d + 1, v => 40 + 6 * v.words.size + ((v.list.map fun x => vW d x + 1).sum + (v.mem.map fun p => vW d p.2 + (6 * p.1.size + 4)).sum)
theorem vMany_le (d : Nat) : ∀ v, vMany d v ≤ vW d v := by
  induction d with
  | zero => intro v; simp [vMany]
  | succ d ih =>
    intro v
    have h1 : (v.list.map (vMany d)).sum ≤ (v.list.map fun x => vW d x + 1).sum := by
      induction v.list with
      | nil => simp
      | cons x xs ih2 => simp only [List.map_cons, List.sum_cons]; have := ih x; omega
    have h2 : (v.mem.map fun p => vMany d p.2).sum ≤ (v.mem.map fun p => vW d p.2 + (6 * p.1.size + 4)).sum := by
      induction v.mem with
      | nil => simp
      | cons p xs ih2 => simp only [List.map_cons, List.sum_cons]; have := ih p.2; omega
    simp only [vMany, vW]
    omega
theorem vDeep_le (d : Nat) : ∀ v, vDeep d v ≤ d := by
  induction d with
  | zero => intro v; simp [vDeep]
  | succ d ih =>
    intro v
    have h1 := max_map_all (vDeep d) (l := v.list) (m := d) (fun x _ => ih x)
    have h2 := max_map_all (fun p : ByteArray × VT => vDeep d p.2) (l := v.mem) (m := d) (fun x _ => ih x.2)
    simp only [vDeep]
    omega

theorem vW_item (d : Nat) (v : VT) {k : Nat} (h : k < v.list.length) : vW d v.list[k] ≤ vW (d + 1) v := by
  have := sum_map_get (fun x => vW d x + 1) h
  simp only [vW] at this ⊢
  omega
theorem vW_member (d : Nat) (v : VT) {k : Nat} (h : k < v.mem.length) : vW d v.mem[k].2 + 6 * v.mem[k].1.size ≤ vW (d + 1) v := by
  have := sum_map_get (fun p : ByteArray × VT => vW d p.2 + (6 * p.1.size + 4)) h
  simp only [vW] at this ⊢
  omega
/-- rows no longer than m, words of modest size -/
def Wide (m : Nat) : Nat → VT → Prop
  | 0, _ => True
  | d + 1, v => v.list.length ≤ m ∧ v.mem.length ≤ m ∧ v.words.size ≤ 100000 ∧ (∀ x ∈ v.list, Wide m d x) ∧ (∀ p ∈ v.mem, p.1.size ≤ 100000 ∧ Wide m d p.2)
theorem Wide.mono {m m' : Nat} (h : m ≤ m') : ∀ (d : Nat) (v : VT), Wide m d v → Wide m' d v
  | 0, _, _ => trivial
  | d + 1, v, ⟨h1, h2, h3, h4, h5⟩ => ⟨by omega, by omega, h3, fun x hx => Wide.mono h d x (h4 x hx), fun p hp => ⟨(h5 p hp).1, Wide.mono h d p.2 (h5 p hp).2⟩⟩
/-- a value that the walks can carry -/
def Fit (d : Nat) (v : VT) : Prop := vW d v ≤ 1000000000 ∧ Wide 1000 d v
theorem Fit.parts {d : Nat} {v : VT} (h : Fit (d + 1) v) : v.list.length ≤ 1000 ∧ v.mem.length ≤ 1000 ∧ v.words.size ≤ 100000 := ⟨h.2.1, h.2.2.1, h.2.2.2.1⟩
theorem Fit.item {d : Nat} {v : VT} (h : Fit (d + 1) v) {k : Nat} (hk : k < v.list.length) : Fit d v.list[k] :=
  ⟨Nat.le_trans (vW_item d v hk) h.1, h.2.2.2.2.1 _ (List.getElem_mem hk)⟩
theorem Fit.member {d : Nat} {v : VT} (h : Fit (d + 1) v) {k : Nat} (hk : k < v.mem.length) : Fit d v.mem[k].2 ∧ v.mem[k].1.size ≤ 100000 :=
  ⟨⟨Nat.le_trans (Nat.le_trans (Nat.le_add_right _ _) (vW_member d v hk)) h.1, (h.2.2.2.2.2 _ (List.getElem_mem hk)).2⟩, (h.2.2.2.2.2 _ (List.getElem_mem hk)).1⟩
theorem Fit.kid {d : Nat} {v : VT} (h : Fit (d + 1) v) {k : Nat} (hk : k < v.kids.length) : Fit d v.kids[k] := by
  have hkk : v.kids = v.list ++ v.mem.map (·.2) := rfl
  simp only [hkk] at hk ⊢
  by_cases hc : k < v.list.length
  · rw [List.getElem_append_left hc]
    exact h.item hc
  · rw [List.getElem_append_right (by omega)]
    simp only [List.length_append, List.length_map] at hk
    simp only [List.getElem_map]
    exact (h.member (by omega)).1
/-- the error of a value's number and size -/
def vBig (d : Nat) (v : VT) : Prop := 5000 < vMany d v ∨ 50 < vDeep d v
instance (d : Nat) (v : VT) : Decidable (vBig d v) := by unfold vBig; infer_instance

def validW (s : ByteArray) : Bool := Lib.validD s.data.toList
def nameF (s : ByteArray) : Int := if 100 < s.size then 2 else if validW s = false then 3 else 0
def cmpB (a b : ByteArray) : Int := Lib.compareBytes a.data.toList b.data.toList
/-- the model's word for 'a <= b' on strings -/
def strLeV (a b : ByteArray) : Bool := Op.bytesLess a.toList b.toList || a.toList == b.toList
/-- the error of the name number k -/
def nameAt (l : List ByteArray) (k : Nat) : Int :=
  match l[k]? with
  | none => 0
  | some s => if nameF s ≠ 0 then nameF s else if 0 < k ∧ strLeV s (l.getD (k - 1) ByteArray.empty) = true then 7 else 0
def idleV (v : VT) : Bool := (decide (v.kind = 1) || !v.flag) && (decide (v.kind = 2) || decide (v.num = 0)) && (decide (v.kind = 3) || decide (v.words = ⟨#[]⟩)) && (decide (v.kind = 4) || decide (v.list.length = 0)) && (decide (v.kind = 5) || decide (v.mem.length = 0))
def namesF (l : List ByteArray) : Int := fz ((List.range l.length).map (nameAt l))
theorem names_next {l : List ByteArray} {k : Nat} (h : fz ((List.range k).map (nameAt l)) = 0) : fz ((List.range (k + 1)).map (nameAt l)) = nameAt l k := by
  rw [List.range_succ, List.map_append, fz_append, h]
  simp [orF, fz]
  intro e; rw [e]
theorem names_stop {l : List ByteArray} {k : Nat} (hk : k < l.length) (h : fz ((List.range k).map (nameAt l)) = 0) (hn : nameAt l k ≠ 0) : namesF l = nameAt l k := by
  unfold namesF
  have e := fz_map_stop (nameAt l) (l := List.range l.length) (k := k) (by simpa using hk) (by rw [List.take_range, Nat.min_eq_left (by omega)]; exact h) (by simpa using hn)
  simpa using e
theorem nameAt_eq {l : List ByteArray} {k : Nat} {s : ByteArray} (h : l[k]? = some s) (p : ByteArray) (hp : 0 < k → l.getD (k - 1) ByteArray.empty = p) : nameAt l k = if nameF s ≠ 0 then nameF s else if 0 < k ∧ strLeV s p = true then 7 else 0 := by
  unfold nameAt
  rw [h]
  simp only
  by_cases h0 : 0 < k
  · rw [hp h0]
  · simp [h0]
def headF (v : VT) : Int :=
  if v.kind < 0 ∨ 5 < v.kind then 4 else if idleV v = false then 3 else if v.num < -1000000000000000 ∨ 1000000000000000 < v.num then 1 else
  if 5000 < v.words.size then 2 else if validW v.words = false then 3 else 0
def ownF (v : VT) : Int := orF (headF v) (namesF (v.mem.map (·.1)))
def vFault : Nat → VT → Int
  | 0, _ => 0
  | d + 1, v => orF (ownF v) (orF (fz (v.list.map (vFault d))) (fz (v.mem.map fun p => vFault d p.2)))
def vCheck (d : Nat) (v : VT) : Int := if vBig d v then 2 else vFault d v

def cmpL {α : Type} (f : α → α → Int) : List α → List α → Int
  | [], [] => 0
  | [], _ :: _ => -1
  | _ :: _, [] => 1
  | x :: xs, y :: ys => if f x y ≠ 0 then f x y else cmpL f xs ys
def flagN (b : Bool) : Int := if b then 1 else 0
def vCmp : Nat → VT → VT → Int
  | 0, _, _ => 0
  | d + 1, a, b => fz [Lib.compareInt a.kind b.kind, Lib.compareInt (flagN a.flag) (flagN b.flag), Lib.compareInt a.num b.num, cmpB a.words b.words, cmpL (vCmp d) a.list b.list, cmpL (fun p q => fz [cmpB p.1 q.1, vCmp d p.2 q.2]) a.mem b.mem]
/-- the two lists are alike up to k -/
theorem cmpL_drop {α : Type} (f : α → α → Int) {xs ys : List α} {k : Nat} (h1 : k < xs.length) (h2 : k < ys.length) :
    cmpL f (xs.drop k) (ys.drop k) = if f xs[k] ys[k] ≠ 0 then f xs[k] ys[k] else cmpL f (xs.drop (k + 1)) (ys.drop (k + 1)) := by
  rw [List.drop_eq_getElem_cons h1, List.drop_eq_getElem_cons h2, cmpL]
theorem cmpL_left {α : Type} (f : α → α → Int) {xs ys : List α} {k : Nat} (h1 : k < xs.length) (h2 : ys.length ≤ k) : cmpL f (xs.drop k) (ys.drop k) = 1 := by
  rw [List.drop_eq_getElem_cons h1, List.drop_of_length_le h2, cmpL]
theorem cmpL_right {α : Type} (f : α → α → Int) {xs ys : List α} {k : Nat} (h1 : xs.length ≤ k) (h2 : k < ys.length) : cmpL f (xs.drop k) (ys.drop k) = -1 := by
  rw [List.drop_of_length_le h1, List.drop_eq_getElem_cons h2, cmpL]
theorem cmpL_end {α : Type} (f : α → α → Int) {xs ys : List α} {k : Nat} (h1 : xs.length ≤ k) (h2 : ys.length ≤ k) : cmpL f (xs.drop k) (ys.drop k) = 0 := by
  rw [List.drop_of_length_le h1, List.drop_of_length_le h2, cmpL]

/-- a digit to the base of sixteen -/
def hexD (n : Nat) : UInt8 := (#[48, 49, 50, 51, 52, 53, 54, 55, 56, 57, 97, 98, 99, 100, 101, 102] : Array UInt8).getD n 0
def qc (c : UInt8) : List UInt8 :=
  if c = 34 ∨ c = 92 then [92, c] else if c = 10 then [92, 110] else if c = 13 then [92, 114] else if c = 9 then [92, 116] else
  if c.toNat < 32 ∨ c = 127 then [92, 117, 48, 48, hexD (c.toNat / 16), hexD (c.toNat % 16)] else [c]
def quoteL (s : List UInt8) : List UInt8 := 34 :: (s.flatMap qc ++ [34])
theorem qc_length (c : UInt8) : (qc c).length ≤ 6 := by
  unfold qc
  repeat' split
  all_goals simp
theorem quoteL_length (s : List UInt8) : (quoteL s).length ≤ 6 * s.length + 2 := by
  have h : (s.flatMap qc).length ≤ 6 * s.length := by
    induction s with
    | nil => simp
    | cons c r ih => simp only [List.flatMap_cons, List.length_append, List.length_cons]; have := qc_length c; omega
  simp only [quoteL, List.length_cons, List.length_append, List.length_nil]
  omega
/-- with commas between -/
def commas : List (List UInt8) → List UInt8
  | [] => []
  | [x] => x
  | x :: y :: r => x ++ 44 :: commas (y :: r)
theorem commas_snoc (l : List (List UInt8)) (x : List UInt8) : commas (l ++ [x]) = if l = [] then x else commas l ++ 44 :: x := by
  induction l with
  | nil => simp [commas]
  | cons a r ih =>
    rw [if_neg (by simp)]
    cases r with
    | nil => simp [commas]
    | cons b r =>
      simp only [List.cons_append] at ih ⊢
      rw [commas, ih, if_neg (by simp), commas]
      simp
theorem commas_take {l : List (List UInt8)} {k : Nat} (h : k < l.length) : commas (l.take (k + 1)) = (if k = 0 then [] else commas (l.take k) ++ [44]) ++ l[k] := by
  rw [List.take_succ_eq_append_getElem h, commas_snoc]
  by_cases h0 : k = 0
  · subst h0; simp
  · rw [if_neg h0, if_neg]
    · simp
    · intro e
      have := congrArg List.length e
      rw [List.length_take, Nat.min_eq_left (by omega)] at this
      exact h0 this
theorem commas_length (l : List (List UInt8)) : (commas l).length ≤ (l.map fun x => x.length + 1).sum := by
  induction l with
  | nil => simp [commas]
  | cons a r ih =>
    cases r with
    | nil => simp [commas]
    | cons b r =>
      rw [commas]
      simp only [List.length_append, List.length_cons, List.map_cons, List.sum_cons] at ih ⊢
      omega
def nullL : List UInt8 := [110, 117, 108, 108]
def vText : Nat → VT → List UInt8
  | 0, _ => []
  | d + 1, v =>
    if v.kind = 1 then Lib.formatBool v.flag else if v.kind = 2 then Lib.itoa v.num else if v.kind = 3 then quoteL v.words.data.toList else
    if v.kind = 4 then 91 :: (commas (v.list.map (vText d)) ++ [93]) else
    if v.kind = 5 then 123 :: (commas (v.mem.map fun p => quoteL p.1.data.toList ++ 58 :: vText d p.2) ++ [125]) else nullL

end Go.Proofs.YtjfgfkbgbhbhjaaGreatDoor
