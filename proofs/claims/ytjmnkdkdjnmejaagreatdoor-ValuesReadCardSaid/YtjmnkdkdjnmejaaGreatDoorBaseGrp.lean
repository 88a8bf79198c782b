/- Several texts in one. (1) Words for memory that all walks of this seat share: what a world keeps, rows of cells that read as lists. No conditions. (2) Values as trees, the plain law: how many, how deep, what is wrong, how two compare, how one is written. No program in sight. No conditions. (3) Slices that a call itself makes: what append does to them, said of lists. No conditions but lengths below 2^40. -/
import Derived.Test.YtjmnkdkdjnmejaaGreatDoorRows
import Derived.WalkKit
import Derived.WalkSpells
import Derived.WalkLawsBesides
import Derived.Deep.QuietTactic
import Derived.BigQuiet
import Derived.Lib.Hide
import Derived.Deep.RegionHeld3
import Derived.Deep.DeepCutAuto
import Derived.Shelf.Small.Strs
import Derived.Lib.ValidU
import Derived.Lib.ItoaLen
import Derived.Lib.Small
import Derived.Deep.AppendLies

namespace Go.Proofs.YtjmnkdkdjnmejaaGreatDoor
open Go.RowKit
theorem lgz {α : Type _} (a : α) (l : List α) (h : 0 < (a :: l).length) : (a :: l)[0] = a := rfl
theorem lgs {α : Type _} (a : α) (l : List α) (i : Nat) (h : i + 1 < (a :: l).length) : (a :: l)[i + 1] = l[i]'(Nat.lt_of_succ_lt_succ h) := rfl
theorem lst {α : Type _} (l : List α) (i : Nat) (a : α) : l.toArray.setIfInBounds i a = (l.set i a).toArray := List.setIfInBounds_toArray l i a
theorem lgt {α : Type _} {xs : List α} {i : Nat} (h : i < xs.toArray.size) : xs.toArray[i] = xs[i] := List.getElem_toArray h
theorem lsz {α : Type _} {x : α} {xs : List α} {a : α} : (x :: xs).set 0 a = a :: xs := rfl
theorem lss {α : Type _} {x : α} {xs : List α} {i : Nat} {a : α} : (x :: xs).set (i + 1) a = x :: xs.set i a := rfl
theorem lqz {α : Type _} {a : α} {l : List α} : (a :: l)[0]? = some a := rfl
theorem lqt {α : Type _} {xs : List α} {i : Nat} : xs.toArray[i]? = xs[i]? := List.getElem?_toArray
theorem lqs {α : Type _} {a : α} {i : Nat} {l : List α} : (a :: l)[i + 1]? = l[i]? := List.getElem?_cons_succ
theorem hId {p : Prop} (h : p) : Hid p := Lib.hid h
set_option linter.unusedVariables false
set_option linter.unusedSimpArgs false

/-- Of the blocks that were there only those in S may have turned. -/
structure Mod (S : Nat → Prop) (w w' : World) : Prop where
  os : w'.os = w.os
  tape : w'.tape = w.tape
  output : w'.output = w.output
  size : w.heap.size ≤ w'.heap.size
  block : ∀ k, k < w.heap.size → ¬ S k → w'.heap[k]? = w.heap[k]?

theorem Mod.refl (S : Nat → Prop) (w : World) : Mod S w w := ⟨rfl, rfl, rfl, Nat.le_refl _, fun _ _ _ => rfl⟩
theorem Mod.trans {S : Nat → Prop} {a b c : World} (h : Mod S a b) (k : Mod S b c) : Mod S a c :=
  ⟨k.os.trans h.os, k.tape.trans h.tape, k.output.trans h.output, Nat.le_trans h.size k.size,
    fun i hi hs => (k.block i (Nat.lt_of_lt_of_le hi h.size) hs).trans (h.block i hi hs)⟩
/-- The second step may turn, besides, what the first has made. -/
theorem Mod.step {S T : Nat → Prop} {a b c : World} (h : Mod S a b) (k : Mod T b c) (hT : ∀ i, i < a.heap.size → T i → S i) : Mod S a c :=
  ⟨k.os.trans h.os, k.tape.trans h.tape, k.output.trans h.output, Nat.le_trans h.size k.size,
    fun i hi hs => (k.block i (Nat.lt_of_lt_of_le hi h.size) (fun ht => hs (hT i hi ht))).trans (h.block i hi hs)⟩
theorem Mod.mono {S T : Nat → Prop} {a b : World} (h : Mod S a b) (hT : ∀ i, i < a.heap.size → S i → T i) : Mod T a b :=
  ⟨h.os, h.tape, h.output, h.size, fun i hi ht => h.block i hi (fun hs => ht (hT i hi hs))⟩
theorem Mod.drew {S : Nat → Prop} {a w : World} (h : Mod S a w) : Mod S a w.drew := ⟨h.os, h.tape, h.output, h.size, h.block⟩
theorem Mod.drewN {S : Nat → Prop} {a w : World} (h : Mod S a w) (n : Nat) : Mod S a (w.drewN n) := ⟨h.os, h.tape, h.output, h.size, h.block⟩
theorem Mod.alloc {S : Nat → Prop} {a w : World} (h : Mod S a w) (o : Obj) : Mod S a (w.alloc o) :=
  ⟨h.os, h.tape, h.output, Nat.le_trans h.size (by simp), fun i hi hs => (Below.heap_alloc w o i (Nat.lt_of_lt_of_le hi h.size)).trans (h.block i hi hs)⟩
theorem Mod.setCell {S : Nat → Prop} {a w : World} (h : Mod S a w) {p : Addr} (hp : S p.block ∨ a.heap.size ≤ p.block) (u : Value) : Mod S a (w.setCell p u) :=
  ⟨h.os, h.tape, h.output, by simpa [World.setCell] using h.size, fun i hi hs => (Below.heap_setCell w p u i (by
    rintro rfl
    rcases hp with hp | hp
    · exact hs hp
    · omega)).trans (h.block i hi hs)⟩
theorem Mod.grown {S : Nat → Prop} {a w w' : World} {row : Option Nat} (h : Mod S a w) (hg : w.grownBy w' row) (hr : ∀ k, row = some k → S k ∨ a.heap.size ≤ k) : Mod S a w' :=
  ⟨hg.os.trans h.os, hg.tape.trans h.tape, hg.output.trans h.output, Nat.le_trans h.size hg.size,
    fun i hi hs => (hg.block i (Nat.lt_of_lt_of_le hi h.size) (fun e => by
      rcases hr i e.symm with hx | hx
      · exact hs hx
      · omega)).trans (h.block i hi hs)⟩
theorem Mod.cell {S : Nat → Prop} {w w' : World} (h : Mod S w w') {p : Addr} (hp : p.block < w.heap.size) (hs : ¬ S p.block) : w'.cell? p = w.cell? p :=
  World.cell?_of_block (w := w) (h.block p.block hp hs)
theorem Mod.frozen {S : Nat → Prop} {w w' : World} (h : Mod S w w') {p : Addr} (hp : p.block < w.heap.size) (hs : ¬ S p.block) : w'.frozen? p = w.frozen? p :=
  World.frozen?_of_block (w := w) (h.block p.block hp hs)
theorem Mod.below {w w' : World} (h : Mod (fun _ => False) w w') : Below w.heap.size w w' :=
  ⟨h.os, h.tape, h.output, h.size, fun k hk => h.block k hk (fun x => x)⟩
theorem Mod.of_below {S : Nat → Prop} {w w' : World} (h : Below w.heap.size w w') : Mod S w w' :=
  ⟨h.os, h.tape, h.output, h.size, fun k hk _ => h.block k hk⟩

theorem Mod.pre {S : Nat → Prop} {w w1 : World} {o : Obj} (h : Mod S (w.alloc o) w1) : Mod S w w1 ∧ w.heap.size < w1.heap.size ∧ (¬ S w.heap.size → w1.heap[w.heap.size]? = some o) := by
  have hz : (w.alloc o).heap.size = w.heap.size + 1 := by simp
  refine ⟨((Mod.refl S w).alloc o).trans h, by have := h.size; omega, fun hs => ?_⟩
  rw [h.block w.heap.size (by omega) hs]
  exact heap_alloc_new w o

/-- nothing that was there has turned -/
abbrev New (w w' : World) : Prop := Mod (fun _ => False) w w'
/-- of what was there block b alone may have turned -/
abbrev Only (b : Nat) (w w' : World) : Prop := Mod (fun k => k = b) w w'

/-- Block g is just the cells cs of element type t, none frozen. -/
def Blk (w : World) (g : Nat) (t : TypeId) (cs : Array Value) : Prop := w.heap[g]? = some (.cells cs t (0, 0))

section
variable {w w' : World} {g : Nat} {t : TypeId} {cs : Array Value}
theorem heap_lt {w : World} {g : Nat} {o : Obj} (h : w.heap[g]? = some o) : g < w.heap.size := by
  rcases Nat.lt_or_ge g w.heap.size with hlt | hge
  · exact hlt
  · rw [Array.getElem?_eq_none hge] at h; cases h
theorem Blk.lt (h : Blk w g t cs) : g < w.heap.size := heap_lt h
theorem Blk.cell (h : Blk w g t cs) (i : Nat) : w.cell? ⟨g, i, none⟩ = cs[i]? := by
  unfold Blk at h; simp [World.cell?, h]
theorem Blk.frozen (h : Blk w g t cs) (i : Nat) : w.frozen? ⟨g, i, none⟩ = false := by
  unfold Blk at h; simp [World.frozen?, h]
theorem Blk.new (w : World) (t : TypeId) (cs : Array Value) : Blk (w.alloc (.cells cs t)) w.heap.size t cs := heap_alloc_new w _
theorem Blk.new' {w : World} {g : Nat} (t : TypeId) (cs : Array Value) (hg : w.heap.size = g) : Blk (w.alloc (.cells cs t)) g t cs := by subst hg; exact heap_alloc_new w _
theorem Blk.set (h : Blk w g t cs) (i : Nat) (u : Value) : Blk (w.setCell ⟨g, i, none⟩ u) g t (cs.setIfInBounds i u) := by
  unfold Blk at h ⊢
  simp [World.setCell, Array.getElem?_modify, h]
theorem Blk.mod {S : Nat → Prop} (h : Blk w g t cs) (hm : Mod S w w') (hs : ¬ S g) : Blk w' g t cs := (hm.block g h.lt hs).trans h
theorem Blk.ne {g' : Nat} {t' : TypeId} {cs' : Array Value} (h : Blk w g t cs) (h' : Blk w g' t' cs') (hne : t ≠ t') : g ≠ g' := by
  rintro rfl
  unfold Blk at h h'
  rw [h] at h'
  injection h' with h'
  injection h' with _ ht
  exact hne ht
end

theorem ret_int {k : IntKind} {a b : Int} (h : a = b) : Ending.returned (.int k a) = .returned (.int k b) := by rw [h]
theorem ret_bool {a b : Bool} (h : a = b) : Ending.returned (.bool a) = .returned (.bool b) := by rw [h]

/-- block g is a row of cells of element type t -/
def TB (w : World) (g : Nat) (t : TypeId) : Prop := ∃ cs fr, w.heap[g]? = some (.cells cs t fr)
theorem TB.lt {w : World} {g : Nat} {t : TypeId} (h : TB w g t) : g < w.heap.size := by obtain ⟨_, _, h⟩ := h; exact heap_lt h
theorem TB.mod {S : Nat → Prop} {w w' : World} {g : Nat} {t : TypeId} (h : TB w g t) (hm : Mod S w w') (hs : ¬ S g) : TB w' g t := by
  obtain ⟨cs, fr, h'⟩ := h; exact ⟨cs, fr, (hm.block g (heap_lt h') hs).trans h'⟩
theorem Blk.tb {w : World} {g : Nat} {t : TypeId} {cs : Array Value} (h : Blk w g t cs) : TB w g t := ⟨cs, _, h⟩
theorem TB.ne {w : World} {g g' : Nat} {t t' : TypeId} (h : TB w g t) (h' : TB w g' t') (hne : t ≠ t') : g ≠ g' := by
  rintro rfl
  obtain ⟨cs, fr, h⟩ := h
  obtain ⟨cs', fr', h'⟩ := h'
  rw [h] at h'
  injection h' with h'
  injection h' with _ ht
  exact hne ht

/-- the slice '.slice A n c' of element type t reads as the list xs; an element takes sz cells, 'enc x j' is the j-th -/
def Sl {α : Type} (w : World) (t : TypeId) (sz : Nat) (enc : α → Nat → Value) (A : Option Addr) (n : Nat) (xs : List α) : Prop :=
  xs.length = n ∧ (0 < n → ∃ g o, A = some ⟨g, o, none⟩ ∧ TB w g t ∧ ∀ i (h : i < xs.length) j, j < sz → w.cell? ⟨g, o + i * sz + j, none⟩ = some (enc xs[i] j))

section
variable {α : Type} {w w' : World} {t : TypeId} {sz : Nat} {enc : α → Nat → Value} {A : Option Addr} {n : Nat} {xs : List α}
theorem Sl.nil : Sl w t sz enc A 0 ([] : List α) := ⟨rfl, fun h => absurd h (by omega)⟩
theorem Sl.mod {S : Nat → Prop} (h : Sl w t sz enc A n xs) (hm : Mod S w w') (hs : ∀ g, TB w g t → ¬ S g) : Sl w' t sz enc A n xs := by
  refine ⟨h.1, fun h0 => ?_⟩
  obtain ⟨g, o, hA, hg, hc⟩ := h.2 h0
  exact ⟨g, o, hA, hg.mod hm (hs g hg), fun i hi j hj => (hm.cell (p := ⟨g, o + i * sz + j, none⟩) hg.lt (hs g hg)).trans (hc i hi j hj)⟩
theorem Sl.new (h : Sl w t sz enc A n xs) (hm : New w w') : Sl w' t sz enc A n xs := h.mod hm (fun _ _ x => x)
/-- out of a block that is known whole -/
theorem Sl.of_blk {g : Nat} {cs : Array Value} (hb : Blk w g t cs) (hn : xs.length = n) (hc : ∀ i (h : i < xs.length) j, j < sz → cs[i * sz + j]? = some (enc xs[i] j)) :
    Sl w t sz enc (some ⟨g, 0, none⟩) n xs :=
  ⟨hn, fun _ => ⟨g, 0, rfl, hb.tb, fun i hi j hj => by rw [hb.cell]; simpa using hc i hi j hj⟩⟩
end


inductive VT where
  | mk (kind : Int) (flag : Bool) (num : Int) (words : ByteArray) (list : List VT) (mem : List (ByteArray × VT))
namespace VT
def kind : VT → Int | mk a _ _ _ _ _ => a
def flag : VT → Bool | mk _ a _ _ _ _ => a
def num : VT → Int | mk _ _ a _ _ _ => a
def words : VT → ByteArray | mk _ _ _ a _ _ => a
def list : VT → List VT | mk _ _ _ _ a _ => a
def mem : VT → List (ByteArray × VT) | mk _ _ _ _ _ a => a
def kids (v : VT) : List VT := v.list ++ v.mem.map (·.2)
end VT

/-- the first that is not nought -/
def fz : List Int → Int
  | [] => 0
  | x :: xs => if x ≠ 0 then x else fz xs
def orF (a b : Int) : Int := if a ≠ 0 then a else b
theorem fz_append (a b : List Int) : fz (a ++ b) = orF (fz a) (fz b) := by
  induction a with
  | nil => simp [fz, orF]
  | cons x xs ih =>
    simp only [List.cons_append, fz]
    split
    · rename_i h; simp [orF, h]
    · exact ih
theorem fz_take {l : List Int} {k : Nat} (h : k < l.length) : fz (l.take (k + 1)) = orF (fz (l.take k)) l[k] := by
  rw [List.take_succ_eq_append_getElem h, fz_append]
  have : fz [l[k]] = l[k] := by
    simp only [fz]
    split
    · rfl
    · rename_i hq; exact (Decidable.not_not.1 hq).symm
  rw [this]
theorem fz_map_take {α : Type} (f : α → Int) {l : List α} {k : Nat} (h : k < l.length) : fz ((l.take (k + 1)).map f) = orF (fz ((l.take k).map f)) (f l[k]) := by
  rw [List.map_take, fz_take (by simpa using h), List.map_take]
  simp
theorem fz_stop {l : List Int} {k : Nat} (h : k < l.length) (h0 : fz (l.take k) = 0) (hk : l[k] ≠ 0) : fz l = l[k] := by
  have h1 : fz l = fz (l.take (k + 1) ++ l.drop (k + 1)) := by rw [List.take_append_drop]
  rw [h1, fz_append, fz_take h, h0]
  simp [orF, hk]
theorem fz_map_stop {α : Type} (f : α → Int) {l : List α} {k : Nat} (h : k < l.length) (h0 : fz ((l.take k).map f) = 0) (hk : f l[k] ≠ 0) : fz (l.map f) = f l[k] := by
  have := fz_stop (l := l.map f) (k := k) (by simpa using h) (by rw [← List.map_take]; exact h0) (by simpa using hk)
  simpa using this

def vMany : Nat → VT → Nat
  | 0, _ => 0
  | d + 1, v => 1 + ((v.list.map (vMany d)).sum + (v.mem.map fun p => vMany d p.2).sum)
def maxL : List Nat → Nat
  | [] => 0
  | x :: xs => max x (maxL xs)
theorem maxL_append (a b : List Nat) : maxL (a ++ b) = max (maxL a) (maxL b) := by
  induction a with
  | nil => simp [maxL]
  | cons x xs ih => simp only [List.cons_append, maxL, ih]; omega
def vDeep : Nat → VT → Nat
  | 0, _ => 0
  | d + 1, v => 1 + max (maxL (v.list.map (vDeep d))) (maxL (v.mem.map fun p => vDeep d p.2))
theorem sum_map_take {α : Type} (f : α → Nat) {l : List α} {k : Nat} (h : k < l.length) : ((l.take (k + 1)).map f).sum = ((l.take k).map f).sum + f l[k] := by
  rw [List.take_succ_eq_append_getElem h]
  simp only [List.map_append, List.sum_append, List.map_cons, List.map_nil, List.sum_cons, List.sum_nil, Nat.add_zero]
theorem max_map_take {α : Type} (f : α → Nat) {l : List α} {k : Nat} (h : k < l.length) : maxL ((l.take (k + 1)).map f) = max (maxL ((l.take k).map f)) (f l[k]) := by
  rw [List.take_succ_eq_append_getElem h, List.map_append, maxL_append]
  simp only [List.map_cons, List.map_nil, maxL, Nat.max_zero]
theorem sum_map_le {α : Type} (f : α → Nat) (l : List α) (k : Nat) : ((l.take k).map f).sum ≤ (l.map f).sum := by
  have h1 : (l.map f).sum = ((l.take k).map f).sum + ((l.drop k).map f).sum := by
    rw [← List.sum_append, ← List.map_append, List.take_append_drop]
  omega
theorem sum_map_one {α : Type} (f : α → Nat) {l : List α} {k : Nat} (h : k < l.length) : ((l.take k).map f).sum + f l[k] ≤ (l.map f).sum := by
  rw [← sum_map_take f h]; exact sum_map_le f l _
theorem sum_map_get {α : Type} (f : α → Nat) {l : List α} {k : Nat} (h : k < l.length) : f l[k] ≤ (l.map f).sum := by
  have := sum_map_one f h; omega
theorem max_map_get {α : Type} (f : α → Nat) {l : List α} {k : Nat} (h : k < l.length) : f l[k] ≤ maxL (l.map f) := by
  have h1 : l = l.take (k + 1) ++ l.drop (k + 1) := (List.take_append_drop _ _).symm
  have h2 : maxL (l.map f) = max (maxL ((l.take (k + 1)).map f)) (maxL ((l.drop (k + 1)).map f)) := by
    rw [← maxL_append, ← List.map_append, ← h1]
  rw [h2, max_map_take f h]
  omega
theorem max_map_all {α : Type} (f : α → Nat) {l : List α} {m : Nat} (h : ∀ x ∈ l, f x ≤ m) : maxL (l.map f) ≤ m := by
  induction l with
  | nil => simp [maxL]
  | cons x xs ih =>
    have h1 := h x (by simp)
    have h2 := ih (fun y hy => h y (by simp [hy]))
    simp only [List.map_cons, maxL]
    omega

/-- what a text's length does not pass -/
def vW : Nat → VT → Nat
  | 0, _ => 0
  | d + 1, v => 40 + 6 * v.words.size + ((v.list.map fun x => vW d x + 1).sum + (v.mem.map fun p => vW d p.2 + (6 * p.1.size + 4)).sum)
theorem vMany_le (d : Nat) : ∀ v, vMany d v ≤ vW d v := by
  induction d with
  | zero => intro v; simp [vMany]
  | succ d ih =>
    intro v
    have h1 : (v.list.map (vMany d)).sum ≤ (v.list.map fun x => vW d x + 1).sum := by
      induction v.list with
      | nil => simp
      | cons x xs ih2 => simp only [List.map_cons, List.sum_cons]; have := ih x; omega
    have h2 : (v.mem.map fun p => vMany d p.2).sum ≤ (v.mem.map fun p => vW d p.2 + (6 * p.1.size + 4)).sum := by
      induction v.mem with
      | nil => simp
      | cons p xs ih2 => simp only [List.map_cons, List.sum_cons]; have := ih p.2; omega
    simp only [vMany, vW]
    omega
theorem vDeep_le (d : Nat) : ∀ v, vDeep d v ≤ d := by
  induction d with
  | zero => intro v; simp [vDeep]
  | succ d ih =>
    intro v
    have h1 := max_map_all (vDeep d) (l := v.list) (m := d) (fun x _ => ih x)
    have h2 := max_map_all (fun p : ByteArray × VT => vDeep d p.2) (l := v.mem) (m := d) (fun x _ => ih x.2)
    simp only [vDeep]
    omega

theorem vW_parts (d : Nat) (v : VT) : v.list.length ≤ vW (d + 1) v ∧ v.mem.length ≤ vW (d + 1) v ∧ 6 * v.words.size ≤ vW (d + 1) v := by
  have h1 : v.list.length ≤ (v.list.map fun x => vW d x + 1).sum := by
    induction v.list with
    | nil => simp
    | cons x xs ih => simp only [List.map_cons, List.sum_cons, List.length_cons]; omega
  have h2 : v.mem.length ≤ (v.mem.map fun p => vW d p.2 + (6 * p.1.size + 4)).sum := by
    induction v.mem with
    | nil => simp
    | cons x xs ih => simp only [List.map_cons, List.sum_cons, List.length_cons]; omega
  simp only [vW]
  omega
theorem vW_item (d : Nat) (v : VT) {k : Nat} (h : k < v.list.length) : vW d v.list[k] ≤ vW (d + 1) v := by
  have := sum_map_get (fun x => vW d x + 1) h
  simp only [vW] at this ⊢
  omega
theorem vW_member (d : Nat) (v : VT) {k : Nat} (h : k < v.mem.length) : vW d v.mem[k].2 + 6 * v.mem[k].1.size ≤ vW (d + 1) v := by
  have := sum_map_get (fun p : ByteArray × VT => vW d p.2 + (6 * p.1.size + 4)) h
  simp only [vW] at this ⊢
  omega
/-- rows no longer than m, words of modest size -/
def Wide (m : Nat) : Nat → VT → Prop
  | 0, _ => True
  | d + 1, v => v.list.length ≤ m ∧ v.mem.length ≤ m ∧ v.words.size ≤ 1000000 ∧ (∀ x ∈ v.list, Wide m d x) ∧ (∀ p ∈ v.mem, p.1.size ≤ 1000000 ∧ Wide m d p.2)
theorem Wide.mono {m m' : Nat} (h : m ≤ m') : ∀ (d : Nat) (v : VT), Wide m d v → Wide m' d v
  | 0, _, _ => trivial
  | d + 1, v, ⟨h1, h2, h3, h4, h5⟩ => ⟨by omega, by omega, h3, fun x hx => Wide.mono h d x (h4 x hx), fun p hp => ⟨(h5 p hp).1, Wide.mono h d p.2 (h5 p hp).2⟩⟩
/-- a value that the walks can carry -/
def Fit (d : Nat) (v : VT) : Prop := vW d v ≤ 1000000000 ∧ Wide 200000 d v
theorem Fit.parts {d : Nat} {v : VT} (h : Fit (d + 1) v) : v.list.length ≤ 200000 ∧ v.mem.length ≤ 200000 ∧ v.words.size ≤ 1000000 := ⟨h.2.1, h.2.2.1, h.2.2.2.1⟩
theorem Fit.item {d : Nat} {v : VT} (h : Fit (d + 1) v) {k : Nat} (hk : k < v.list.length) : Fit d v.list[k] :=
  ⟨Nat.le_trans (vW_item d v hk) h.1, h.2.2.2.2.1 _ (List.getElem_mem hk)⟩
theorem Fit.member {d : Nat} {v : VT} (h : Fit (d + 1) v) {k : Nat} (hk : k < v.mem.length) : Fit d v.mem[k].2 ∧ v.mem[k].1.size ≤ 1000000 :=
  ⟨⟨Nat.le_trans (Nat.le_trans (Nat.le_add_right _ _) (vW_member d v hk)) h.1, (h.2.2.2.2.2 _ (List.getElem_mem hk)).2⟩, (h.2.2.2.2.2 _ (List.getElem_mem hk)).1⟩
theorem Fit.kid {d : Nat} {v : VT} (h : Fit (d + 1) v) {k : Nat} (hk : k < v.kids.length) : Fit d v.kids[k] := by
  have hkk : v.kids = v.list ++ v.mem.map (·.2) := rfl
  simp only [hkk] at hk ⊢
  by_cases hc : k < v.list.length
  · rw [List.getElem_append_left hc]
    exact h.item hc
  · rw [List.getElem_append_right (by omega)]
    simp only [List.length_append, List.length_map] at hk
    simp only [List.getElem_map]
    exact (h.member (by omega)).1
/-- the error of a value's number and size -/
def vBig (d : Nat) (v : VT) : Prop := 5000 < vMany d v ∨ 50 < vDeep d v
instance (d : Nat) (v : VT) : Decidable (vBig d v) := by unfold vBig; infer_instance

def validW (s : ByteArray) : Bool := Lib.validD s.data.toList
def nameF (s : ByteArray) : Int := if 100 < s.size then 2 else if validW s = false then 3 else 0
def cmpB (a b : ByteArray) : Int := Lib.compareBytes a.data.toList b.data.toList
/-- the model's word for 'a <= b' on strings -/
def strLeV (a b : ByteArray) : Bool := Op.bytesLess a.toList b.toList || a.toList == b.toList
/-- the error of the name number k -/
def nameAt (l : List ByteArray) (k : Nat) : Int :=
  match l[k]? with
  | none => 0
  | some s => if nameF s ≠ 0 then nameF s else if 0 < k ∧ strLeV s (l.getD (k - 1) ByteArray.empty) = true then 7 else 0
def idleV (v : VT) : Bool := (decide (v.kind = 1) || !v.flag) && (decide (v.kind = 2) || decide (v.num = 0)) && (decide (v.kind = 3) || decide (v.words = ⟨#[]⟩)) && (decide (v.kind = 4) || decide (v.list.length = 0)) && (decide (v.kind = 5) || decide (v.mem.length = 0))
def namesF (l : List ByteArray) : Int := fz ((List.range l.length).map (nameAt l))
theorem names_next {l : List ByteArray} {k : Nat} (h : fz ((List.range k).map (nameAt l)) = 0) : fz ((List.range (k + 1)).map (nameAt l)) = nameAt l k := by
  rw [List.range_succ, List.map_append, fz_append, h]
  simp [orF, fz]
  intro e; rw [e]
theorem names_stop {l : List ByteArray} {k : Nat} (hk : k < l.length) (h : fz ((List.range k).map (nameAt l)) = 0) (hn : nameAt l k ≠ 0) : namesF l = nameAt l k := by
  unfold namesF
  have e := fz_map_stop (nameAt l) (l := List.range l.length) (k := k) (by simpa using hk) (by rw [List.take_range, Nat.min_eq_left (by omega)]; exact h) (by simpa using hn)
  simpa using e
theorem nameAt_eq {l : List ByteArray} {k : Nat} {s : ByteArray} (h : l[k]? = some s) (p : ByteArray) (hp : 0 < k → l.getD (k - 1) ByteArray.empty = p) : nameAt l k = if nameF s ≠ 0 then nameF s else if 0 < k ∧ strLeV s p = true then 7 else 0 := by
  unfold nameAt
  rw [h]
  simp only
  by_cases h0 : 0 < k
  · rw [hp h0]
  · simp [h0]
def headF (v : VT) : Int :=
  if v.kind < 0 ∨ 5 < v.kind then 4 else if idleV v = false then 3 else if v.num < -1000000000000000 ∨ 1000000000000000 < v.num then 1 else
  if 5000 < v.words.size then 2 else if validW v.words = false then 3 else 0
def ownF (v : VT) : Int := orF (headF v) (namesF (v.mem.map (·.1)))
def vFault : Nat → VT → Int
  | 0, _ => 0
  | d + 1, v => orF (ownF v) (orF (fz (v.list.map (vFault d))) (fz (v.mem.map fun p => vFault d p.2)))
def vCheck (d : Nat) (v : VT) : Int := if vBig d v then 2 else vFault d v

/-- a digit to the base of sixteen -/
def hexD (n : Nat) : UInt8 := (#[48, 49, 50, 51, 52, 53, 54, 55, 56, 57, 97, 98, 99, 100, 101, 102] : Array UInt8).getD n 0
def qc (c : UInt8) : List UInt8 :=
  if c = 34 ∨ c = 92 then [92, c] else if c = 10 then [92, 110] else if c = 13 then [92, 114] else if c = 9 then [92, 116] else
  if c.toNat < 32 ∨ c = 127 then [92, 117, 48, 48, hexD (c.toNat / 16), hexD (c.toNat % 16)] else [c]
def quoteL (s : List UInt8) : List UInt8 := 34 :: (s.flatMap qc ++ [34])
theorem qc_length (c : UInt8) : (qc c).length ≤ 6 := by
  unfold qc
  repeat' split
  all_goals simp
theorem quoteL_length (s : List UInt8) : (quoteL s).length ≤ 6 * s.length + 2 := by
  have h : (s.flatMap qc).length ≤ 6 * s.length := by
    induction s with
    | nil => simp
    | cons c r ih => simp only [List.flatMap_cons, List.length_append, List.length_cons]; have := qc_length c; omega
  simp only [quoteL, List.length_cons, List.length_append, List.length_nil]
  omega
/-- with commas between -/
def commas : List (List UInt8) → List UInt8
  | [] => []
  | [x] => x
  | x :: y :: r => x ++ 44 :: commas (y :: r)
theorem commas_snoc (l : List (List UInt8)) (x : List UInt8) : commas (l ++ [x]) = if l = [] then x else commas l ++ 44 :: x := by
  induction l with
  | nil => simp [commas]
  | cons a r ih =>
    rw [if_neg (by simp)]
    cases r with
    | nil => simp [commas]
    | cons b r =>
      simp only [List.cons_append] at ih ⊢
      rw [commas, ih, if_neg (by simp), commas]
      simp
theorem commas_take {l : List (List UInt8)} {k : Nat} (h : k < l.length) : commas (l.take (k + 1)) = (if k = 0 then [] else commas (l.take k) ++ [44]) ++ l[k] := by
  rw [List.take_succ_eq_append_getElem h, commas_snoc]
  by_cases h0 : k = 0
  · subst h0; simp
  · rw [if_neg h0, if_neg]
    · simp
    · intro e
      have := congrArg List.length e
      rw [List.length_take, Nat.min_eq_left (by omega)] at this
      exact h0 this
theorem commas_length (l : List (List UInt8)) : (commas l).length ≤ (l.map fun x => x.length + 1).sum := by
  induction l with
  | nil => simp [commas]
  | cons a r ih =>
    cases r with
    | nil => simp [commas]
    | cons b r =>
      rw [commas]
      simp only [List.length_append, List.length_cons, List.map_cons, List.sum_cons] at ih ⊢
      omega
def nullL : List UInt8 := [110, 117, 108, 108]
def vText : Nat → VT → List UInt8
  | 0, _ => []
  | d + 1, v =>
    if v.kind = 1 then Lib.formatBool v.flag else if v.kind = 2 then Lib.itoa v.num else if v.kind = 3 then quoteL v.words.data.toList else
    if v.kind = 4 then 91 :: (commas (v.list.map (vText d)) ++ [93]) else
    if v.kind = 5 then 123 :: (commas (v.mem.map fun p => quoteL p.1.data.toList ++ 58 :: vText d p.2) ++ [125]) else nullL


def encL {α : Type} (sz : Nat) (enc : α → Nat → Value) (x : α) : List Value := (List.range sz).map (enc x)
theorem encL_length {α : Type} (sz : Nat) (enc : α → Nat → Value) (x : α) : (encL sz enc x).length = sz := by simp [encL]
theorem flat_length {α : Type} (sz : Nat) (enc : α → Nat → Value) (xs : List α) : (xs.flatMap (encL sz enc)).length = xs.length * sz := by
  induction xs with
  | nil => simp
  | cons x xs ih => simp [ih, encL_length, Nat.succ_mul]; omega
theorem flat_get {α : Type} (sz : Nat) (enc : α → Nat → Value) (xs : List α) (i : Nat) (hi : i < xs.length) (j : Nat) (hj : j < sz) : (xs.flatMap (encL sz enc))[i * sz + j]? = some (enc xs[i] j) := by
  induction xs generalizing i with
  | nil => simp at hi
  | cons x xs ih =>
    rw [List.flatMap_cons]
    cases i with
    | zero =>
      rw [List.getElem?_append_left (by rw [encL_length]; omega)]
      simp [encL, hj]
    | succ i =>
      rw [List.getElem?_append_right (by rw [encL_length, Nat.succ_mul]; omega), encL_length, show (i + 1) * sz + j - sz = i * sz + j by rw [Nat.succ_mul]; omega, ih i (by simpa using hi)]
      simp

/-- what the program's table says of an element type -/
def EInfo (P : Program) (e : TypeId) (sz bytes : Nat) : Prop := ∃ i z, P.info? e = some i ∧ i.zero = some z ∧ i.size = sz ∧ i.bytes = bytes ∧ z.cells.size = sz ∧ 0 < sz
theorem EInfo.of {P : Program} {e : TypeId} {z : Value} {sz bytes : Nat} (h : (P.info? e).map (fun i => (i.zero, i.size, i.bytes)) = some (some z, sz, bytes)) (hz : z.cells.size = sz) (h0 : 0 < sz) : EInfo P e sz bytes := by
  obtain ⟨i, hi, h1, h2, h3⟩ := info_parts h
  exact ⟨i, z, hi, h1, h2, h3, hz, h0⟩

/-- the slice '.slice A n c' is nil, or the head of a row from block B on that nobody else writes; it reads as xs -/
def Own {α : Type} (w : World) (B : Nat) (t : TypeId) (sz : Nat) (enc : α → Nat → Value) (A : Option Addr) (n c : Nat) (xs : List α) : Prop :=
  xs.length = n ∧ w.ownsRow B t sz (.slice A n c) n (xs.flatMap (encL sz enc))

def blkOf (A : Option Addr) : Option Nat := A.map (·.block)
theorem ownBlock_eq (A : Option Addr) (n c : Nat) : (Value.slice A n c).ownBlock = blkOf A := by cases A <;> rfl

section
variable {α : Type} {w w' : World} {B : Nat} {t : TypeId} {sz : Nat} {enc : α → Nat → Value} {A : Option Addr} {n c : Nat} {xs : List α}
theorem Own.nil : Own w B t sz enc none 0 0 ([] : List α) := ⟨rfl, by simpa using World.ownsRow_nil w B t sz⟩
theorem Own.form (h : Own w B t sz enc A n c xs) (h0 : 0 < n) : ∃ g, A = some ⟨g, 0, none⟩ ∧ B ≤ g ∧ TB w g t ∧ n ≤ c ∧ c ≤ maxLen := by
  rcases h.2.2 with ⟨_, hn⟩ | ⟨g, cap, cur, hv, hB, hh, hc1, hc2, _⟩
  · omega
  · injection hv with h1 h2 h3
    subst h3
    exact ⟨g, h1, hB, ⟨cur, _, hh⟩, hc1, hc2⟩
theorem Own.blk (h : Own w B t sz enc A n c xs) : A = none ∧ n = 0 ∧ c = 0 ∨ ∃ g, A = some ⟨g, 0, none⟩ ∧ B ≤ g ∧ TB w g t := by
  rcases h.2.2 with ⟨hv, hn⟩ | ⟨g, cap, cur, hv, hB, hh, hc1, hc2, _⟩
  · injection hv with h1 h2 h3; exact .inl ⟨h1, h2, h3⟩
  · injection hv with h1 h2 h3
    exact .inr ⟨g, h1, hB, ⟨cur, _, hh⟩⟩
theorem Own.sl (h : Own w B t sz enc A n c xs) : Sl w t sz enc A n xs := by
  refine ⟨h.1, fun h0 => ?_⟩
  obtain ⟨g, rfl, hB, hg, hc⟩ := h.form h0
  refine ⟨g, 0, rfl, hg, fun i hi j hj => ?_⟩
  have h1 := h.1
  have hlt : i * sz + j < n * sz := by
    have : (i + 1) * sz ≤ n * sz := Nat.mul_le_mul_right sz (by omega)
    rw [Nat.succ_mul] at this; omega
  have := h.2.cellAt (i * sz + j) hlt
  rw [flat_get sz enc xs i hi j hj] at this
  rw [← this, Nat.zero_add]
theorem Own.mod {S : Nat → Prop} (h : Own w B t sz enc A n c xs) (hm : Mod S w w') (hs : ∀ g, blkOf A = some g → ¬ S g) : Own w' B t sz enc A n c xs := by
  refine ⟨h.1, h.2.1, ?_⟩
  rcases h.2.2 with hv | ⟨g, cap, cur, hv, hB, hh, hr⟩
  · exact .inl hv
  · refine .inr ⟨g, cap, cur, hv, hB, ?_, hr⟩
    injection hv with h1
    subst h1
    exact (hm.block g (heap_lt hh) (hs g rfl)).trans hh
theorem Own.new (h : Own w B t sz enc A n c xs) (hm : New w w') : Own w' B t sz enc A n c xs := h.mod hm (fun _ _ x => x)
theorem Own.drewN (h : Own w B t sz enc A n c xs) (k : Nat) : Own (w.drewN k) B t sz enc A n c xs := h.new ((Mod.refl _ _).drewN k)
theorem Own.alloc (h : Own w B t sz enc A n c xs) (o : Obj) : Own (w.alloc o) B t sz enc A n c xs := h.new ((Mod.refl _ _).alloc o)
theorem Own.less {B' : Nat} (h : Own w B t sz enc A n c xs) (hB : B' ≤ B) : Own w B' t sz enc A n c xs := by
  refine ⟨h.1, h.2.1, ?_⟩
  rcases h.2.2 with hv | ⟨g, cap, cur, hv, hB, hh, hr⟩
  · exact .inl hv
  · exact .inr ⟨g, cap, cur, hv, by omega, hh, hr⟩
/-- out of a block that is known whole -/
theorem Own.of_blk {g m : Nat} (hb : Blk w g t (xs.flatMap (encL sz enc)).toArray) (hB : B ≤ g) (hn : xs.length = m) (hm : m ≤ 1000000) : Own w B t sz enc (some ⟨g, 0, none⟩) m m xs := by
  subst hn
  refine ⟨rfl, flat_length sz enc xs, .inr ⟨g, _, _, rfl, hB, hb, Nat.le_refl _, by unfold maxLen; omega, by rw [List.size_toArray, flat_length], ?_⟩⟩
  rw [← flat_length sz enc xs, List.take_length]

/-- append of one element that lies in a block of its own -/
theorem wpList_push {P : Program} {ops : Array Oper} {rest : List Oper} {o : Oper} {a : Act} {Q : Exit → Act → World → Prop} (hgd : o.guard = none) (s x : Operand) (ts : TypeId)
    (ho : o.op = .call { callee := .builtin .append, args := #[s, x], argTypes := #[ts, ts] }) (bytes : Nat) (ht : P.underlying ts = some (.slice t)) (hi : EInfo P t sz bytes)
    (hs : a.eval s = .slice A n c) (hown : Own w B t sz enc A n c xs) (y : α) (g0 : Nat) (hx : a.eval x = .slice (some ⟨g0, 0, none⟩) 1 1) (hb : Blk w g0 t (encL sz enc y).toArray)
    (h1 : ∀ j, j < sz → (enc y j).oneCell' = true) (hn : n < 1000000) (hbytes : bytes ≤ 1000000) (hB : B ≤ w.heap.size)
    (h : ∀ g cap w', Own w' B t sz enc (some ⟨g, 0, none⟩) (n + 1) cap (xs ++ [y]) → Mod (fun k => blkOf A = some k) w w' → (blkOf A = some g ∨ g = w.heap.size) → g < w'.heap.size →
      wpList P ops Q rest (a.put o.dst (.slice (some ⟨g, 0, none⟩) (n + 1) cap)) w') : wpList P ops Q (o :: rest) a w := by
  obtain ⟨i, z, hi0, hz, hsz, hby, hzs, h0⟩ := hi
  refine wpList_append_lies w hgd s x ts ho B t i z sz bytes ht hi0 hz hsz hby hzs h0 _ n _ hs hown.2 ⟨g0, 0, none⟩ 1 1 (encL sz enc y) hx (by rw [encL_length]; omega) ?_ ?_ (by omega) (by unfold maxLen; omega) ?_ hB _ rfl ?_
  · have := World.news_of_block hb
    simpa using this
  · intro u hu
    simp only [encL, List.mem_map, List.mem_range] at hu
    obtain ⟨j, hj, rfl⟩ := hu
    exact h1 j hj
  · have : (n + 1) * bytes ≤ 1000000 * 1000000 := Nat.mul_le_mul (by omega) hbytes
    omega
  · intro g cap w' hown' hg hat hlt
    rw [ownBlock_eq] at hg hat
    refine h g cap w' ⟨by simp [hown.1], by simpa using hown'⟩ ?_ hat hlt
    exact (Mod.refl (fun k => blkOf A = some k) w).grown hg (fun k e => .inl e)
end

theorem Sl.flat {α : Type} {w : World} {t : TypeId} {sz : Nat} {enc : α → Nat → Value} {g o n : Nat} {xs : List α} (h : Sl w t sz enc (some ⟨g, o, none⟩) n xs) (h0 : 0 < n) (hz : 0 < sz) :
    ∀ j u, (xs.flatMap (encL sz enc))[j]? = some u → w.cell? ((⟨g, o, none⟩ : Addr).add j) = some u := by
  intro j u hu
  obtain ⟨g', o', hA, hg, hc⟩ := h.2 h0
  injection hA with hA
  injection hA with hA1 hA2
  subst hA1 hA2
  have hj : j < xs.length * sz := by
    rcases Nat.lt_or_ge j (xs.length * sz) with h | h
    · exact h
    · rw [List.getElem?_eq_none (by rw [flat_length]; exact h)] at hu; cases hu
  have hi : j / sz < xs.length := Nat.div_lt_of_lt_mul (by rw [Nat.mul_comm]; exact hj)
  have hr := Nat.mod_lt j hz
  have e : j / sz * sz + j % sz = j := Nat.div_add_mod' j sz
  have h1 := flat_get sz enc xs (j / sz) hi (j % sz) hr
  rw [e, hu] at h1
  have h2 := hc (j / sz) hi (j % sz) hr
  rw [Nat.add_assoc, e] at h2
  have hadd : (⟨g, o, none⟩ : Addr).add j = ⟨g, o + j, none⟩ := by unfold Addr.add; split <;> simp_all
  rw [hadd, h2, h1]

/-- append of a slice's elements -/
theorem wpList_pushAll {α : Type} {w : World} {B : Nat} {t : TypeId} {sz : Nat} {enc : α → Nat → Value} {A : Option Addr} {n c : Nat} {xs : List α} {P : Program} {ops : Array Oper} {rest : List Oper} {o : Oper} {a : Act} {Q : Exit → Act → World → Prop} (hgd : o.guard = none) (s x : Operand) (ts : TypeId)
    (ho : o.op = .call { callee := .builtin .append, args := #[s, x], argTypes := #[ts, ts] }) (bytes : Nat) (ht : P.underlying ts = some (.slice t)) (hi : EInfo P t sz bytes)
    (hs : a.eval s = .slice A n c) (hown : Own w B t sz enc A n c xs) (ys : List α) (g0 o0 m cm : Nat) (hx : a.eval x = .slice (some ⟨g0, o0, none⟩) m cm) (hy : Sl w t sz enc (some ⟨g0, o0, none⟩) m ys) (hm : 0 < m)
    (h1 : ∀ y ∈ ys, ∀ j, j < sz → (enc y j).oneCell' = true) (hn : n + m < 1000000) (hbytes : bytes ≤ 1000000) (hB : B ≤ w.heap.size)
    (h : ∀ g cap w', Own w' B t sz enc (some ⟨g, 0, none⟩) (n + m) cap (xs ++ ys) → Mod (fun k => blkOf A = some k) w w' → (blkOf A = some g ∨ g = w.heap.size) → g < w'.heap.size →
      wpList P ops Q rest (a.put o.dst (.slice (some ⟨g, 0, none⟩) (n + m) cap)) w') : wpList P ops Q (o :: rest) a w := by
  obtain ⟨i, z, hi0, hz, hsz, hby, hzs, h0⟩ := hi
  have hml := hy.1
  refine wpList_append_lies w hgd s x ts ho B t i z sz bytes ht hi0 hz hsz hby hzs h0 _ n _ hs hown.2 ⟨g0, o0, none⟩ m cm (ys.flatMap (encL sz enc)) hx (by rw [flat_length, hml]) (hy.flat hm h0) ?_ hm (by unfold maxLen; omega) ?_ hB _ rfl ?_
  · intro u hu
    simp only [List.mem_flatMap, encL, List.mem_map, List.mem_range] at hu
    obtain ⟨y, hy', j, hj, rfl⟩ := hu
    exact h1 y hy' j hj
  · have : (n + m) * bytes ≤ 1000000 * 1000000 := Nat.mul_le_mul (by omega) hbytes
    omega
  · intro g cap w' hown' hg hat hlt
    rw [ownBlock_eq] at hg hat
    refine h g cap w' ⟨by simp [hown.1, hml], by rw [List.flatMap_append]; exact hown'⟩ ?_ hat hlt
    exact (Mod.refl (fun k => blkOf A = some k) w).grown hg (fun k e => .inl e)

end Go.Proofs.YtjmnkdkdjnmejaaGreatDoor
