/- Several texts in one. (1) Routes that a reading builds: rows of the reading's own, the last route's apart from the others'. No conditions. (2) Reading routes, the plain law: a line's words as both sides cut them. No program in sight. No conditions. (3) (*route.reader).need: what it reads. Conditions: a line of modest size; the library's variable on searching is an int. -/
import Derived.Test.YtnbcfpjalgfikaaGreatDoorRtLawGrp
import Derived.Test.YtnbcfpjalgfikaaGreatDoorRow
import Derived.Test.YtnbcfpjalgfikaaGreatDoorTokGrp

namespace Go.Proofs.YtnbcfpjalgfikaaGreatDoor
open Go.RowKit
set_option linter.unusedVariables false
set_option linter.unusedSimpArgs false

theorem flat_setj {α : Type} {sz : Nat} {enc : α → Nat → Value} {y x : α} {j : Nat} (hj : j < sz) (hq : ∀ q, q < sz → q ≠ j → enc y q = enc x q) (pre : List α) :
    ((pre ++ [x]).flatMap (encL sz enc)).set (pre.length * sz + j) (enc y j) = (pre ++ [y]).flatMap (encL sz enc) := by
  rw [List.flatMap_append, List.flatMap_append, List.set_append_right _ _ (by rw [flat_length]; omega), flat_length, Nat.add_sub_cancel_left]
  congr 1
  simp only [List.flatMap_cons, List.flatMap_nil, List.append_nil]
  apply List.ext_getElem?
  intro q
  rw [List.getElem?_set]
  by_cases hqs : q < sz
  · by_cases he : j = q
    · subst he
      simp [encL, hqs]
    · rw [if_neg he]
      simp [encL, hqs, hq q hqs (fun h => he h.symm)]
  · by_cases he : j = q
    · omega
    · rw [if_neg he, List.getElem?_eq_none (by rw [encL_length]; omega), List.getElem?_eq_none (by rw [encL_length]; omega)]
/-- a store of one cell of the last element -/
theorem Own.setj {α : Type} {w : World} {B : Nat} {t : TypeId} {sz : Nat} {enc : α → Nat → Value} {n c g : Nat} {pre : List α} {x : α} (h : Own w B t sz enc (some ⟨g, 0, none⟩) n c (pre ++ [x])) {j : Nat} (hj : j < sz) (y : α) (hq : ∀ q, q < sz → q ≠ j → enc y q = enc x q) :
    Own (w.setCell ⟨g, pre.length * sz + j, none⟩ (enc y j)) B t sz enc (some ⟨g, 0, none⟩) n c (pre ++ [y]) :=
  ⟨by have := h.1; simpa using this, by rw [← flat_setj hj hq pre]; exact (h.2.stored _ _).1⟩

/-- a route whose rows are the reading's own -/
structure RtOwn (w : World) (B : Nat) (x : RA) (r : RtD) : Prop where
  key : x.key = r.key
  path : x.path = r.path
  dest : x.dest = r.dest
  hosts : Own w B 9 1 sEnc x.ha x.hn x.hc r.hosts
  methods : Own w B 9 1 sEnc x.ma x.mn x.mc r.methods
  needs : Own w B 55 2 pairEnc x.na x.nn x.nc r.needs
  apart : ∀ g, blkOf x.ha = some g → blkOf x.ma ≠ some g
def HasB (x : RA) (g : Nat) : Prop := blkOf x.ha = some g ∨ blkOf x.ma = some g ∨ blkOf x.na = some g
theorem Own.cap {α : Type} {w : World} {B : Nat} {t : TypeId} {sz : Nat} {enc : α → Nat → Value} {A : Option Addr} {n c : Nat} {xs : List α} (h : Own w B t sz enc A n c xs) : n ≤ c := by
  rcases Nat.eq_zero_or_pos n with h0 | h0
  · omega
  · exact (h.form h0).choose_spec.2.2.2.1
theorem Own.blk_tb {α : Type} {w : World} {B : Nat} {t : TypeId} {sz : Nat} {enc : α → Nat → Value} {A : Option Addr} {n c : Nat} {xs : List α} (h : Own w B t sz enc A n c xs) {g : Nat} (hg : blkOf A = some g) : B ≤ g ∧ TB w g t := by
  rcases h.blk with ⟨h1, _⟩ | ⟨g', h1, h2, h3⟩
  · rw [h1] at hg; cases hg
  · rw [h1] at hg; injection hg with hg; simp only at hg; subst hg; exact ⟨h2, h3⟩
theorem RtOwn.at {w : World} {B : Nat} {x : RA} {r : RtD} (h : RtOwn w B x r) : RtAt w x r :=
  ⟨h.key, h.path, h.dest, h.hosts.sl, h.methods.sl, h.needs.sl, h.hosts.cap, h.methods.cap, h.needs.cap⟩
theorem RtOwn.mod {S : Nat → Prop} {w w' : World} {B : Nat} {x : RA} {r : RtD} (h : RtOwn w B x r) (hm : Mod S w w') (hs : ∀ g, HasB x g → ¬ S g) : RtOwn w' B x r :=
  ⟨h.key, h.path, h.dest, h.hosts.mod hm (fun g e => hs g (.inl e)), h.methods.mod hm (fun g e => hs g (.inr (.inl e))), h.needs.mod hm (fun g e => hs g (.inr (.inr e))), h.apart⟩
theorem RtOwn.new {w w' : World} {B : Nat} {x : RA} {r : RtD} (h : RtOwn w B x r) (hm : New w w') : RtOwn w' B x r := h.mod hm (fun _ _ e => e)
theorem RtOwn.has {w : World} {B : Nat} {x : RA} {r : RtD} (h : RtOwn w B x r) {g : Nat} (hg : HasB x g) : B ≤ g ∧ (TB w g 9 ∨ TB w g 55) := by
  rcases hg with e | e | e
  · exact ⟨(h.hosts.blk_tb e).1, .inl (h.hosts.blk_tb e).2⟩
  · exact ⟨(h.methods.blk_tb e).1, .inl (h.methods.blk_tb e).2⟩
  · exact ⟨(h.needs.blk_tb e).1, .inr (h.needs.blk_tb e).2⟩
theorem RtOwn.has_lt {w : World} {B : Nat} {x : RA} {r : RtD} (h : RtOwn w B x r) {g : Nat} (hg : HasB x g) : g < w.heap.size := by
  rcases (h.has hg).2 with e | e
  · exact e.lt
  · exact e.lt
theorem RtOwn.has_ne {w : World} {B : Nat} {x : RA} {r : RtD} (h : RtOwn w B x r) {g b : Nat} (hg : HasB x g) {t : TypeId} (hb : TB w b t) (h1 : 9 ≠ t) (h2 : 55 ≠ t) : g ≠ b := by
  rcases (h.has hg).2 with e | e
  · exact e.ne hb h1
  · exact e.ne hb h2

/-- a row of routes whose last one is still growing -/
structure RdX (w : World) (B g n c : Nat) (pre : List RA) (x : RA) (pout : List RtD) (r : RtD) : Prop where
  row : Own w B 44 6 RA.enc (some ⟨g, 0, none⟩) n c (pre ++ [x])
  olds : Al (RtOwn w B) pre pout
  last : RtOwn w B x r
  apart : ∀ y ∈ pre, ∀ g, HasB y g → ¬ HasB x g
/-- the routes read so far -/
def RdRows (w : World) (B : Nat) (A : Option Addr) (n c : Nat) (out : List RtD) : Prop :=
  (A = none ∧ n = 0 ∧ c = 0 ∧ out = []) ∨ ∃ g pre x pout r, A = some ⟨g, 0, none⟩ ∧ out = pout ++ [r] ∧ RdX w B g n c pre x pout r
theorem Al.snoc {α β : Type} {T : α → β → Prop} {xs : List α} {ys : List β} {x : α} {y : β} (h : Al T xs ys) (k : T x y) : Al T (xs ++ [x]) (ys ++ [y]) := h.append (Al.one k)
theorem Al.impM {α β : Type} {T T' : α → β → Prop} : ∀ {xs : List α} {ys : List β}, (∀ x ∈ xs, ∀ y, T x y → T' x y) → Al T xs ys → Al T' xs ys
  | [], [], _, _ => trivial
  | x :: xs, y :: ys, hT, h => ⟨hT x List.mem_cons_self _ h.1, Al.impM (fun z hz => hT z (List.mem_cons_of_mem _ hz)) h.2⟩
  | [], _ :: _, _, h => h.elim
  | _ :: _, [], _, h => h.elim
theorem RdX.tb {w : World} {B g n c : Nat} {pre : List RA} {x : RA} {pout : List RtD} {r : RtD} (h : RdX w B g n c pre x pout r) : B ≤ g ∧ TB w g 44 := h.row.blk_tb rfl
theorem RdX.num {w : World} {B g n c : Nat} {pre : List RA} {x : RA} {pout : List RtD} {r : RtD} (h : RdX w B g n c pre x pout r) : n = pre.length + 1 ∧ pout.length = pre.length := ⟨by have := h.row.1; simp at this; omega, h.olds.len.symm⟩
theorem RdX.mod {S : Nat → Prop} {w w' : World} {B g n c : Nat} {pre : List RA} {x : RA} {pout : List RtD} {r : RtD} (h : RdX w B g n c pre x pout r) (hm : Mod S w w') (hS : ∀ k, B ≤ k → TB w k 9 ∨ TB w k 55 ∨ TB w k 44 → ¬ S k) : RdX w' B g n c pre x pout r :=
  have key : ∀ y z, RtOwn w B y z → RtOwn w' B y z := fun y z q => q.mod hm (fun g e => hS g (q.has e).1 (by rcases (q.has e).2 with e | e; exact .inl e; exact .inr (.inl e)))
  ⟨h.row.mod hm (fun k e => hS k (h.row.blk_tb e).1 (.inr (.inr (h.row.blk_tb e).2))), h.olds.imp key, key _ _ h.last, h.apart⟩
theorem RdRows.mod {S : Nat → Prop} {w w' : World} {B : Nat} {A : Option Addr} {n c : Nat} {out : List RtD} (h : RdRows w B A n c out) (hm : Mod S w w') (hS : ∀ k, B ≤ k → TB w k 9 ∨ TB w k 55 ∨ TB w k 44 → ¬ S k) : RdRows w' B A n c out := by
  rcases h with h | ⟨g, pre, x, pout, r, h1, h2, h3⟩
  · exact .inl h
  · exact .inr ⟨g, pre, x, pout, r, h1, h2, h3.mod hm hS⟩
theorem RdRows.new {w w' : World} {B : Nat} {A : Option Addr} {n c : Nat} {out : List RtD} (h : RdRows w B A n c out) (hm : New w w') : RdRows w' B A n c out := h.mod hm (fun _ _ _ e => e)
theorem RdRows.len {w : World} {B : Nat} {A : Option Addr} {n c : Nat} {out : List RtD} (h : RdRows w B A n c out) : n = out.length := by
  rcases h with ⟨rfl, rfl, rfl, rfl⟩ | ⟨g, pre, x, pout, r, rfl, rfl, h⟩
  · rfl
  · have := h.num; simp; omega
theorem RdRows.rows {w : World} {B : Nat} {A : Option Addr} {n c : Nat} {out : List RtD} (h : RdRows w B A n c out) : RtRows w A n out := by
  rcases h with ⟨rfl, rfl, rfl, rfl⟩ | ⟨g, pre, x, pout, r, rfl, rfl, h⟩
  · exact RtRows.nil w
  · exact ⟨pre ++ [x], h.row.sl, (h.olds.snoc h.last).imp (fun _ _ q => q.at)⟩
/-- what a push of a route wants: the row as one list, all routes own -/
theorem RdRows.own {w : World} {B : Nat} {A : Option Addr} {n c : Nat} {out : List RtD} (h : RdRows w B A n c out) : ∃ xs, Own w B 44 6 RA.enc A n c xs ∧ Al (RtOwn w B) xs out := by
  rcases h with ⟨rfl, rfl, rfl, rfl⟩ | ⟨g, pre, x, pout, r, rfl, rfl, h⟩
  · exact ⟨[], Own.nil, trivial⟩
  · exact ⟨pre ++ [x], h.row, h.olds.snoc h.last⟩
theorem RdRows.push {w w' : World} {B : Nat} {A : Option Addr} {n c : Nat} {out : List RtD} {xs : List RA} (h1 : Own w B 44 6 RA.enc A n c xs) (h2 : Al (RtOwn w B) xs out) {g c' : Nat} {x : RA} {r : RtD}
    (ho : Own w' B 44 6 RA.enc (some ⟨g, 0, none⟩) (n + 1) c' (xs ++ [x])) (hm : Mod (fun k => blkOf A = some k) w w') (hk : x.key = r.key ∧ x.path = r.path ∧ x.dest = r.dest) (hx : x.ha = none ∧ x.hn = 0 ∧ x.hc = 0 ∧ x.ma = none ∧ x.mn = 0 ∧ x.mc = 0 ∧ x.na = none ∧ x.nn = 0 ∧ x.nc = 0) (hr : r.hosts = [] ∧ r.methods = [] ∧ r.needs = []) : RdRows w' B (some ⟨g, 0, none⟩) (n + 1) c' (out ++ [r]) := by
  obtain ⟨k1, k2, k3⟩ := hk
  obtain ⟨x1, x2, x3, x4, x5, x6, x7, x8, x9⟩ := hx
  obtain ⟨r1, r2, r3⟩ := hr
  refine .inr ⟨g, xs, x, out, r, rfl, rfl, ho, ?_, ⟨k1, k2, k3, ?_, ?_, ?_, ?_⟩, ?_⟩
  · refine h2.imp (fun y z q => q.mod hm (fun b hb e => ?_))
    have ht := (h1.blk_tb e).2
    exact q.has_ne hb ht (by decide) (by decide) rfl
  · rw [x1, x2, x3, r1]; exact Own.nil
  · rw [x4, x5, x6, r2]; exact Own.nil
  · rw [x7, x8, x9, r3]; exact Own.nil
  · intro b e; rw [x1] at e; cases e
  · intro y _ b _ e
    rcases e with e | e | e
    · rw [x1] at e; cases e
    · rw [x4] at e; cases e
    · rw [x7] at e; cases e
/-- one of the last route's rows has grown (block b of it, or a new one), and its cell is stored -/
theorem RdX.upd {w w' : World} {B g n c : Nat} {pre : List RA} {x : RA} {pout : List RtD} {r : RtD} (h : RdX w B g n c pre x pout r) {A : Option Addr} (hm : Mod (fun k => blkOf A = some k) w w') (hA : ∀ k, blkOf A = some k → HasB x k)
    {x' : RA} {r' : RtD} {j : Nat} (hj : j < 6) (hl : RtOwn w' B x' r') (hb : ∀ k, HasB x' k → HasB x k ∨ w.heap.size ≤ k) (hq : ∀ q, q < 6 → q ≠ j → x'.enc q = x.enc q) {v : Value} (hv : x'.enc j = v) :
    RdX (w'.setCell ⟨g, pre.length * 6 + j, none⟩ v) B g n c pre x' pout r' := by
  subst hv
  have hg := h.tb
  have hrow : Own w' B 44 6 RA.enc (some ⟨g, 0, none⟩) n c (pre ++ [x]) := h.row.mod hm (fun k e he => by
    injection e with e
    simp only at e
    subst e
    exact h.last.has_ne (hA _ he) hg.2 (by decide) (by decide) rfl)
  have hS : Mod (fun k => k = g) w' (w'.setCell ⟨g, pre.length * 6 + j, none⟩ (x'.enc j)) := Mod.setCell (S := fun k => k = g) (p := ⟨g, pre.length * 6 + j, none⟩) (Mod.refl _ _) (.inl rfl) _
  have htb : TB w' g 44 := (hrow.blk_tb rfl).2
  refine ⟨hrow.setj hj x' hq, ?_, hl.mod hS (fun k e he => hl.has_ne e htb (by decide) (by decide) he), ?_⟩
  · refine Al.impM (fun y hy z q => ?_) h.olds
    have q' := q.mod hm (fun k e he => h.apart y hy k e (hA k he))
    exact q'.mod hS (fun k e he => q'.has_ne e htb (by decide) (by decide) he)
  · intro y hy k e e'
    rcases hb k e' with e2 | e2
    · exact h.apart y hy k e e2
    · obtain ⟨z, hz⟩ : ∃ z, RtOwn w B y z := by
        obtain ⟨i, hi, rfl⟩ := List.mem_iff_getElem.1 hy
        exact ⟨_, h.olds.get i hi (by have := h.olds.len; omega)⟩
      have := hz.has_lt e
      omega
section
variable {w w' : World} {B g n c : Nat} {pre : List RA} {x : RA} {pout : List RtD} {r : RtD}
theorem RdX.host (h : RdX w B g n c pre x pout r) {a : ByteArray} {b c' : Nat} (ho : Own w' B 9 1 sEnc (some ⟨b, 0, none⟩) (x.hn + 1) c' (r.hosts ++ [a])) (hm : Mod (fun k => blkOf x.ha = some k) w w') (hat : blkOf x.ha = some b ∨ b = w.heap.size) :
    RdX (w'.setCell ⟨g, pre.length * 6 + 1, none⟩ (.slice (some ⟨b, 0, none⟩) (x.hn + 1) c')) B g n c pre { x with ha := some ⟨b, 0, none⟩, hn := x.hn + 1, hc := c' } pout { r with hosts := r.hosts ++ [a] } := by
  refine h.upd (x' := { x with ha := some ⟨b, 0, none⟩, hn := x.hn + 1, hc := c' }) (r' := { r with hosts := r.hosts ++ [a] }) (j := 1) hm (fun k e => .inl e) (by decide) ⟨h.last.key, h.last.path, h.last.dest, ho, h.last.methods.mod hm (fun k e e' => h.last.apart k e' e), h.last.needs.mod hm (fun k e e' => ?_), fun k e e' => ?_⟩ (fun k e => ?_) (fun q h1 h2 => ?_) rfl
  · exact (h.last.hosts.blk_tb e').2.ne (h.last.needs.blk_tb e).2 (by decide) rfl
  · injection e with e
    simp only at e
    subst e
    rcases hat with hat | hat
    · exact h.last.apart _ hat e'
    · have := (h.last.methods.blk_tb e').2.lt; omega
  · rcases e with e | e | e
    · injection e with e
      simp only at e
      subst e
      rcases hat with hat | hat
      · exact .inl (.inl hat)
      · exact .inr (by omega)
    · exact .inl (.inr (.inl e))
    · exact .inl (.inr (.inr e))
  · match q, h1, h2 with
    | 0, _, _ => rfl
    | 2, _, _ => rfl
    | 3, _, _ => rfl
    | 4, _, _ => rfl
    | 5, _, _ => rfl
theorem RdX.method (h : RdX w B g n c pre x pout r) {a : ByteArray} {b c' : Nat} (ho : Own w' B 9 1 sEnc (some ⟨b, 0, none⟩) (x.mn + 1) c' (r.methods ++ [a])) (hm : Mod (fun k => blkOf x.ma = some k) w w') (hat : blkOf x.ma = some b ∨ b = w.heap.size) :
    RdX (w'.setCell ⟨g, pre.length * 6 + 3, none⟩ (.slice (some ⟨b, 0, none⟩) (x.mn + 1) c')) B g n c pre { x with ma := some ⟨b, 0, none⟩, mn := x.mn + 1, mc := c' } pout { r with methods := r.methods ++ [a] } := by
  refine h.upd (x' := { x with ma := some ⟨b, 0, none⟩, mn := x.mn + 1, mc := c' }) (r' := { r with methods := r.methods ++ [a] }) (j := 3) hm (fun k e => .inr (.inl e)) (by decide) ⟨h.last.key, h.last.path, h.last.dest, h.last.hosts.mod hm (fun k e e' => h.last.apart k e e'), ho, h.last.needs.mod hm (fun k e e' => ?_), fun k e e' => ?_⟩ (fun k e => ?_) (fun q h1 h2 => ?_) rfl
  · exact (h.last.methods.blk_tb e').2.ne (h.last.needs.blk_tb e).2 (by decide) rfl
  · injection e' with e'
    simp only at e'
    subst e'
    rcases hat with hat | hat
    · exact h.last.apart _ e hat
    · have := (h.last.hosts.blk_tb e).2.lt; omega
  · rcases e with e | e | e
    · exact .inl (.inl e)
    · injection e with e
      simp only at e
      subst e
      rcases hat with hat | hat
      · exact .inl (.inr (.inl hat))
      · exact .inr (by omega)
    · exact .inl (.inr (.inr e))
  · match q, h1, h2 with
    | 0, _, _ => rfl
    | 1, _, _ => rfl
    | 2, _, _ => rfl
    | 4, _, _ => rfl
    | 5, _, _ => rfl
theorem RdX.need (h : RdX w B g n c pre x pout r) {a : PairD} {b c' : Nat} (ho : Own w' B 55 2 pairEnc (some ⟨b, 0, none⟩) (x.nn + 1) c' (r.needs ++ [a])) (hm : Mod (fun k => blkOf x.na = some k) w w') (hat : blkOf x.na = some b ∨ b = w.heap.size) :
    RdX (w'.setCell ⟨g, pre.length * 6 + 4, none⟩ (.slice (some ⟨b, 0, none⟩) (x.nn + 1) c')) B g n c pre { x with na := some ⟨b, 0, none⟩, nn := x.nn + 1, nc := c' } pout { r with needs := r.needs ++ [a] } := by
  refine h.upd (x' := { x with na := some ⟨b, 0, none⟩, nn := x.nn + 1, nc := c' }) (r' := { r with needs := r.needs ++ [a] }) (j := 4) hm (fun k e => .inr (.inr e)) (by decide) ⟨h.last.key, h.last.path, h.last.dest, h.last.hosts.mod hm (fun k e e' => ?_), h.last.methods.mod hm (fun k e e' => ?_), ho, h.last.apart⟩ (fun k e => ?_) (fun q h1 h2 => ?_) rfl
  · exact (h.last.hosts.blk_tb e).2.ne (h.last.needs.blk_tb e').2 (by decide) rfl
  · exact (h.last.methods.blk_tb e).2.ne (h.last.needs.blk_tb e').2 (by decide) rfl
  · rcases e with e | e | e
    · exact .inl (.inl e)
    · exact .inl (.inr (.inl e))
    · injection e with e
      simp only at e
      subst e
      rcases hat with hat | hat
      · exact .inl (.inr (.inr hat))
      · exact .inr (by omega)
  · match q, h1, h2 with
    | 0, _, _ => rfl
    | 1, _, _ => rfl
    | 2, _, _ => rfl
    | 3, _, _ => rfl
    | 5, _, _ => rfl
end
end Go.Proofs.YtnbcfpjalgfikaaGreatDoor

namespace Go.Proofs.YtnbcfpjalgfikaaGreatDoor
open Go.RowKit
set_option linter.unusedVariables false
set_option linter.unusedSimpArgs false

/-- a line's first word -/
def wd (line : ByteArray) : ByteArray := ⟨(cutL 32 line.data.toList).1.toArray⟩
def hasSp (line : ByteArray) : Bool := (cutL 32 line.data.toList).2.2
theorem sp_cases (t : ByteArray) : (hasSp t = false ∧ Lib.indexB t sp = -1 ∧ wd t = t ∧ restW t = ⟨#[]⟩) ∨ ∃ i : Nat, hasSp t = true ∧ Lib.indexB t sp = i ∧ wd t = t.extract 0 i ∧ restW t = t.extract (i + 1) t.size := by
  have e : Lib.cut t.data.toList (sp : ByteArray).data.toList = cutL 32 t.data.toList := cut_eq 32 _
  unfold hasSp wd restW
  rcases Lib.indexB_cases t sp with h | ⟨i, h, hi⟩
  · obtain ⟨q1, q2, q3⟩ := Lib.cutB_miss t sp h
    rw [e] at q1 q2 q3
    exact .inl ⟨q3, h, q1, q2⟩
  · obtain ⟨q1, q2, q3⟩ := Lib.cutB_hit t sp i h
    rw [e] at q1 q2 q3
    exact .inr ⟨i, q3, h, q1, q2⟩
theorem pieces_no {t : ByteArray} (h : hasSp t = false) : pieces t sp = [t] ∧ wd t = t ∧ restW t = ⟨#[]⟩ := by
  rcases sp_cases t with ⟨_, q1, q2, q3⟩ | ⟨i, q, _⟩
  · exact ⟨pieces_miss q1, q2, q3⟩
  · rw [h] at q; cases q
theorem pieces_yes {t : ByteArray} (h : hasSp t = true) : pieces t sp = wd t :: pieces (restW t) sp := by
  rcases sp_cases t with ⟨q, _⟩ | ⟨i, q, q1, q2, q3⟩
  · rw [h] at q; cases q
  · rw [q2, q3]; exact pieces_hit (Nat.le_refl _) q1
theorem split2_no {t : ByteArray} (h : hasSp t = false) (k : Nat) : Lib.splitB sp 0 k t = [t] := by
  rcases sp_cases t with ⟨_, q1, q2, q3⟩ | ⟨i, q, _⟩
  · exact Lib.splitB_miss sp 0 k t q1
  · rw [h] at q; cases q
theorem split2_yes {t : ByteArray} (h : hasSp t = true) (k : Nat) : Lib.splitB sp 0 (k + 1) t = wd t :: Lib.splitB sp 0 k (restW t) := by
  rcases sp_cases t with ⟨q, _⟩ | ⟨i, q, q1, q2, q3⟩
  · rw [h] at q; cases q
  · rw [q2, q3]
    have := Lib.splitB_hit sp 0 k t i q1
    exact this
theorem pieces_head (t : ByteArray) : ∃ r, pieces t sp = wd t :: r := by
  cases h : hasSp t
  · obtain ⟨q1, q2, q3⟩ := pieces_no h
    exact ⟨[], by rw [q1, q2]⟩
  · exact ⟨_, pieces_yes h⟩
theorem pieces_none : pieces ⟨#[]⟩ sp = [⟨#[]⟩] := pieces_miss (by decide +kernel)
/-- the reference's reading of a need's words -/
def needQ : List ByteArray → Option (ByteArray × ByteArray)
  | [_, a] => if a = ⟨#[]⟩ then none else some (a, ⟨#[]⟩)
  | [_, a, b] => if a = ⟨#[]⟩ then none else if b = ⟨#[]⟩ then none else some (a, b)
  | _ => none
theorem needOf_eq (t : ByteArray) : needOf t = if wd t = ⟨#[]⟩ then none else if hasSp t = true ∧ restW t = ⟨#[]⟩ then none else some (wd t, restW t) := by
  unfold needOf
  have e1 : (cutL 32 t.data.toList).1 = [] ↔ wd t = ⟨#[]⟩ := by unfold wd; rw [arr_empty]
  have e2 : (cutL 32 t.data.toList).2.1 = [] ↔ restW t = ⟨#[]⟩ := by unfold restW; rw [arr_empty]
  by_cases h1 : wd t = ⟨#[]⟩
  · rw [if_pos h1, if_pos (.inl (e1.2 h1))]
  · rw [if_neg h1]
    by_cases h2 : hasSp t = true ∧ restW t = ⟨#[]⟩
    · rw [if_pos h2, if_pos (.inr ⟨h2.1, e2.2 h2.2⟩)]
    · rw [if_neg h2, if_neg]
      · rfl
      · rintro (h | h)
        · exact h1 (e1.1 h)
        · exact h2 ⟨h.1, e2.1 h.2⟩
theorem needQ_eq (line : ByteArray) : needQ (Lib.splitB sp 0 2 line) = needOf (restW line) := by
  rw [needOf_eq]
  cases h : hasSp line
  · rw [split2_no h, (pieces_no h).2.2]
    have : wd ⟨#[]⟩ = ⟨#[]⟩ := rfl
    rw [if_pos this]
    rfl
  · rw [split2_yes h]
    generalize restW line = t
    cases h2 : hasSp t
    · obtain ⟨q1, q2, q3⟩ := pieces_no h2
      rw [split2_no h2, q3, q2]
      show (if t = ⟨#[]⟩ then none else some (t, _)) = _
      by_cases e : t = ⟨#[]⟩
      · rw [if_pos e, if_pos e]
      · rw [if_neg e, if_neg e, if_neg (by simp)]
    · rw [split2_yes h2, Lib.splitB_zero]
      show (if wd t = ⟨#[]⟩ then none else if restW t = ⟨#[]⟩ then none else some (wd t, restW t)) = _
      by_cases e : wd t = ⟨#[]⟩
      · rw [if_pos e, if_pos e]
      · rw [if_neg e, if_neg e]
        by_cases e2 : restW t = ⟨#[]⟩
        · rw [if_pos e2, if_pos ⟨rfl, e2⟩]
        · rw [if_neg e2, if_neg (fun q => e2 q.2)]
theorem split2_len (line : ByteArray) : (Lib.splitB sp 0 2 line).length ≤ 3 := by
  cases h : hasSp line
  · rw [split2_no h]; simp
  · rw [split2_yes h]
    cases h2 : hasSp (restW line)
    · rw [split2_no h2]; simp
    · rw [split2_yes h2, Lib.splitB_zero]; simp
theorem split2_ne (line : ByteArray) : Lib.splitB sp 0 2 line ≠ [] := by
  cases h : hasSp line
  · rw [split2_no h]; simp
  · rw [split2_yes h]; simp
def kinds4q : List ByteArray := [⟨#[114, 111, 117, 116, 101]⟩, ⟨#[104, 111, 115, 116]⟩, ⟨#[109, 101, 116, 104, 111, 100]⟩, ⟨#[110, 101, 101, 100]⟩]
def kinds5q : List ByteArray := ⟨#[]⟩ :: kinds4q
theorem kindW_le (b : ByteArray) : kindW b ≤ 4 := by
  unfold kindW
  repeat' split
  all_goals omega
theorem kindW_ref (b : ByteArray) : Lib.idxOfS kinds4q b = (kindW b : Int) - 1 := by
  unfold Lib.idxOfS kinds4q kindW
  simp only [Lib.idxFromS]
  have c : ∀ x : ByteArray, (x = b) = (b = x) := fun x => propext ⟨Eq.symm, Eq.symm⟩
  simp only [c]
  repeat' split
  all_goals rfl
theorem kindW_prog (b : ByteArray) : Lib.idxOfS kinds5q b = if b = ⟨#[]⟩ then 0 else if kindW b = 0 then -1 else (kindW b : Int) := by
  unfold Lib.idxOfS kinds5q kinds4q kindW
  simp only [Lib.idxFromS]
  have c : ∀ x : ByteArray, (x = b) = (b = x) := fun x => propext ⟨Eq.symm, Eq.symm⟩
  simp only [c]
  by_cases h0 : b = ⟨#[]⟩
  · rw [if_pos h0, if_pos h0]; rfl
  rw [if_neg h0, if_neg h0]
  by_cases h1 : b = ⟨#[114, 111, 117, 116, 101]⟩
  · simp only [if_pos h1]; rfl
  by_cases h2 : b = ⟨#[104, 111, 115, 116]⟩
  · simp only [if_neg h1, if_pos h2]; rfl
  by_cases h3 : b = ⟨#[109, 101, 116, 104, 111, 100]⟩
  · simp only [if_neg h1, if_neg h2, if_pos h3]; rfl
  by_cases h4 : b = ⟨#[110, 101, 101, 100]⟩
  · simp only [if_neg h1, if_neg h2, if_neg h3, if_pos h4]; rfl
  simp only [if_neg h1, if_neg h2, if_neg h3, if_neg h4]; rfl
theorem kindW_empty : kindW ⟨#[]⟩ = 0 := by decide +kernel
theorem kindW_zero {b : ByteArray} (h : kindW b = 0) : Lib.idxOfS kinds5q b < 1 := by
  rw [kindW_prog, h]
  split <;> simp
theorem kindW_pos {b : ByteArray} (h : kindW b ≠ 0) : Lib.idxOfS kinds5q b = (kindW b : Int) := by
  rw [kindW_prog, if_neg (fun e => h (by rw [e]; exact kindW_empty)), if_neg h]
theorem kindW_need {b : ByteArray} (h : kindW b = 4) : b = ⟨#[110, 101, 101, 100]⟩ := by
  unfold kindW at h
  repeat' split at h
  all_goals first
    | assumption
    | omega
theorem lineKind_eq (line : ByteArray) : lineKind line = kindW (wd line) := rfl
theorem wd_le (line : ByteArray) : (wd line).size ≤ line.size := by
  rcases sp_cases line with ⟨_, _, q2, _⟩ | ⟨i, _, _, q2, _⟩
  · rw [q2]; exact Nat.le_refl _
  · rw [q2]; simp only [ByteArray.size_extract]; omega
theorem restW_le (line : ByteArray) : (restW line).size ≤ line.size := by
  rcases sp_cases line with ⟨_, _, _, q2⟩ | ⟨i, _, _, _, q2⟩
  · rw [q2]; exact Nat.zero_le _
  · rw [q2]; simp only [ByteArray.size_extract]; omega
/-- what a line does, as the reference asks it -/
theorem stepR_bad {s : RdS} {line : ByteArray} (h : kindOk s (lineKind line) = false) : stepR s line = none := by
  unfold stepR; rw [if_pos h]
theorem stepR_need {s : RdS} {line : ByteArray} (h : kindOk s (lineKind line) = true) (h4 : lineKind line = 4) : stepR s line = (needOf (restW line)).map fun p => ⟨onLast (fun r => { r with needs := r.needs ++ [p] }) s.out, 4⟩ := by
  unfold stepR; rw [if_neg (by rw [h]; simp), if_pos h4]
theorem stepR_words {s : RdS} {line : ByteArray} (h : kindOk s (lineKind line) = true) (h4 : lineKind line ≠ 4) : stepR s line = if Lib.containsS (pieces (restW line) sp) ⟨#[]⟩ then none else stepW s (lineKind line) (pieces (restW line) sp) := by
  unfold stepR; rw [if_neg (by rw [h]; simp), if_neg h4]
/-- the reference looks at all words -/
def stepQ (s : RdS) (k : Nat) : List ByteArray → Option RdS
  | _ :: ws => stepW s k ws
  | [] => none
theorem containsS_cons (x : ByteArray) (l : List ByteArray) (y : ByteArray) : Lib.containsS (x :: l) y = (decide (y = x) || Lib.containsS l y) := by
  rw [Bool.eq_iff_iff, Lib.containsS_iff]
  simp [Lib.containsS_iff]
theorem stepR_all {s : RdS} {line : ByteArray} (h : kindOk s (lineKind line) = true) (h4 : lineKind line ≠ 4) : stepR s line = if Lib.containsS (pieces line sp) ⟨#[]⟩ then none else stepQ s (lineKind line) (pieces line sp) := by
  rw [stepR_words h h4]
  have hk : lineKind line ≠ 0 := by unfold kindOk at h; simp at h; exact h.1
  have hw : ¬ (⟨#[]⟩ : ByteArray) = wd line := fun e => hk (by rw [lineKind_eq, ← e]; exact kindW_empty)
  cases hs : hasSp line
  · obtain ⟨q1, q2, q3⟩ := pieces_no hs
    rw [q1, q3, pieces_none]
    have e1 : Lib.containsS [(⟨#[]⟩ : ByteArray)] ⟨#[]⟩ = true := by decide +kernel
    rw [e1, if_pos rfl]
    split
    · rfl
    · rfl
  · rw [pieces_yes hs, containsS_cons, decide_eq_false hw, Bool.false_or]
    rfl
/-- sizes while reading -/
structure RtTiny (m : Nat) (r : RtD) : Prop where
  key : r.key.size ≤ 9000
  path : r.path.size ≤ 9000
  dest : r.dest.size ≤ 9000
  hosts : r.hosts.length ≤ m ∧ ∀ h ∈ r.hosts, h.size ≤ 9000
  methods : r.methods.length ≤ m ∧ ∀ h ∈ r.methods, h.size ≤ 9000
  needs : r.needs.length ≤ m ∧ ∀ p ∈ r.needs, p.1.size ≤ 9000 ∧ p.2.size ≤ 9000
structure RdSmall (m : Nat) (s : RdS) : Prop where
  out : s.out.length ≤ m
  each : ∀ r ∈ s.out, RtTiny m r
  kind : s.kind ≤ 4
  zero : s.kind = 0 ↔ s.out = []
theorem RtTiny.more {m : Nat} {r : RtD} (h : RtTiny m r) : RtTiny (m + 1) r :=
  ⟨h.key, h.path, h.dest, ⟨Nat.le_succ_of_le h.hosts.1, h.hosts.2⟩, ⟨Nat.le_succ_of_le h.methods.1, h.methods.2⟩, ⟨Nat.le_succ_of_le h.needs.1, h.needs.2⟩⟩
theorem RdSmall.nil : RdSmall 0 ⟨[], 0⟩ := ⟨Nat.le_refl _, (fun r h => by cases h), Nat.zero_le _, by simp⟩
theorem onLast_mem {f : RtD → RtD} : ∀ {l : List RtD} {r : RtD}, r ∈ onLast f l → r ∈ l ∨ ∃ q ∈ l, r = f q
  | [], r, h => by cases h
  | [q], r, h => by
    simp only [onLast, List.mem_singleton] at h
    exact .inr ⟨q, List.mem_singleton.2 rfl, h⟩
  | q :: p :: l, r, h => by
    rcases List.mem_cons.1 (show r ∈ q :: onLast f (p :: l) from h) with h | h
    · exact .inl (h ▸ List.mem_cons_self)
    · rcases onLast_mem h with h | ⟨z, hz, e⟩
      · exact .inl (List.mem_cons_of_mem _ h)
      · exact .inr ⟨z, List.mem_cons_of_mem _ hz, e⟩
theorem onLast_len (f : RtD → RtD) : ∀ l : List RtD, (onLast f l).length = l.length
  | [] => rfl
  | [q] => rfl
  | q :: p :: l => by
    have := onLast_len f (p :: l)
    show (q :: onLast f (p :: l)).length = _
    simp only [List.length_cons] at this ⊢
    omega
theorem RdSmall.last {m : Nat} {s : RdS} (h : RdSmall m s) {f : RtD → RtD} {k : Nat} (hf : ∀ r, RtTiny m r → RtTiny (m + 1) (f r)) (hk : 1 ≤ k ∧ k ≤ 4) (h0 : s.kind ≠ 0) : RdSmall (m + 1) ⟨onLast f s.out, k⟩ := by
  have hne : s.out ≠ [] := fun e => h0 (h.zero.2 e)
  refine ⟨by rw [onLast_len]; exact Nat.le_succ_of_le h.out, fun r hr => ?_, hk.2, ⟨fun e => by simp only at e; omega, fun e => ?_⟩⟩
  · rcases onLast_mem hr with h1 | ⟨q, hq, rfl⟩
    · exact (h.each r h1).more
    · exact hf q (h.each q hq)
  · have := onLast_len f s.out
    simp only at e
    rw [e] at this
    cases ho : s.out with
    | nil => exact absurd ho hne
    | cons _ _ => rw [ho] at this; simp at this
theorem all_snoc {α : Type} {p : α → Prop} {l : List α} {a : α} (h : ∀ x ∈ l, p x) (ha : p a) : ∀ x ∈ l ++ [a], p x := fun x hx => by
  rcases List.mem_append.1 hx with h1 | h1
  · exact h x h1
  · rw [List.mem_singleton.1 h1]; exact ha
theorem RdSmall.push {m : Nat} {s : RdS} (h : RdSmall m s) {r : RtD} (hr : RtTiny (m + 1) r) : RdSmall (m + 1) ⟨s.out ++ [r], 1⟩ := by
  refine ⟨by have := h.out; simp; omega, all_snoc (fun x hx => (h.each x hx).more) hr, (show 1 ≤ 4 by omega), by simp⟩
theorem kindOk_parts {s : RdS} {k : Nat} (h : kindOk s k = true) : k ≠ 0 ∧ (k ≠ 1 → s.kind ≤ k ∧ s.kind ≠ 0) := by
  unfold kindOk at h
  simp only [Bool.and_eq_true, Bool.or_eq_true, decide_eq_true_eq] at h
  refine ⟨h.1, fun h1 => ?_⟩
  rcases h.2 with h2 | h2
  · exact absurd h2 h1
  · exact h2
theorem RdSmall.step {m : Nat} {s s' : RdS} (h : RdSmall m s) {line : ByteArray} (hl : line.size ≤ 9000) (hs : stepR s line = some s') : RdSmall (m + 1) s' := by
  have hrl := restW_le line
  cases hk : kindOk s (lineKind line)
  · rw [stepR_bad hk] at hs; cases hs
  have hkk := kindOk_parts hk
  by_cases h4 : lineKind line = 4
  · have h0 : s.kind ≠ 0 := (hkk.2 (by omega)).2
    rw [stepR_need hk h4, needOf_eq] at hs
    split at hs
    · cases hs
    · split at hs
      · cases hs
      · simp only [Option.map_some] at hs
        injection hs with hs
        subst hs
        refine h.last (fun r q => ⟨q.key, q.path, q.dest, q.more.hosts, q.more.methods, by have := q.needs.1; simp; omega, all_snoc q.needs.2 ?_⟩) (by decide) h0
        have h1 := wd_le (restW line)
        have h2 := restW_le (restW line)
        exact ⟨by show (wd (restW line)).size ≤ 9000; omega, by show (restW (restW line)).size ≤ 9000; omega⟩
  · rw [stepR_words hk h4] at hs
    split at hs
    · cases hs
    · have hle : ∀ x ∈ pieces (restW line) sp, x.size ≤ 9000 := fun x hx => Nat.le_trans (pieces_le hx) (by omega)
      unfold stepW at hs
      split at hs
      · next a e =>
        have ha : a.size ≤ 9000 := hle a (by rw [e]; simp)
        split at hs
        · next h2 =>
          injection hs with hs
          subst hs
          exact h.last (fun r q => ⟨q.key, q.path, q.dest, ⟨by have := q.hosts.1; simp; omega, all_snoc q.hosts.2 ha⟩, q.more.methods, q.more.needs⟩) (by decide) (hkk.2 (by omega)).2
        · split at hs
          · next h3 =>
            injection hs with hs
            subst hs
            exact h.last (fun r q => ⟨q.key, q.path, q.dest, q.more.hosts, ⟨by have := q.methods.1; simp; omega, all_snoc q.methods.2 ha⟩, q.more.needs⟩) (by decide) (hkk.2 (by omega)).2
          · cases hs
      · next a b e =>
        split at hs
        · injection hs with hs
          subst hs
          refine h.push ⟨hle a (by rw [e]; simp), hle b (by rw [e]; simp), Nat.zero_le _, ⟨Nat.zero_le _, fun x hx => by cases hx⟩, ⟨Nat.zero_le _, fun x hx => by cases hx⟩, ⟨Nat.zero_le _, fun x hx => by cases hx⟩⟩
        · cases hs
      · next a b c e =>
        split at hs
        · injection hs with hs
          subst hs
          refine h.push ⟨hle a (by rw [e]; simp), hle b (by rw [e]; simp), hle c (by rw [e]; simp), ⟨Nat.zero_le _, fun x hx => by cases hx⟩, ⟨Nat.zero_le _, fun x hx => by cases hx⟩, ⟨Nat.zero_le _, fun x hx => by cases hx⟩⟩
        · cases hs
      · cases hs
theorem RdSmall.short {m : Nat} {s : RdS} (h : RdSmall m s) (hm : m ≤ 100000) : ∀ r ∈ s.out, r.key.size ≤ 200000 ∧ r.path.size ≤ 100000 ∧ r.dest.size ≤ 100000 ∧ (r.hosts.length ≤ 200000 ∧ ∀ h ∈ r.hosts, h.size ≤ 200000) ∧ (r.methods.length ≤ 200000 ∧ ∀ h ∈ r.methods, h.size ≤ 200000) ∧ (r.needs.length ≤ 200000 ∧ ∀ p ∈ r.needs, p.1.size ≤ 200000 ∧ p.2.size ≤ 200000) := fun r hr => by
  have q := h.each r hr
  refine ⟨by have := q.key; omega, by have := q.path; omega, by have := q.dest; omega, ⟨by have := q.hosts.1; omega, fun x hx => by have := q.hosts.2 x hx; omega⟩, ⟨by have := q.methods.1; omega, fun x hx => by have := q.methods.2 x hx; omega⟩, ⟨by have := q.needs.1; omega, fun x hx => by have := q.needs.2 x hx; omega⟩⟩
end Go.Proofs.YtnbcfpjalgfikaaGreatDoor

namespace Go.Proofs.YtnbcfpjalgfikaaGreatDoor
open Go.RowKit
set_option linter.unusedVariables false
set_option linter.unusedSimpArgs false

/-- a reader in block rb: the routes read so far, and the last line's kind -/
def RdAt (w : World) (B rb : Nat) (s : RdS) : Prop := B ≤ rb ∧ ∃ A n c, Blk w rb 66 #[.slice A n c, .int .i64 s.kind] ∧ RdRows w B A n c s.out
theorem RdAt.new {w w' : World} {B rb : Nat} {s : RdS} (h : RdAt w B rb s) (hm : New w w') : RdAt w' B rb s := by
  obtain ⟨h1, A, n, c, h2, h3⟩ := h
  exact ⟨h1, A, n, c, h2.mod hm (fun e => e), h3.new hm⟩
theorem RdRows.last {w : World} {B : Nat} {A : Option Addr} {n c : Nat} {out : List RtD} (h : RdRows w B A n c out) (h0 : out ≠ []) : ∃ g pre x pout r, A = some ⟨g, 0, none⟩ ∧ out = pout ++ [r] ∧ RdX w B g n c pre x pout r := by
  rcases h with ⟨_, _, _, rfl⟩ | h
  · exact absurd rfl h0
  · exact h
/-- the cells of the last route -/
theorem RdX.cell {w : World} {B g n c : Nat} {pre : List RA} {x : RA} {pout : List RtD} {r : RtD} (h : RdX w B g n c pre x pout r) {j : Nat} (hj : j < 6) : w.cell? ⟨g, pre.length * 6 + j, none⟩ = some (x.enc j) := by
  have hn := h.num.1
  obtain ⟨g', o, hA, _, hc⟩ := h.row.sl.2 (by omega)
  injection hA with hA
  injection hA with h1 h2
  subst h1 h2
  have := hc pre.length (by simp) j hj
  simpa using this
theorem needOf_some (t : ByteArray) : (needOf t).isSome = (!(wd t).toList.isEmpty && (!hasSp t || !(restW t).toList.isEmpty)) := by
  have q : ∀ z : ByteArray, z.toList.isEmpty = decide (z = ⟨#[]⟩) := fun z => by
    rw [← str_nil, Bool.eq_iff_iff]
    simp
  rw [needOf_eq, q, q]
  by_cases h1 : wd t = ⟨#[]⟩
  · simp [h1]
  · cases h2 : hasSp t
    · simp [h1]
    · by_cases h3 : restW t = ⟨#[]⟩
      · simp [h1, h3]
      · simp [h1, h3]
theorem needOf_val {t : ByteArray} {p : ByteArray × ByteArray} (h : needOf t = some p) : p = (wd t, restW t) := by
  rw [needOf_eq] at h
  split at h
  · cases h
  · split at h
    · cases h
    · injection h with h; exact h.symm

def RNeed (t : ByteArray) (B rb : Nat) (out : List RtD) (w : World) (e : Ending) (w' : World) : Prop :=
  e = .returned (.bool (needOf t).isSome) ∧ Mod (fun k => B ≤ k) w w' ∧ ∀ p, needOf t = some p → RdAt w' B rb ⟨onLast (fun r => { r with needs := r.needs ++ [p] }) out, 4⟩
set_option maxRecDepth 100000 in
set_option maxHeartbeats 1000000 in
theorem rd_need (t : ByteArray) (B rb : Nat) (out : List RtD) (w : World) (h : RdAt w B rb ⟨out, 4⟩) (h0 : out ≠ []) (hz : ∀ r ∈ out, r.needs.length ≤ 100000) (hol : out.length ≤ 100000) (hB : B ≤ w.heap.size) (hs : t.size ≤ 900000) (hx : MaxLn w) :
    Calls Tryz.prog 59 #[.pointer (some ⟨rb, 0, none⟩), .string t] w (RNeed t B rb out w) := by
  obtain ⟨hBr, A, n, c, hb, hr⟩ := h
  obtain ⟨g, pre, x, pout, r, rfl, rfl, hX⟩ := hr.last h0
  have hcut := cut_at t 32 w (by omega) hx
  have HEND : Hid (∀ (b : Bool) w', b = (!(wd t).toList.isEmpty && (!hasSp t || !(restW t).toList.isEmpty)) → Mod (fun k => B ≤ k) w w' → RdAt w' B rb ⟨pout ++ [{ r with needs := r.needs ++ [(wd t, restW t)] }], 4⟩ → RNeed t B rb (pout ++ [r]) w (.returned (.bool b)) w') := Lib.hid (fun b w' hb hm hq => ⟨by rw [needOf_some, hb], hm, fun p hp => by
    rw [needOf_val hp, onLast_snoc]
    exact hq⟩)
  have hnn : x.nn ≤ 100000 := by have := hX.last.needs.1; have := hz r (by simp); omega
  obtain ⟨hn1, hn2⟩ := hX.num
  have hpl : pre.length ≤ 100000 := by simp at hol; omega
  have e1 : (⟨(cutL 32 t.data.toList).1.toArray⟩ : ByteArray) = wd t := rfl
  have e2 : (⟨(cutL 32 t.data.toList).2.1.toArray⟩ : ByteArray) = restW t := rfl
  have e3 : (cutL 32 t.data.toList).2.2 = hasSp t := rfl
  rw [e1, e2, e3] at hcut
  clear e1 e2 e3 hx hr hz hol hs
  generalize wd t = name at *
  generalize restW t = v at *
  generalize hasSp t = has at *
  have HX := Lib.hid hX
  have HB := Lib.hid hb
  clear hX hb
  go_enter Tryz.func59, Tryz.ntmps59
  go_wp2_with fail
  refine hcut.mono ?_
  clear hcut
  rintro e w1 ⟨rfl, m1⟩
  have HX1 := Lib.hid (HX.out.mod m1 (fun _ _ _ e => e))
  have HB1 := Lib.hid (HB.out.mod m1 (fun e => e))
  have HM1 := Lib.hid (Mod.mono (T := fun k => B ≤ k) m1 (fun _ _ e => e.elim))
  have hB1 : B ≤ w1.heap.size := by have := m1.size; omega
  clear m1 HX HB
  have c0 := HB1.out.cell 0
  have cl := HB1.out.lt
  simp only [List.getElem?_toArray, List.getElem?_cons_zero, List.getElem?_cons_succ] at c0
  have i1 : (0 : Int) ≤ (n : Int) - 1 := by omega
  have i2 : (n : Int) - 1 < n := by omega
  go_wp2_with fail
  go_quiet (fail)
  rename_i nq
  have mq : New w1 (w1.drewN nq) := (Mod.refl _ _).drewN nq
  have HX2 := Lib.hid (HX1.out.mod mq (fun _ _ _ e => e))
  have HB2 := Lib.hid (HB1.out.mod mq (fun e => e))
  have HM2 := Lib.hid (HM1.out.trans (Mod.mono (T := fun k => B ≤ k) mq (fun _ _ e => e.elim)))
  have hB2 : B ≤ (w1.drewN nq).heap.size := by have := mq.size; omega
  clear mq HX1 HB1 HM1 c0 cl hB1
  generalize w1.drewN nq = w2 at *
  have HXC : Hid (∀ W, RdX W B g n c pre x pout r → W.cell? ⟨g, pre.length * 6 + 4, none⟩ = some (.slice x.na x.nn x.nc) ∧ W.frozen? ⟨g, pre.length * 6 + 4, none⟩ = false ∧ g < W.heap.size) := Lib.hid (fun W h => ⟨h.cell (j := 4) (by decide), h.row.frozen _, h.tb.2.lt⟩)
  obtain ⟨q4, qf, ql⟩ := HXC.out _ HX2.out
  have mA : New w2 (w2.alloc (.cells #[.string name, .string v] 55)) := (Mod.refl _ _).alloc _
  have HXA := Lib.hid (HX2.out.mod mA (fun _ _ _ e => e))
  have HBA := Lib.hid (HB2.out.mod mA (fun e => e))
  have HMA := Lib.hid (HM2.out.trans (Mod.mono (T := fun k => B ≤ k) mA (fun _ _ e => e.elim)))
  have blkA : Blk (w2.alloc (.cells #[.string name, .string v] 55)) w2.heap.size 55 (encL 2 pairEnc (name, v)).toArray := Blk.new _ _ _
  have ownA := HXA.out.last.needs
  have HZZ : Hid (B ≤ (w2.alloc (.cells #[.string name, .string v] 55)).heap.size) := Lib.hid (by simp; omega)
  have HAB : Hid (∀ k, blkOf x.na = some k → B ≤ k) := Lib.hid (fun k e => (ownA.blk_tb e).1)
  have HW9 : Hid (∀ W, Mod (fun k => blkOf x.na = some k) (w2.alloc (.cells #[.string name, .string v] 55)) W → W.cell? ⟨g, pre.length * 6 + 4, none⟩ = some (.slice x.na x.nn x.nc) ∧ W.frozen? ⟨g, pre.length * 6 + 4, none⟩ = false ∧ g < W.heap.size) := Lib.hid (fun W h => by
    obtain ⟨a1, a2, a3⟩ := HXC.out _ HXA.out
    have hne : ¬ blkOf x.na = some g := fun e => (HXA.out.last.needs.blk_tb e).2.ne HXA.out.tb.2 (by decide) rfl
    exact ⟨(h.cell (p := ⟨g, pre.length * 6 + 4, none⟩) a3 hne).trans a1, (h.frozen (p := ⟨g, pre.length * 6 + 4, none⟩) a3 hne).trans a2, Nat.lt_of_lt_of_le a3 h.size⟩)
  have HB9 : Hid (∀ W, Mod (fun k => blkOf x.na = some k) (w2.alloc (.cells #[.string name, .string v] 55)) W → Blk W rb 66 #[.slice (some ⟨g, 0, none⟩) n c, .int .i64 4]) := Lib.hid (fun W h => HBA.out.mod h (fun e => (HXA.out.last.needs.blk_tb e).2.ne HBA.out.tb (by decide) rfl))
  clear mA HX2 HB2 HM2
  go_wp2_with (at_builtin; refine wpList_push rfl _ _ _ rfl 32 Tryz.underlying42 einfo_pair rfl ownA (name, v) w2.heap.size rfl blkA (fun j hj => pairEnc_one _ j hj) (by omega) (by omega) HZZ.out ?_; intro g9 cap9 w9 own9 hm9 hat9 hlt9; obtain ⟨d4, df, dl⟩ := HW9.out _ hm9)
  all_goals
    have hXf := HXA.out.need (a := (name, v)) own9 hm9 hat9
    have hgB := HXA.out.tb.1
    have hBf := (HB9.out _ hm9).mod (Mod.setCell (S := fun k => k = g) (p := ⟨g, pre.length * 6 + 4, none⟩) (Mod.refl _ w9) (.inl rfl) (.slice (some ⟨g9, 0, none⟩) (x.nn + 1) cap9)) (HBA.out.tb.ne HXA.out.tb.2 (by decide))
    have hMf := Mod.setCell (p := ⟨g, pre.length * 6 + 4, none⟩) (HMA.out.step hm9 (fun i hi e => HAB.out i e)) (.inl hgB) (.slice (some ⟨g9, 0, none⟩) (x.nn + 1) cap9)
    go_ret
    refine HEND.out _ _ (by simp [*]) hMf ⟨hBr, some ⟨g, 0, none⟩, n, c, hBf, .inr ⟨g, pre, _, pout, _, rfl, rfl, hXf⟩⟩
end Go.Proofs.YtnbcfpjalgfikaaGreatDoor
