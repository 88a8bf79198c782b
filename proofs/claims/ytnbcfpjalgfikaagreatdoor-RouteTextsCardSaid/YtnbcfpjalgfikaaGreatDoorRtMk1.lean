/- Makers of routes: a route being filled in memory; literals of rows. No conditions. -/
import Derived.Test.YtnbcfpjalgfikaaGreatDoorStream
import Derived.Test.YtnbcfpjalgfikaaGreatDoorTxLawGrp
namespace Go.Proofs.YtnbcfpjalgfikaaGreatDoor
open Go.RowKit
set_option linter.unusedVariables false
set_option linter.unusedSimpArgs false

/-- routes as small as the makers' -/
structure RtMini (r : RtD) : Prop where
  key : r.key.size ≤ 10
  path : r.path.size ≤ 300
  dest : r.dest.size ≤ 300
  hosts : r.hosts.length ≤ 3 ∧ ∀ h ∈ r.hosts, h.size ≤ 30
  methods : r.methods.length ≤ 3 ∧ ∀ h ∈ r.methods, h.size ≤ 30
  needs : r.needs.length ≤ 3 ∧ ∀ p ∈ r.needs, p.1.size ≤ 30 ∧ p.2.size ≤ 30
theorem RtMini.short {r : RtD} (h : RtMini r) : RtShort r :=
  ⟨by have := h.key; omega, by have := h.path; omega, by have := h.dest; omega, ⟨by have := h.hosts.1; omega, fun x hx => by have := h.hosts.2 x hx; omega⟩, ⟨by have := h.methods.1; omega, fun x hx => by have := h.methods.2 x hx; omega⟩, ⟨by have := h.needs.1; omega, fun x hx => by have := h.needs.2 x hx; omega⟩⟩
theorem Blk.keepA {w : World} {g : Nat} {t : TypeId} {cs : Array Value} (h : Blk w g t cs) (o : Obj) : Blk (w.alloc o) g t cs := h.mod ((Mod.refl (fun _ => False) _).alloc o) (fun e => e)
/-- a literal's blocks: rows, and the row of rows behind them -/
structure Lit4 (w W : World) (t t' : TypeId) (c0 c1 c2 c3 : Array Value) : Prop where
  b0 : Blk W w.heap.size t c0
  b1 : Blk W (w.heap.size + 1) t c1
  b2 : Blk W (w.heap.size + 1 + 1) t c2
  b3 : Blk W (w.heap.size + 1 + 1 + 1) t' c3
  new : New w W
  size : W.heap.size = w.heap.size + 4
theorem lit4 (w : World) (t t' : TypeId) (c0 c1 c2 c3 : Array Value) : Lit4 w ((((w.alloc (.cells c0 t)).alloc (.cells c1 t)).alloc (.cells c2 t)).alloc (.cells c3 t')) t t' c0 c1 c2 c3 :=
  ⟨(((Blk.new w t c0).keepA _).keepA _).keepA _, ((Blk.new' t c1 (by simp)).keepA _).keepA _, (Blk.new' t c2 (by simp)).keepA _, Blk.new' t' c3 (by simp), ((((Mod.refl _ _).alloc _).alloc _).alloc _).alloc _, by simp⟩
structure Lit5 (w W : World) (t t' : TypeId) (c0 c1 c2 c3 c4 : Array Value) : Prop where
  b0 : Blk W w.heap.size t c0
  b1 : Blk W (w.heap.size + 1) t c1
  b2 : Blk W (w.heap.size + 1 + 1) t c2
  b3 : Blk W (w.heap.size + 1 + 1 + 1) t c3
  b4 : Blk W (w.heap.size + 1 + 1 + 1 + 1) t' c4
  new : New w W
  size : W.heap.size = w.heap.size + 5
theorem lit5 (w : World) (t t' : TypeId) (c0 c1 c2 c3 c4 : Array Value) : Lit5 w (((((w.alloc (.cells c0 t)).alloc (.cells c1 t)).alloc (.cells c2 t)).alloc (.cells c3 t)).alloc (.cells c4 t')) t t' c0 c1 c2 c3 c4 :=
  ⟨((((Blk.new w t c0).keepA _).keepA _).keepA _).keepA _, (((Blk.new' t c1 (by simp)).keepA _).keepA _).keepA _, ((Blk.new' t c2 (by simp)).keepA _).keepA _, (Blk.new' t c3 (by simp)).keepA _, Blk.new' t' c4 (by simp), (((((Mod.refl _ _).alloc _).alloc _).alloc _).alloc _).alloc _, by simp⟩
structure Lit7 (w W : World) (t t' : TypeId) (c0 c1 c2 c3 c4 c5 c6 : Array Value) : Prop where
  b0 : Blk W w.heap.size t c0
  b1 : Blk W (w.heap.size + 1) t c1
  b2 : Blk W (w.heap.size + 1 + 1) t c2
  b3 : Blk W (w.heap.size + 1 + 1 + 1) t c3
  b4 : Blk W (w.heap.size + 1 + 1 + 1 + 1) t c4
  b5 : Blk W (w.heap.size + 1 + 1 + 1 + 1 + 1) t c5
  b6 : Blk W (w.heap.size + 1 + 1 + 1 + 1 + 1 + 1) t' c6
  new : New w W
  size : W.heap.size = w.heap.size + 7
theorem lit7 (w : World) (t t' : TypeId) (c0 c1 c2 c3 c4 c5 c6 : Array Value) : Lit7 w (((((((w.alloc (.cells c0 t)).alloc (.cells c1 t)).alloc (.cells c2 t)).alloc (.cells c3 t)).alloc (.cells c4 t)).alloc (.cells c5 t)).alloc (.cells c6 t')) t t' c0 c1 c2 c3 c4 c5 c6 :=
  ⟨((((((Blk.new w t c0).keepA _).keepA _).keepA _).keepA _).keepA _).keepA _, (((((Blk.new' t c1 (by simp)).keepA _).keepA _).keepA _).keepA _).keepA _, ((((Blk.new' t c2 (by simp)).keepA _).keepA _).keepA _).keepA _, (((Blk.new' t c3 (by simp)).keepA _).keepA _).keepA _, ((Blk.new' t c4 (by simp)).keepA _).keepA _, (Blk.new' t c5 (by simp)).keepA _, Blk.new' t' c6 (by simp), (((((((Mod.refl _ _).alloc _).alloc _).alloc _).alloc _).alloc _).alloc _).alloc _, by simp⟩
/-- a block of strings reads as a row of strings -/
theorem strs_row {w : World} {g : Nat} {ws : List ByteArray} (h : Blk w g 9 (ws.map Value.string).toArray) : SSl1 w (some ⟨g, 0, none⟩) ws.length ws :=
  Sl.of_blk h rfl (fun i hi j hj => by
    obtain rfl : j = 0 := by omega
    simp [sEnc, hi])
theorem pairs_row {w : World} {g : Nat} {ps : List PairD} (h : Blk w g 55 (ps.flatMap (encL 2 pairEnc)).toArray) : QSl w (some ⟨g, 0, none⟩) ps.length ps :=
  Sl.of_blk h rfl (fun i hi j hj => by
    have := flat_get 2 pairEnc ps i hi j hj
    simpa using this)
/-- a route in block xb that is being filled -/
structure RtIn (w : World) (xb : Nat) (x : RA) (r : RtD) : Prop where
  blk : Blk w xb 44 #[.string x.key, .slice x.ha x.hn x.hc, .string x.path, .slice x.ma x.mn x.mc, .slice x.na x.nn x.nc, .string x.dest]
  at' : RtAt w x r
  mini : RtMini r
theorem SInv.tbS {b k : Nat} {w : World} (h : SInv b w k) : TB w b 25 := by
  obtain ⟨A, l, c, q, z, hb, _⟩ := h
  exact Blk.tb hb
theorem RtAt.stream {b k k' : Nat} {w w' : World} {x : RA} {r : RtD} (h : RtAt w x r) (hs : SInv b w k) (hm : SStep b w w' k') : RtAt w' x r :=
  h.mod hm.only (fun g hg e => by
    rcases hg with hg | hg | hg
    · exact hg.ne hs.tbS (by decide) e
    · exact hg.ne hs.tbS (by decide) e
    · exact hg.ne hs.tbS (by decide) e)
theorem RtIn.stream {b k k' : Nat} {w w' : World} {xb : Nat} {x : RA} {r : RtD} (h : RtIn w xb x r) (hs : SInv b w k) (hm : SStep b w w' k') : RtIn w' xb x r :=
  ⟨h.blk.mod hm.only (h.blk.tb.ne hs.tbS (by decide)), h.at'.stream hs hm, h.mini⟩
theorem RtIn.new {w w' : World} {xb : Nat} {x : RA} {r : RtD} (h : RtIn w xb x r) (hm : New w w') : RtIn w' xb x r :=
  ⟨h.blk.mod hm (fun e => e), h.at'.new hm, h.mini⟩
theorem RtIn.upd {w : World} {xb : Nat} {x : RA} {r : RtD} (h : RtIn w xb x r) (j : Nat) (v : Value) {x' : RA} {r' : RtD} (ha : RtAt w x' r') (hr : RtMini r')
    (hc : (#[.string x.key, .slice x.ha x.hn x.hc, .string x.path, .slice x.ma x.mn x.mc, .slice x.na x.nn x.nc, .string x.dest] : Array Value).setIfInBounds j v = #[.string x'.key, .slice x'.ha x'.hn x'.hc, .string x'.path, .slice x'.ma x'.mn x'.mc, .slice x'.na x'.nn x'.nc, .string x'.dest]) : RtIn (w.setCell ⟨xb, j, none⟩ v) xb x' r' := by
  have hs : Mod (fun k => k = xb) w (w.setCell ⟨xb, j, none⟩ v) := Mod.setCell (S := fun k => k = xb) (p := ⟨xb, j, none⟩) (Mod.refl _ _) (.inl rfl) _
  have ht := h.blk.tb
  refine ⟨by rw [← hc]; exact h.blk.set j v, ?_, hr⟩
  refine ⟨ha.key, ha.path, ha.dest, ha.hosts.mod hs (fun g hg e => hg.ne ht (by decide) e), ha.methods.mod hs (fun g hg e => hg.ne ht (by decide) e), ha.needs.mod hs (fun g hg e => hg.ne ht (by decide) e), ha.hcap, ha.mcap, ha.ncap⟩
section
variable {w : World} {xb : Nat} {x : RA} {r : RtD}
theorem RtIn.hosts (h : RtIn w xb x r) {A : Option Addr} {n c : Nat} {l : List ByteArray} (ha : SSl1 w A n l) (hc : n ≤ c) (hl : l.length ≤ 3 ∧ ∀ s ∈ l, s.size ≤ 30) : RtIn (w.setCell ⟨xb, 1, none⟩ (.slice A n c)) xb { x with ha := A, hn := n, hc := c } { r with hosts := l } :=
  h.upd 1 _ ⟨h.at'.key, h.at'.path, h.at'.dest, ha, h.at'.methods, h.at'.needs, hc, h.at'.mcap, h.at'.ncap⟩ ⟨h.mini.key, h.mini.path, h.mini.dest, hl, h.mini.methods, h.mini.needs⟩ rfl
theorem RtIn.methods (h : RtIn w xb x r) {A : Option Addr} {n c : Nat} {l : List ByteArray} (ha : SSl1 w A n l) (hc : n ≤ c) (hl : l.length ≤ 3 ∧ ∀ s ∈ l, s.size ≤ 30) : RtIn (w.setCell ⟨xb, 3, none⟩ (.slice A n c)) xb { x with ma := A, mn := n, mc := c } { r with methods := l } :=
  h.upd 3 _ ⟨h.at'.key, h.at'.path, h.at'.dest, h.at'.hosts, ha, h.at'.needs, h.at'.hcap, hc, h.at'.ncap⟩ ⟨h.mini.key, h.mini.path, h.mini.dest, h.mini.hosts, hl, h.mini.needs⟩ rfl
theorem RtIn.needs (h : RtIn w xb x r) {A : Option Addr} {n c : Nat} {l : List PairD} (ha : QSl w A n l) (hc : n ≤ c) (hl : l.length ≤ 3 ∧ ∀ p ∈ l, p.1.size ≤ 30 ∧ p.2.size ≤ 30) : RtIn (w.setCell ⟨xb, 4, none⟩ (.slice A n c)) xb { x with na := A, nn := n, nc := c } { r with needs := l } :=
  h.upd 4 _ ⟨h.at'.key, h.at'.path, h.at'.dest, h.at'.hosts, h.at'.methods, ha, h.at'.hcap, h.at'.mcap, hc⟩ ⟨h.mini.key, h.mini.path, h.mini.dest, h.mini.hosts, h.mini.methods, hl⟩ rfl
theorem RtIn.key (h : RtIn w xb x r) {s : ByteArray} (hs : s.size ≤ 10) : RtIn (w.setCell ⟨xb, 0, none⟩ (.string s)) xb { x with key := s } { r with key := s } :=
  h.upd 0 _ ⟨rfl, h.at'.path, h.at'.dest, h.at'.hosts, h.at'.methods, h.at'.needs, h.at'.hcap, h.at'.mcap, h.at'.ncap⟩ ⟨hs, h.mini.path, h.mini.dest, h.mini.hosts, h.mini.methods, h.mini.needs⟩ rfl
theorem RtIn.path (h : RtIn w xb x r) {s : ByteArray} (hs : s.size ≤ 300) : RtIn (w.setCell ⟨xb, 2, none⟩ (.string s)) xb { x with path := s } { r with path := s } :=
  h.upd 2 _ ⟨h.at'.key, rfl, h.at'.dest, h.at'.hosts, h.at'.methods, h.at'.needs, h.at'.hcap, h.at'.mcap, h.at'.ncap⟩ ⟨h.mini.key, hs, h.mini.dest, h.mini.hosts, h.mini.methods, h.mini.needs⟩ rfl
theorem RtIn.dest (h : RtIn w xb x r) {s : ByteArray} (hs : s.size ≤ 300) : RtIn (w.setCell ⟨xb, 5, none⟩ (.string s)) xb { x with dest := s } { r with dest := s } :=
  h.upd 5 _ ⟨h.at'.key, h.at'.path, rfl, h.at'.hosts, h.at'.methods, h.at'.needs, h.at'.hcap, h.at'.mcap, h.at'.ncap⟩ ⟨h.mini.key, h.mini.path, hs, h.mini.hosts, h.mini.methods, h.mini.needs⟩ rfl
end
/-- the library's variable on searching, while the stream stands elsewhere -/
def MaxB (b : Nat) (w : World) : Prop := MaxLn w ∧ 0 ≠ b
theorem MaxB.of {b : Nat} {w0 w : World} (h0 : MaxLn w0) (hb : w0.heap.size ≤ b) (h : MaxLn w) : MaxB b w := ⟨h, fun e => by
  obtain ⟨m, hc⟩ := h0
  have hlt : 0 < w0.heap.size := by
    rcases Nat.lt_or_ge 0 w0.heap.size with hlt | hge
    · exact hlt
    · simp [World.cell?, Array.getElem?_eq_none hge] at hc
  omega⟩
theorem MaxLn.lt {w : World} (h : MaxLn w) : 0 < w.heap.size := by
  obtain ⟨m, hc⟩ := h
  rcases Nat.lt_or_ge 0 w.heap.size with hlt | hge
  · exact hlt
  · simp [World.cell?, Array.getElem?_eq_none hge] at hc
theorem MaxB.stream {b k : Nat} {w w' : World} (h : MaxB b w) (hs : SStep b w w' k) : MaxB b w' := by
  refine ⟨?_, h.2⟩
  have hl := h.1.lt
  obtain ⟨m, hc⟩ := h.1
  exact ⟨m, (hs.only.cell (p := ⟨0, 0, none⟩) hl h.2).trans hc⟩
theorem MaxB.mod {S : Nat → Prop} {b : Nat} {w w' : World} (h : MaxB b w) (hm : Mod S w w') (hS : ¬ S 0) : MaxB b w' := by
  refine ⟨?_, h.2⟩
  have hl := h.1.lt
  obtain ⟨m, hc⟩ := h.1
  exact ⟨m, (hm.cell (p := ⟨0, 0, none⟩) hl hS).trans hc⟩
def RRt (b : Nat) (w : World) (k : Nat) (e : Ending) (w' : World) : Prop := ∃ x r, e = .returned (RA.val x) ∧ RtAt w' x r ∧ RtMini r ∧ SStep b w w' k
end Go.Proofs.YtnbcfpjalgfikaaGreatDoor
