/- Several texts in one. (1) Values as trees, in memory. No conditions. (2) slices.Clone of rows of values and of members. (printed by mkvalclone.py) Conditions: at most 200000 of them. -/
import Derived.Test.YtjfgfkbgbhbhjaaGreatDoorValLaw
import Derived.Test.YtjfgfkbgbhbhjaaGreatDoorOwn

namespace Go.Proofs.YtjfgfkbgbhbhjaaGreatDoor
open Go.RowKit
set_option linter.unusedVariables false
set_option linter.unusedSimpArgs false

/-- a value as its cells say -/
structure VA where
  kind : Int
  flag : Bool
  num : Int
  words : ByteArray
  la : Option Addr
  ln : Nat
  lc : Nat
  ma : Option Addr
  mn : Nat
  mc : Nat
def VA.enc (x : VA) : Nat → Value
  | 0 => .int .i64 x.kind
  | 1 => .bool x.flag
  | 2 => .int .i64 x.num
  | 3 => .string x.words
  | 4 => .slice x.la x.ln x.lc
  | 5 => .slice x.ma x.mn x.mc
  | _ => .nilFunc
def VA.cells (x : VA) : Array Value := #[.int .i64 x.kind, .bool x.flag, .int .i64 x.num, .string x.words, .slice x.la x.ln x.lc, .slice x.ma x.mn x.mc]
abbrev VA.val (x : VA) : Value := .agg #[.int .i64 x.kind, .bool x.flag, .int .i64 x.num, .string x.words, .slice x.la x.ln x.lc, .slice x.ma x.mn x.mc]
theorem VA.one (x : VA) (j : Nat) (hj : j < 6) : (x.enc j).oneCell' = true := by
  obtain rfl | rfl | rfl | rfl | rfl | rfl : j = 0 ∨ j = 1 ∨ j = 2 ∨ j = 3 ∨ j = 4 ∨ j = 5 := by omega
  all_goals rfl
structure MA where
  name : ByteArray
  v : VA
def MA.enc (m : MA) : Nat → Value
  | 0 => .string m.name
  | j + 1 => m.v.enc j
abbrev MA.val (m : MA) : Value := .agg #[.string m.name, .int .i64 m.v.kind, .bool m.v.flag, .int .i64 m.v.num, .string m.v.words, .slice m.v.la m.v.ln m.v.lc, .slice m.v.ma m.v.mn m.v.mc]
theorem MA.one (x : MA) (j : Nat) (hj : j < 7) : (x.enc j).oneCell' = true := by
  obtain rfl | rfl | rfl | rfl | rfl | rfl | rfl : j = 0 ∨ j = 1 ∨ j = 2 ∨ j = 3 ∨ j = 4 ∨ j = 5 ∨ j = 6 := by omega
  all_goals rfl
theorem einfo_val : EInfo Tryz.prog 29 6 88 := EInfo.of (z := .agg #[.int .i64 0, .bool false, .int .i64 0, .string ⟨#[]⟩, .slice none 0 0, .slice none 0 0]) (by kernel_rfl) rfl (by decide)

/-- a row that lies in a block of G -/
def Row {α : Type} (w : World) (G : Nat → Prop) (t : TypeId) (sz : Nat) (enc : α → Nat → Value) (A : Option Addr) (n : Nat) (xs : List α) : Prop :=
  xs.length = n ∧ (0 < n → ∃ g o, A = some ⟨g, o, none⟩ ∧ G g ∧ TB w g t ∧ ∀ i (h : i < xs.length) j, j < sz → w.cell? ⟨g, o + i * sz + j, none⟩ = some (enc xs[i] j))
section
variable {α : Type} {w w' : World} {G G' : Nat → Prop} {t : TypeId} {sz : Nat} {enc : α → Nat → Value} {A : Option Addr} {n c : Nat} {xs : List α}
theorem Row.nil : Row w G t sz enc A 0 ([] : List α) := ⟨rfl, fun h => absurd h (by omega)⟩
theorem Row.sl (h : Row w G t sz enc A n xs) : Sl w t sz enc A n xs := ⟨h.1, fun h0 => by
  obtain ⟨g, o, h1, _, h2, h3⟩ := h.2 h0
  exact ⟨g, o, h1, h2, h3⟩⟩
theorem Row.mod {S : Nat → Prop} (h : Row w G t sz enc A n xs) (hm : Mod S w w') (hs : ∀ g, G g → TB w g t → ¬ S g) : Row w' G t sz enc A n xs :=
  ⟨h.1, fun h0 => by
    obtain ⟨g, o, h1, hG, h2, h3⟩ := h.2 h0
    exact ⟨g, o, h1, hG, h2.mod hm (hs g hG h2), fun i hi j hj => (hm.cell (p := ⟨g, o + i * sz + j, none⟩) h2.lt (hs g hG h2)).trans (h3 i hi j hj)⟩⟩
theorem Row.imp (h : Row w G t sz enc A n xs) (hG : ∀ g, G g → g < w.heap.size → G' g) : Row w G' t sz enc A n xs :=
  ⟨h.1, fun h0 => by
    obtain ⟨g, o, h1, h4, h2, h3⟩ := h.2 h0
    exact ⟨g, o, h1, hG g h4 h2.lt, h2, h3⟩⟩
theorem Own.row' {B : Nat} (h : Own w B t sz enc A n c xs) (hG : ∀ g, blkOf A = some g → B ≤ g → G g) : Row w G t sz enc A n xs :=
  ⟨h.1, fun h0 => by
    obtain ⟨g, hA, hB, _⟩ := h.form h0
    obtain ⟨g', o, h1, h2, h3⟩ := h.sl.2 h0
    refine ⟨g', o, h1, hG g' ?_ ?_, h2, h3⟩
    · rw [h1]; rfl
    · rw [hA] at h1; injection h1 with h1; injection h1 with h1 _; omega⟩
end

/-- the value x stands in memory as the tree v, no deeper than d, its rows in blocks of G -/
def Tree (w : World) (G : Nat → Prop) : Nat → VA → VT → Prop
  | 0, _, _ => False
  | d + 1, x, v => ∃ vs ps, v = .mk x.kind x.flag x.num x.words vs ps ∧
      (∃ xs : List VA, Row w G 29 6 VA.enc x.la x.ln xs ∧ xs.length = vs.length ∧ ∀ i (h : i < xs.length) (h' : i < vs.length), Tree w G d xs[i] vs[i]) ∧
      (∃ ms : List MA, Row w G 54 7 MA.enc x.ma x.mn ms ∧ ms.length = ps.length ∧ ∀ i (h : i < ms.length) (h' : i < ps.length), ms[i].name = ps[i].1 ∧ Tree w G d ms[i].v ps[i].2)
theorem Tree.mod {w w' : World} {G S : Nat → Prop} (hm : Mod S w w') (hs : ∀ g, G g → (TB w g 29 ∨ TB w g 54) → ¬ S g) : ∀ (d : Nat) (x : VA) (v : VT), Tree w G d x v → Tree w' G d x v
  | 0, _, _, h => h
  | d + 1, x, v, h => by
    obtain ⟨vs, ps, hv, ⟨xs, h1, h2, h3⟩, ⟨ms, h4, h5, h6⟩⟩ := h
    exact ⟨vs, ps, hv, ⟨xs, h1.mod hm (fun g hG ht => hs g hG (.inl ht)), h2, fun i hi hi' => Tree.mod hm hs d _ _ (h3 i hi hi')⟩,
      ⟨ms, h4.mod hm (fun g hG ht => hs g hG (.inr ht)), h5, fun i hi hi' => ⟨(h6 i hi hi').1, Tree.mod hm hs d _ _ (h6 i hi hi').2⟩⟩⟩
theorem Tree.new {w w' : World} {G : Nat → Prop} {d : Nat} {x : VA} {v : VT} (h : Tree w G d x v) (hm : New w w') : Tree w' G d x v := Tree.mod hm (fun _ _ _ e => e) d x v h
theorem Tree.imp {w : World} {G G' : Nat → Prop} (hG : ∀ g, G g → g < w.heap.size → G' g) : ∀ (d : Nat) (x : VA) (v : VT), Tree w G d x v → Tree w G' d x v
  | 0, _, _, h => h
  | d + 1, x, v, h => by
    obtain ⟨vs, ps, hv, ⟨xs, h1, h2, h3⟩, ⟨ms, h4, h5, h6⟩⟩ := h
    exact ⟨vs, ps, hv, ⟨xs, h1.imp hG, h2, fun i hi hi' => Tree.imp hG d _ _ (h3 i hi hi')⟩,
      ⟨ms, h4.imp hG, h5, fun i hi hi' => ⟨(h6 i hi hi').1, Tree.imp hG d _ _ (h6 i hi hi').2⟩⟩⟩
theorem Tree.more {w : World} {G : Nat → Prop} : ∀ (d : Nat) (x : VA) (v : VT), Tree w G d x v → Tree w G (d + 1) x v
  | 0, _, _, h => h.elim
  | d + 1, x, v, h => by
    obtain ⟨vs, ps, hv, ⟨xs, h1, h2, h3⟩, ⟨ms, h4, h5, h6⟩⟩ := h
    exact ⟨vs, ps, hv, ⟨xs, h1, h2, fun i hi hi' => Tree.more d _ _ (h3 i hi hi')⟩,
      ⟨ms, h4, h5, fun i hi hi' => ⟨(h6 i hi hi').1, Tree.more d _ _ (h6 i hi hi').2⟩⟩⟩
theorem Tree.upto {w : World} {G : Nat → Prop} {d d' : Nat} (hd : d ≤ d') {x : VA} {v : VT} (h : Tree w G d x v) : Tree w G d' x v := by
  obtain ⟨k, rfl⟩ := Nat.le.dest hd
  induction k with
  | zero => exact h
  | succ k ih => exact Tree.more _ _ _ (ih (by omega))
theorem Tree.fields {w : World} {G : Nat → Prop} {d : Nat} {x : VA} {v : VT} (h : Tree w G d x v) : v.kind = x.kind ∧ v.flag = x.flag ∧ v.num = x.num ∧ v.words = x.words ∧ v.list.length = x.ln ∧ v.mem.length = x.mn := by
  cases d with
  | zero => exact h.elim
  | succ d =>
    obtain ⟨vs, ps, rfl, ⟨xs, h1, h2, h3⟩, ⟨ms, h4, h5, h6⟩⟩ := h
    exact ⟨rfl, rfl, rfl, rfl, h2.symm.trans h1.1, h5.symm.trans h4.1⟩
/-- what stands at a place of the list -/
theorem Tree.item {w : World} {G : Nat → Prop} {d : Nat} {x : VA} {v : VT} (h : Tree w G (d + 1) x v) {i : Nat} (hi : i < v.list.length) :
    ∃ g o y, x.la = some ⟨g, o, none⟩ ∧ g < w.heap.size ∧ TB w g 29 ∧ G g ∧ (∀ j, j < 6 → w.cell? ⟨g, o + i * 6 + j, none⟩ = some (y.enc j)) ∧ Tree w G d y v.list[i] := by
  obtain ⟨vs, ps, rfl, ⟨xs, h1, h2, h3⟩, ⟨ms, h4, h5, h6⟩⟩ := h
  have hi' : i < vs.length := hi
  have hx : i < xs.length := by omega
  have h10 := h1.1
  obtain ⟨g, o, hA, hG, ht, hc⟩ := h1.2 (by omega)
  exact ⟨g, o, xs[i], hA, ht.lt, ht, hG, fun j hj => hc i hx j hj, h3 i hx hi'⟩
theorem Tree.member {w : World} {G : Nat → Prop} {d : Nat} {x : VA} {v : VT} (h : Tree w G (d + 1) x v) {i : Nat} (hi : i < v.mem.length) :
    ∃ g o y, x.ma = some ⟨g, o, none⟩ ∧ g < w.heap.size ∧ TB w g 54 ∧ G g ∧ w.cell? ⟨g, o + i * 7, none⟩ = some (.string v.mem[i].1) ∧ (∀ j, j < 6 → w.cell? ⟨g, o + i * 7 + (j + 1), none⟩ = some (y.enc j)) ∧ Tree w G d y v.mem[i].2 := by
  obtain ⟨vs, ps, rfl, ⟨xs, h1, h2, h3⟩, ⟨ms, h4, h5, h6⟩⟩ := h
  have hi' : i < ps.length := hi
  have hx : i < ms.length := by omega
  have h40 := h4.1
  obtain ⟨g, o, hA, hG, ht, hc⟩ := h4.2 (by omega)
  have h7 := h6 i hx hi'
  refine ⟨g, o, ms[i].v, hA, ht.lt, ht, hG, ?_, fun j hj => hc i hx (j + 1) (by omega), h7.2⟩
  have := hc i hx 0 (by omega)
  rw [Nat.add_zero] at this
  rw [this]
  exact congrArg (fun s => some (Value.string s)) h7.1

theorem New.only {b : Nat} {w w' : World} (h : New w w') : Only b w w' := h.mono (fun _ _ e => e.elim)
theorem Only.set {b : Nat} {w w' : World} (h : Only b w w') (i : Nat) (u : Value) : Only b w (w'.setCell ⟨b, i, none⟩ u) := Mod.setCell (S := fun k => k = b) (p := ⟨b, i, none⟩) h (.inl rfl) u
theorem Tree.only {w w' : World} {G : Nat → Prop} {d : Nat} {x : VA} {v : VT} {b : Nat} {t : TypeId} (h : Tree w G d x v) (hm : Only b w w') (hb : TB w b t) (h1 : 29 ≠ t) (h2 : 54 ≠ t) : Tree w' G d x v :=
  Tree.mod hm (fun g _ hg e => by
    subst e
    rcases hg with hg | hg
    · exact hg.ne hb h1 rfl
    · exact hg.ne hb h2 rfl) d x v h

end Go.Proofs.YtjfgfkbgbhbhjaaGreatDoor

namespace Go.Proofs.YtjfgfkbgbhbhjaaGreatDoor
open Go.RowKit
set_option linter.unusedVariables false
set_option linter.unusedSimpArgs false

theorem einfo_mem : EInfo Tryz.prog 54 7 104 := EInfo.of (z := .agg #[.string ⟨#[]⟩, .int .i64 0, .bool false, .int .i64 0, .string ⟨#[]⟩, .slice none 0 0, .slice none 0 0]) (by kernel_rfl) rfl (by decide)
theorem append_zero {P : Program} {t e : TypeId} (ht : P.underlying t = some (.slice e)) {i : TypeInfo} (hi : P.info? e = some i) (a b : Addr) (c : Nat) (ty : TypeId) (w : World) :
    (Builtin.append_ #[t, t] ty #[.slice (some a) 0 0, .slice (some b) 0 c]).run P w = .ok (.slice (some a) 0 0) w := by
  have hl := run_loadCells_list (P := P) w b [] (by simp)
  simp at hl
  simp [Builtin.append_, run_underlying ht, sizeOf, typeInfo, hi, Builtin.lenOf, Builtin.firstCells, hl, storeCells]
theorem wpList_append_by2 {P : Program} {w w' : World} {ops : Array Oper} {rest : List Oper} {o : Oper} {a : Act} {Q : Exit → Act → World → Prop} (hgd : o.guard = none) (s x : Operand) (t t2 : TypeId)
    (ho : o.op = .call { callee := .builtin .append, args := #[s, x], argTypes := #[t, t2] }) {v1 v2 v : Value} (hs : a.eval s = v1) (hx : a.eval x = v2) (hr : ∀ ty, (Builtin.append_ #[t, t2] ty #[v1, v2]).run P w = .ok v w')
    (h : wpList P ops Q rest (a.put o.dst v) w') : wpList P ops Q (o :: rest) a w := by
  refine wpList_plain hgd fun K hK => ?_
  unfold Oper.wp execOp
  simp only [ho, resolve, invoke, builtin, Sem.run_bind, Sem.run_pure, Result.andThen_ok, List.map_toArray, List.map_cons, List.map_nil, hs, hx, hr]
  exact hK _ _ h
/-- what append does to a row of the call's own -/
theorem Own.push_mod' {α : Type} {a w w' : World} {B : Nat} {t : TypeId} {sz : Nat} {enc : α → Nat → Value} {A : Option Addr} {n c : Nat} {xs : List α} (h : Own w B t sz enc A n c xs) (hm : New a w) (hg : Mod (fun k => blkOf A = some k) w w') (hB : a.heap.size ≤ B) : New a w' :=
  hm.step hg (fun i hi e => by
    rcases h.blk with ⟨h1, _⟩ | ⟨g, h1, h2, _⟩
    · rw [h1] at e; cases e
    · rw [h1] at e; injection e with e; simp only at e; omega)

def RCloneVA (w : World) (n : Nat) (ls : List VA) (e : Ending) (w' : World) : Prop := ∃ A c, e = .returned (.slice A n c) ∧ Own w' w.heap.size 29 6 VA.enc A n c ls ∧ New w w'
set_option maxHeartbeats 1000000 in
theorem cloneVA (ls : List VA) (A : Option Addr) (n c : Nat) (w : World) (hl : Sl w 29 6 VA.enc A n ls) (hn : n ≤ 200000) :
    Calls Tryz.prog 23 #[.slice A n c] w (RCloneVA w n ls) := by
  have hown : Own (w.alloc (.cells #[] 29)) w.heap.size 29 6 VA.enc (some ⟨w.heap.size, 0, none⟩) 0 0 ([] : List VA) := Own.of_blk (xs := []) (Blk.new _ _ _) (Nat.le_refl _) rfl (by omega)
  by_cases h0 : 0 < n
  · obtain ⟨g, o, rfl, _⟩ := hl.2 h0
    have hq := fun w : World => Lib.run_eql_slice_nil (P := Tryz.prog) w 26 29 (some ⟨g, o, none⟩) n c 0 0 Tryz.underlying26
    simp at hq
    have hm0 : New w (w.alloc (.cells #[] 29)) := (Mod.refl _ _).alloc _
    go_enter Tryz.func23, Tryz.ntmps23
    go_wp2_with (at_builtin; refine wpList_pushAll rfl _ _ _ rfl 88 Tryz.underlying26 einfo_val rfl hown ls g o n c rfl (hl.new hm0) h0 (fun y _ j hj => VA.one y j hj) (by omega) (by omega) (by simp) ?_; intro g1 cap w1 hown1 hm1 hat hlt1)
    simp only [Nat.zero_add, List.nil_append] at hown1
    go_ret
    exact ⟨_, _, by simp, hown1, hown.push_mod' hm0 hm1 (Nat.le_refl _)⟩
  · obtain rfl : n = 0 := by omega
    obtain rfl : ls = [] := List.eq_nil_of_length_eq_zero hl.1
    have hq := fun w : World => Lib.run_eql_slice_nil (P := Tryz.prog) w 26 29 A 0 c 0 0 Tryz.underlying26
    clear hl
    cases A with
    | none =>
      simp at hq
      go_enter Tryz.func23, Tryz.ntmps23
      go_wp2_with fail
      go_ret
      exact ⟨none, 0, rfl, Own.nil, Mod.refl _ _⟩
    | some a =>
      simp at hq
      obtain ⟨i, z, hi0, _⟩ := einfo_val
      have HO := Lib.hid hown
      have hap := fun ty => append_zero (P := Tryz.prog) Tryz.underlying26 hi0 ⟨w.heap.size, 0, none⟩ a c ty (w.alloc (.cells #[] 29))
      clear hown
      go_enter Tryz.func23, Tryz.ntmps23
      go_wp2_with (at_builtin; refine wpList_append_by2 rfl _ _ 26 26 rfl rfl rfl hap ?_)
      go_ret
      exact ⟨_, _, rfl, HO.out, (Mod.refl _ _).alloc _⟩

def RCloneMA (w : World) (n : Nat) (ls : List MA) (e : Ending) (w' : World) : Prop := ∃ A c, e = .returned (.slice A n c) ∧ Own w' w.heap.size 54 7 MA.enc A n c ls ∧ New w w'
set_option maxHeartbeats 1000000 in
theorem cloneMA (ls : List MA) (A : Option Addr) (n c : Nat) (w : World) (hl : Sl w 54 7 MA.enc A n ls) (hn : n ≤ 200000) :
    Calls Tryz.prog 22 #[.slice A n c] w (RCloneMA w n ls) := by
  have hown : Own (w.alloc (.cells #[] 54)) w.heap.size 54 7 MA.enc (some ⟨w.heap.size, 0, none⟩) 0 0 ([] : List MA) := Own.of_blk (xs := []) (Blk.new _ _ _) (Nat.le_refl _) rfl (by omega)
  by_cases h0 : 0 < n
  · obtain ⟨g, o, rfl, _⟩ := hl.2 h0
    have hq := fun w : World => Lib.run_eql_slice_nil (P := Tryz.prog) w 27 54 (some ⟨g, o, none⟩) n c 0 0 Tryz.underlying27
    simp at hq
    have hm0 : New w (w.alloc (.cells #[] 54)) := (Mod.refl _ _).alloc _
    go_enter Tryz.func22, Tryz.ntmps22
    go_wp2_with (at_builtin; refine wpList_pushAll rfl _ _ _ rfl 104 Tryz.underlying27 einfo_mem rfl hown ls g o n c rfl (hl.new hm0) h0 (fun y _ j hj => MA.one y j hj) (by omega) (by omega) (by simp) ?_; intro g1 cap w1 hown1 hm1 hat hlt1)
    simp only [Nat.zero_add, List.nil_append] at hown1
    go_ret
    exact ⟨_, _, by simp, hown1, hown.push_mod' hm0 hm1 (Nat.le_refl _)⟩
  · obtain rfl : n = 0 := by omega
    obtain rfl : ls = [] := List.eq_nil_of_length_eq_zero hl.1
    have hq := fun w : World => Lib.run_eql_slice_nil (P := Tryz.prog) w 27 54 A 0 c 0 0 Tryz.underlying27
    clear hl
    cases A with
    | none =>
      simp at hq
      go_enter Tryz.func22, Tryz.ntmps22
      go_wp2_with fail
      go_ret
      exact ⟨none, 0, rfl, Own.nil, Mod.refl _ _⟩
    | some a =>
      simp at hq
      obtain ⟨i, z, hi0, _⟩ := einfo_mem
      have HO := Lib.hid hown
      have hap := fun ty => append_zero (P := Tryz.prog) Tryz.underlying27 hi0 ⟨w.heap.size, 0, none⟩ a c ty (w.alloc (.cells #[] 54))
      clear hown
      go_enter Tryz.func22, Tryz.ntmps22
      go_wp2_with (at_builtin; refine wpList_append_by2 rfl _ _ 27 27 rfl rfl rfl hap ?_)
      go_ret
      exact ⟨_, _, rfl, HO.out, (Mod.refl _ _).alloc _⟩

end Go.Proofs.YtjfgfkbgbhbhjaaGreatDoor
