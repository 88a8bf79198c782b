/- What the functions of the stream of numbers hand out: numbers in their ranges, and which memory they turn. Conditions: the stream lies in a block of its own and has been asked fewer than 2^62 times. -/
import Derived.Test.YtnbcfpjalgfikaaGreatDoorBase
namespace Go.Proofs.YtnbcfpjalgfikaaGreatDoor
open Go.RowKit
set_option linter.unusedVariables false
set_option linter.unusedSimpArgs false

/-- a stream at block b: its list is read-only memory below b; it has been asked at most k times -/
def SInv (b : Nat) (w : World) (k : Nat) : Prop :=
  ∃ (A : Option Addr) (n c : Nat) (q : Nat) (z : Nat → Int), Blk w b 25 #[.slice A n c, .int .i64 (q : Int)] ∧ q ≤ k ∧ n ≤ maxLen ∧
    (0 < n → ∃ g o, A = some ⟨g, o, none⟩ ∧ g < b ∧ ∀ i, i < n → w.cell? ⟨g, o + i, none⟩ = some (.int .i64 (z i)) ∧ -9223372036854775808 ≤ z i ∧ z i ≤ 9223372036854775807)

theorem SInv.lt {b k : Nat} {w : World} (h : SInv b w k) : b < w.heap.size := by
  obtain ⟨A, n, c, q, z, hb, _⟩ := h; exact hb.lt
theorem SInv.more {b k k' : Nat} {w : World} (h : SInv b w k) (hk : k ≤ k') : SInv b w k' := by
  obtain ⟨A, n, c, q, z, hb, hq, hr⟩ := h; exact ⟨A, n, c, q, z, hb, by omega, hr⟩
theorem SInv.mod {S : Nat → Prop} {b k : Nat} {w w' : World} (h : SInv b w k) (hm : Mod S w w') (hs : ∀ i, i ≤ b → ¬ S i) : SInv b w' k := by
  obtain ⟨A, n, c, q, z, hb, hq, hn, hr⟩ := h
  have hlt := hb.lt
  refine ⟨A, n, c, q, z, hb.mod hm (hs b (Nat.le_refl _)), hq, hn, fun h0 => ?_⟩
  obtain ⟨g, o, ha, hg, hc⟩ := hr h0
  refine ⟨g, o, ha, hg, fun i hi => ?_⟩
  have := hm.cell (p := ⟨g, o + i, none⟩) (by show g < _; omega) (hs g (by omega))
  exact ⟨this.trans (hc i hi).1, (hc i hi).2⟩

def I64 (x : Int) : Prop := -9223372036854775808 ≤ x ∧ x ≤ 9223372036854775807
theorem wrap64_I64 (x : Int) : I64 (wrap64 x) := by unfold I64 wrap64; omega

/-- an integer handed back, and what is said of it; w' besides -/
def RInt (Q : Int → World → Prop) (e : Ending) (w' : World) : Prop := ∃ m : Int, e = .returned (.int .i64 m) ∧ Q m w'

theorem below_any (x n : Int) (w : World) (hn : 1 ≤ n) (hx : I64 x) (hn2 : n ≤ 9223372036854775807) :
    Calls Tryz.prog 38 #[.int .i64 x, .int .i64 n] w (RInt fun m w' => 0 ≤ m ∧ m < n ∧ w = w') := by
  have h1 : ¬ n < 1 := by omega
  obtain ⟨hx1, hx2⟩ := hx
  have h3 := Int.tmod_lt_of_pos x (b := n) (by omega)
  have h4 := Int.lt_tmod_of_pos x (b := n) (by omega)
  generalize hy : x.tmod n = y at *
  go_enter Tryz.func38, Tryz.ntmps38
  go_wp2
  all_goals go_ret
  · exact ⟨_, rfl, by omega, by omega, rfl⟩
  · exact ⟨_, rfl, by omega, by omega, rfl⟩

/-- what a function of the stream does to the world: only the stream's block turns, it has been asked at most k times in all -/
structure SStep (b : Nat) (w w' : World) (k : Nat) : Prop where
  lt : b < w.heap.size
  only : Only b w w'
  inv : SInv b w' k
theorem SStep.refl {b k : Nat} {w : World} (h : SInv b w k) : SStep b w w k := ⟨h.lt, Mod.refl _ _, h⟩
theorem SStep.trans {b k k' : Nat} {w w' w'' : World} (h : SStep b w w' k) (h' : SStep b w' w'' k') : SStep b w w'' k' := ⟨h.lt, h.only.trans h'.only, h'.inv⟩
theorem SStep.new {b k : Nat} {w w' w'' : World} (h : SStep b w w' k) (h' : New w' w'') : SStep b w w'' k :=
  ⟨h.lt, h.only.step h' (fun _ _ x => x.elim), h.inv.mod h' (fun _ _ x => x)⟩
theorem SStep.alloc {b k : Nat} {w w' : World} (h : SStep b w w' k) (o : Obj) : SStep b w (w'.alloc o) k := h.new ((Mod.refl _ _).alloc o)
theorem SStep.drew {b k : Nat} {w w' : World} (h : SStep b w w' k) : SStep b w w'.drew k := h.new (Mod.refl _ _).drew
theorem SStep.drewN {b k : Nat} {w w' : World} (h : SStep b w w' k) (n : Nat) : SStep b w (w'.drewN n) k := h.new ((Mod.refl _ _).drewN n)
theorem SStep.more {b k k' : Nat} {w w' : World} (h : SStep b w w' k) (hk : k ≤ k') : SStep b w w' k' := ⟨h.lt, h.only, h.inv.more hk⟩
theorem SStep.set {b k : Nat} {w w' : World} (h : SStep b w w' k) {p : Addr} (hp : w.heap.size ≤ p.block) (u : Value) : SStep b w (w'.setCell p u) k :=
  ⟨h.lt, h.only.setCell (.inr hp) u, h.inv.mod (S := fun i => i = p.block) ((Mod.refl (fun i => i = p.block) _).setCell (.inl rfl) u) (fun i hi e => by have := h.lt; omega)⟩
theorem SStep.grown {b k : Nat} {w w' w'' : World} {row : Option Nat} (h : SStep b w w' k) (hg : w'.grownBy w'' row) (hr : ∀ i, row = some i → w.heap.size ≤ i) : SStep b w w'' k :=
  ⟨h.lt, h.only.grown hg (fun i e => .inr (hr i e)), h.inv.mod (S := fun i => row = some i) ((Mod.refl (fun i => row = some i) _).grown hg (fun i e => .inl e)) (fun i hi e => by have := h.lt; have := hr i e; omega)⟩

set_option maxHeartbeats 400000 in
theorem next_any (b k : Nat) (n : Int) (w : World) (hs : SInv b w k) (hk : k < 4611686018427387904) (hn : 1 ≤ n) (hn2 : n ≤ 9223372036854775807) :
    Calls Tryz.prog 15 #[.pointer (some ⟨b, 0, none⟩), .int .i64 n] w (RInt fun m w' => 0 ≤ m ∧ m < n ∧ SStep b w w' (k + 1)) := by
  obtain ⟨A, l, c, q, z, hb, hq, hl, hr⟩ := hs
  unfold maxLen at hl
  have c0 := hb.cell 0
  have c1 := hb.cell 1
  have f1 := hb.frozen 1
  simp at c0 c1
  have hfin : ∀ q' : Nat, q' = q + 1 → SStep b w (w.setCell ⟨b, 1, none⟩ (.int .i64 (q' : Int))) (k + 1) := by
    rintro q' rfl
    refine ⟨hb.lt, (Mod.refl (fun k => k = b) w).setCell (.inl rfl) _, A, l, c, q + 1, z, by simpa using hb.set 1 _, by omega, hl, fun h0 => ?_⟩
    obtain ⟨g, o, ha, hg, hc⟩ := hr h0
    refine ⟨g, o, ha, hg, fun i hi => ⟨?_, (hc i hi).2⟩⟩
    rw [← (hc i hi).1]
    exact World.cell?_setCell_other w _ _ _ (by intro e; injection e; omega)
  have HF := Lib.hid hfin
  clear hfin
  by_cases h0 : l = 0
  · subst h0
    clear hr hb
    go_enter Tryz.func15, Tryz.ntmps15
    go_wp2_with fail
    refine (below_any _ _ _ hn ?_ hn2).mono ?_
    · exact wrap64_I64 _
    · rintro e w' ⟨m, rfl, h1, h2, rfl⟩
      go_wp2_with fail
      go_ret
      exact ⟨_, rfl, h1, h2, HF.out _ rfl⟩
  · obtain ⟨g, o, rfl, hg, hc⟩ := hr (by omega)
    have hne : g ≠ b := by omega
    have hd1 := Int.emod_nonneg (q : Int) (b := (l : Int)) (by omega)
    have hd2 := Int.emod_lt_of_pos (q : Int) (b := (l : Int)) (by omega)
    have hcx := hc (q % l) (Nat.mod_lt _ (by omega))
    have hl0 : (0 : Int) < l := by omega
    have hl1 : (l == 0) = false := by simpa using h0
    have hc1 : w.cell? ⟨g, o + q % l, none⟩ = some (.int .i64 (z (q % l))) := hcx.1
    have hz : I64 (z (q % l)) := hcx.2
    clear hcx hc hb
    go_enter Tryz.func15, Tryz.ntmps15
    go_wp2_with fail
    go_quiet (fail)
    go_wp2_with fail
    go_quiet (fail)
    go_wp2_with fail
    refine (below_any _ _ _ (by omega) hz (by omega)).mono ?_
    rintro e w' ⟨m, rfl, h1, h2, rfl⟩
    go_wp2_with fail
    refine (below_any _ _ _ hn ?_ hn2).mono ?_
    · exact wrap64_I64 _
    · rintro e w' ⟨m2, rfl, h3, h4, rfl⟩
      go_wp2_with fail
      go_ret
      exact ⟨_, rfl, h3, h4, (HF.out _ rfl).drewN _⟩


def RBool (Q : Bool → World → Prop) (e : Ending) (w' : World) : Prop := ∃ m : Bool, e = .returned (.bool m) ∧ Q m w'
def RStr (Q : ByteArray → World → Prop) (e : Ending) (w' : World) : Prop := ∃ m : ByteArray, e = .returned (.string m) ∧ Q m w'

set_option maxHeartbeats 400000 in
theorem flip_any (b k : Nat) (n : Int) (w : World) (hs : SInv b w k) (hk : k < 4611686018427387904) (hn : 1 ≤ n) (hn2 : n ≤ 9223372036854775807) :
    Calls Tryz.prog 14 #[.pointer (some ⟨b, 0, none⟩), .int .i64 n] w (RBool fun _ w' => SStep b w w' (k + 1)) := by
  go_enter Tryz.func14, Tryz.ntmps14
  go_wp2_with fail
  refine (next_any b k n _ hs hk hn hn2).mono ?_
  rintro e w' ⟨m, rfl, h1, h2, h3⟩
  go_wp2_with fail
  go_ret
  exact ⟨_, rfl, h3⟩

set_option maxHeartbeats 400000 in
theorem range_any (b k : Nat) (lo hi : Int) (w : World) (hs : SInv b w k) (hk : k < 4611686018427387904) (h1 : lo ≤ hi) (h2 : -2305843009213693952 ≤ lo) (h3 : hi < 2305843009213693952) :
    Calls Tryz.prog 69 #[.pointer (some ⟨b, 0, none⟩), .int .i64 lo, .int .i64 hi] w (RInt fun m w' => lo ≤ m ∧ m ≤ hi ∧ SStep b w w' (k + 1)) := by
  go_enter Tryz.func69, Tryz.ntmps69
  go_wp2_with fail
  refine (next_any b k _ _ hs hk (by omega) (by omega)).mono ?_
  rintro e w' ⟨m, rfl, h4, h5, h6⟩
  go_wp2_with fail
  go_ret
  exact ⟨_, rfl, by omega, by omega, h6⟩

set_option maxHeartbeats 400000 in
theorem pick_any (xs : List Int) (b k g n : Nat) (w : World) (hs : SInv b w k) (hk : k < 4611686018427387904) (hx : Blk w g 3 (xs.map (Value.int .i64)).toArray) (hn : xs.length = n) (hn0 : 0 < n) (hn1 : n < 1000) :
    Calls Tryz.prog 23 #[.pointer (some ⟨b, 0, none⟩), .slice (some ⟨g, 0, none⟩) n n] w (RInt fun m w' => m ∈ xs ∧ SStep b w w' (k + 1)) := by
  have hgb : g ≠ b := by
    obtain ⟨A, l, c, q, z, hb, _⟩ := hs
    exact hx.ne hb (by decide)
  go_enter Tryz.func23, Tryz.ntmps23
  go_wp2_with fail
  refine (next_any b k _ _ hs hk (by omega) (by omega)).mono ?_
  rintro e w' ⟨m, rfl, h4, h5, h6⟩
  obtain ⟨m, rfl⟩ := Int.eq_ofNat_of_zero_le h4
  have hc := (hx.mod h6.only hgb).cell m
  have hm : m < xs.length := by omega
  rw [show (xs.map (Value.int .i64)).toArray[m]? = some (.int .i64 xs[m]) by simp [hm]] at hc
  go_wp2_with fail
  go_ret
  exact ⟨_, rfl, List.getElem_mem hm, h6⟩

set_option maxHeartbeats 400000 in
theorem some_any (xs : List ByteArray) (b k g n : Nat) (w : World) (hs : SInv b w k) (hk : k < 4611686018427387904) (hx : Blk w g 9 (xs.map Value.string).toArray) (hn : xs.length = n) (hn0 : 0 < n) (hn1 : n < 1000) :
    Calls Tryz.prog 39 #[.pointer (some ⟨b, 0, none⟩), .slice (some ⟨g, 0, none⟩) n n] w (RStr fun m w' => m ∈ xs ∧ SStep b w w' (k + 1)) := by
  have hgb : g ≠ b := by
    obtain ⟨A, l, c, q, z, hb, _⟩ := hs
    exact hx.ne hb (by decide)
  go_enter Tryz.func39, Tryz.ntmps39
  go_wp2_with fail
  refine (next_any b k _ _ hs hk (by omega) (by omega)).mono ?_
  rintro e w' ⟨m, rfl, h4, h5, h6⟩
  obtain ⟨m, rfl⟩ := Int.eq_ofNat_of_zero_le h4
  have hc := (hx.mod h6.only hgb).cell m
  have hm : m < xs.length := by omega
  rw [show (xs.map Value.string).toArray[m]? = some (.string xs[m]) by simp [hm]] at hc
  go_wp2_with fail
  go_ret
  exact ⟨_, rfl, List.getElem_mem hm, h6⟩

end Go.Proofs.YtnbcfpjalgfikaaGreatDoor
