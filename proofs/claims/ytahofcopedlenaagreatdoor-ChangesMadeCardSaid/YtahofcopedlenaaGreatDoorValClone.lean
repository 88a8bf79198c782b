/- slices.Clone of rows of values and of members. (printed by mkvalclone.py) Conditions: at most 200000 of them. -/
import Derived.Test.YtahofcopedlenaaGreatDoorVal1
namespace Go.Proofs.YtahofcopedlenaaGreatDoor
open Go.RowKit
set_option linter.unusedVariables false
set_option linter.unusedSimpArgs false

theorem einfo_mem : EInfo Tryz.prog 49 7 104 := EInfo.of (z := .agg #[.string ⟨#[]⟩, .int .i64 0, .bool false, .int .i64 0, .string ⟨#[]⟩, .slice none 0 0, .slice none 0 0]) (by kernel_rfl) rfl (by decide)
theorem append_zero {P : Program} {t e : TypeId} (ht : P.underlying t = some (.slice e)) {i : TypeInfo} (hi : P.info? e = some i) (a b : Addr) (c : Nat) (ty : TypeId) (w : World) :
    (Builtin.append_ #[t, t] ty #[.slice (some a) 0 0, .slice (some b) 0 c]).run P w = .ok (.slice (some a) 0 0) w := by
  have hl := run_loadCells_list (P := P) w b [] (by simp)
  simp at hl
  simp [Builtin.append_, run_underlying ht, sizeOf, typeInfo, hi, Builtin.lenOf, Builtin.firstCells, hl, storeCells]
theorem wpList_append_by2 {P : Program} {w w' : World} {ops : Array Oper} {rest : List Oper} {o : Oper} {a : Act} {Q : Exit → Act → World → Prop} (hgd : o.guard = none) (s x : Operand) (t t2 : TypeId)
    (ho : o.op = .call { callee := .builtin .append, args := #[s, x], argTypes := #[t, t2] }) {v1 v2 v : Value} (hs : a.eval s = v1) (hx : a.eval x = v2) (hr : ∀ ty, (Builtin.append_ #[t, t2] ty #[v1, v2]).run P w = .ok v w')
    (h : wpList P ops Q rest (a.put o.dst v) w') : wpList P ops Q (o :: rest) a w := by
  refine wpList_plain hgd fun K hK => ?_
  unfold Oper.wp execOp
  simp only [ho, resolve, invoke, builtin, Sem.run_bind, Sem.run_pure, Result.andThen_ok, List.map_toArray, List.map_cons, List.map_nil, hs, hx, hr]
  exact hK _ _ h
/-- what append does to a row of the call's own -/
theorem Own.push_mod' {α : Type} {a w w' : World} {B : Nat} {t : TypeId} {sz : Nat} {enc : α → Nat → Value} {A : Option Addr} {n c : Nat} {xs : List α} (h : Own w B t sz enc A n c xs) (hm : New a w) (hg : Mod (fun k => blkOf A = some k) w w') (hB : a.heap.size ≤ B) : New a w' :=
  hm.step hg (fun i hi e => by
    rcases h.blk with ⟨h1, _⟩ | ⟨g, h1, h2, _⟩
    · rw [h1] at e; cases e
    · rw [h1] at e; injection e with e; simp only at e; omega)

def RCloneVA (w : World) (n : Nat) (ls : List VA) (e : Ending) (w' : World) : Prop := ∃ A c, e = .returned (.slice A n c) ∧ Own w' w.heap.size 29 6 VA.enc A n c ls ∧ New w w'
set_option maxHeartbeats 1000000 in
theorem cloneVA (ls : List VA) (A : Option Addr) (n c : Nat) (w : World) (hl : Sl w 29 6 VA.enc A n ls) (hn : n ≤ 200000) :
    Calls Tryz.prog 21 #[.slice A n c] w (RCloneVA w n ls) := by
  have hown : Own (w.alloc (.cells #[] 29)) w.heap.size 29 6 VA.enc (some ⟨w.heap.size, 0, none⟩) 0 0 ([] : List VA) := Own.of_blk (xs := []) (Blk.new _ _ _) (Nat.le_refl _) rfl (by omega)
  by_cases h0 : 0 < n
  · obtain ⟨g, o, rfl, _⟩ := hl.2 h0
    have hq := fun w : World => Lib.run_eql_slice_nil (P := Tryz.prog) w 26 29 (some ⟨g, o, none⟩) n c 0 0 Tryz.underlying26
    simp at hq
    have hm0 : New w (w.alloc (.cells #[] 29)) := (Mod.refl _ _).alloc _
    go_enter Tryz.func21, Tryz.ntmps21
    go_wp2_with (at_builtin; refine wpList_pushAll rfl _ _ _ rfl 88 Tryz.underlying26 einfo_val rfl hown ls g o n c rfl (hl.new hm0) h0 (fun y _ j hj => VA.one y j hj) (by omega) (by omega) (by simp) ?_; intro g1 cap w1 hown1 hm1 hat hlt1)
    simp only [Nat.zero_add, List.nil_append] at hown1
    go_ret
    exact ⟨_, _, by simp, hown1, hown.push_mod' hm0 hm1 (Nat.le_refl _)⟩
  · obtain rfl : n = 0 := by omega
    obtain rfl : ls = [] := List.eq_nil_of_length_eq_zero hl.1
    have hq := fun w : World => Lib.run_eql_slice_nil (P := Tryz.prog) w 26 29 A 0 c 0 0 Tryz.underlying26
    clear hl
    cases A with
    | none =>
      simp at hq
      go_enter Tryz.func21, Tryz.ntmps21
      go_wp2_with fail
      go_ret
      exact ⟨none, 0, rfl, Own.nil, Mod.refl _ _⟩
    | some a =>
      simp at hq
      obtain ⟨i, z, hi0, _⟩ := einfo_val
      have HO := Lib.hid hown
      have hap := fun ty => append_zero (P := Tryz.prog) Tryz.underlying26 hi0 ⟨w.heap.size, 0, none⟩ a c ty (w.alloc (.cells #[] 29))
      clear hown
      go_enter Tryz.func21, Tryz.ntmps21
      go_wp2_with (at_builtin; refine wpList_append_by2 rfl _ _ 26 26 rfl rfl rfl hap ?_)
      go_ret
      exact ⟨_, _, rfl, HO.out, (Mod.refl _ _).alloc _⟩

def RCloneMA (w : World) (n : Nat) (ls : List MA) (e : Ending) (w' : World) : Prop := ∃ A c, e = .returned (.slice A n c) ∧ Own w' w.heap.size 49 7 MA.enc A n c ls ∧ New w w'
set_option maxHeartbeats 1000000 in
theorem cloneMA (ls : List MA) (A : Option Addr) (n c : Nat) (w : World) (hl : Sl w 49 7 MA.enc A n ls) (hn : n ≤ 200000) :
    Calls Tryz.prog 20 #[.slice A n c] w (RCloneMA w n ls) := by
  have hown : Own (w.alloc (.cells #[] 49)) w.heap.size 49 7 MA.enc (some ⟨w.heap.size, 0, none⟩) 0 0 ([] : List MA) := Own.of_blk (xs := []) (Blk.new _ _ _) (Nat.le_refl _) rfl (by omega)
  by_cases h0 : 0 < n
  · obtain ⟨g, o, rfl, _⟩ := hl.2 h0
    have hq := fun w : World => Lib.run_eql_slice_nil (P := Tryz.prog) w 27 49 (some ⟨g, o, none⟩) n c 0 0 Tryz.underlying27
    simp at hq
    have hm0 : New w (w.alloc (.cells #[] 49)) := (Mod.refl _ _).alloc _
    go_enter Tryz.func20, Tryz.ntmps20
    go_wp2_with (at_builtin; refine wpList_pushAll rfl _ _ _ rfl 104 Tryz.underlying27 einfo_mem rfl hown ls g o n c rfl (hl.new hm0) h0 (fun y _ j hj => MA.one y j hj) (by omega) (by omega) (by simp) ?_; intro g1 cap w1 hown1 hm1 hat hlt1)
    simp only [Nat.zero_add, List.nil_append] at hown1
    go_ret
    exact ⟨_, _, by simp, hown1, hown.push_mod' hm0 hm1 (Nat.le_refl _)⟩
  · obtain rfl : n = 0 := by omega
    obtain rfl : ls = [] := List.eq_nil_of_length_eq_zero hl.1
    have hq := fun w : World => Lib.run_eql_slice_nil (P := Tryz.prog) w 27 49 A 0 c 0 0 Tryz.underlying27
    clear hl
    cases A with
    | none =>
      simp at hq
      go_enter Tryz.func20, Tryz.ntmps20
      go_wp2_with fail
      go_ret
      exact ⟨none, 0, rfl, Own.nil, Mod.refl _ _⟩
    | some a =>
      simp at hq
      obtain ⟨i, z, hi0, _⟩ := einfo_mem
      have HO := Lib.hid hown
      have hap := fun ty => append_zero (P := Tryz.prog) Tryz.underlying27 hi0 ⟨w.heap.size, 0, none⟩ a c ty (w.alloc (.cells #[] 49))
      clear hown
      go_enter Tryz.func20, Tryz.ntmps20
      go_wp2_with (at_builtin; refine wpList_append_by2 rfl _ _ 27 27 rfl rfl rfl hap ?_)
      go_ret
      exact ⟨_, _, rfl, HO.out, (Mod.refl _ _).alloc _⟩

end Go.Proofs.YtahofcopedlenaaGreatDoor
