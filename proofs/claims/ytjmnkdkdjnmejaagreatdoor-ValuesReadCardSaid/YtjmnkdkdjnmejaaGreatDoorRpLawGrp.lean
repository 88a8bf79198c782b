/- Several texts in one. (1) The Replacer's sizes. No program is walked. No conditions. (2) A row of bytes that is made, written and copied into. No program is walked. No conditions. -/
import Derived.Test.YtjmnkdkdjnmejaaGreatDoorSameGrp
import Derived.Lib.Bytealg
import Derived.Deep.OwnRows
import Derived.Laws.CopyRow

namespace Go.Proofs.YtjmnkdkdjnmejaaGreatDoor
open Go.RowKit
set_option linter.unusedVariables false
set_option linter.unusedSimpArgs false
/-- how many bytes stand for one -/
def rpWd (c : UInt8) : Nat := if rpW c.toNat = 0 then 1 else rpW c.toNat
def rpLen (l : List UInt8) : Nat := (l.map rpWd).sum
def rpBs : List UInt8 := [125, 91, 58, 44]
def rpNs (l : List UInt8) (k : Nat) : Nat := l.length + ((rpBs.take k).map fun c => Lib.countByte l c * (rpW c.toNat - 1)).sum
theorem rpW_le (z : Nat) : rpW z ≤ 3 := by
  unfold rpW
  split
  · omega
  split
  · omega
  split
  · omega
  split <;> omega
theorem rpWd_bd (c : UInt8) : 1 ≤ rpWd c ∧ rpWd c ≤ 3 := by
  have := rpW_le c.toNat
  unfold rpWd
  split <;> omega
theorem rpLen_cons (c : UInt8) (l : List UInt8) : rpLen (c :: l) = rpWd c + rpLen l := by simp [rpLen]
theorem rpLen_append (a b : List UInt8) : rpLen (a ++ b) = rpLen a + rpLen b := by simp [rpLen]
theorem rpLen_bd : ∀ l : List UInt8, l.length ≤ rpLen l ∧ rpLen l ≤ 3 * l.length
  | [] => by simp [rpLen]
  | c :: l => by
    have h := rpLen_bd l
    have h2 := rpWd_bd c
    rw [rpLen_cons, List.length_cons]
    omega
theorem rpLen_take (l : List UInt8) {k : Nat} (h : k < l.length) : rpLen (l.take (k + 1)) = rpLen (l.take k) + rpWd l[k] := by
  rw [List.take_succ_eq_append_getElem h, rpLen_append]
  simp [rpLen]
theorem rpLen_le (l : List UInt8) (k : Nat) : rpLen (l.take k) + (l.length - k) ≤ rpLen l := by
  have h := rpLen_append (l.take k) (l.drop k)
  rw [List.take_append_drop] at h
  have h2 := (rpLen_bd (l.drop k)).1
  rw [List.length_drop] at h2
  omega
theorem rpLen_lt (l : List UInt8) {k : Nat} (h : k < l.length) : rpLen (l.take k) + rpWd l[k] ≤ rpLen l := by
  have := rpLen_le l (k + 1)
  rw [rpLen_take l h] at this
  omega
theorem rpNs_all : ∀ l : List UInt8, rpNs l 4 = rpLen l
  | [] => by simp [rpNs, rpLen, Lib.countByte, rpBs]
  | c :: l => by
    have h := rpNs_all l
    rw [rpLen_cons, ← h]
    simp only [rpNs, rpBs, Lib.countByte, List.take_succ_cons, List.take_zero, List.map_cons, List.map_nil, List.sum_cons, List.sum_nil, List.count_cons, List.length_cons]
    by_cases h1 : c = 125
    · subst h1; simp [rpWd, rpW]; omega
    by_cases h2 : c = 91
    · subst h2; simp [rpWd, rpW]; omega
    by_cases h3 : c = 58
    · subst h3; simp [rpWd, rpW]; omega
    by_cases h4 : c = 44
    · subst h4; simp [rpWd, rpW]; omega
    have ne : ∀ d : UInt8, c ≠ d → c.toNat ≠ d.toNat := fun d h e => h (UInt8.toNat_inj.1 e)
    have n1 : c.toNat ≠ 125 := ne 125 h1
    have n2 : c.toNat ≠ 91 := ne 91 h2
    have n3 : c.toNat ≠ 58 := ne 58 h3
    have n4 : c.toNat ≠ 44 := ne 44 h4
    have hw : rpWd c = 1 := by
      have e : rpW c.toNat = 0 := by unfold rpW; rw [if_neg n4, if_neg n3, if_neg n2, if_neg n1]
      unfold rpWd
      rw [if_pos e]
    simp [hw, h1, h2, h3, h4]
    omega
theorem rpNs_succ (l : List UInt8) {k : Nat} (h : k < 4) : rpNs l (k + 1) = rpNs l k + Lib.countByte l (rpBs[k]'h) * (rpW (rpBs[k]'h).toNat - 1) := by
  unfold rpNs
  rw [List.take_succ_eq_append_getElem (by exact h), List.map_append, List.sum_append]
  simp
  omega
theorem rpBs_get {k : Nat} (h : k < 4) : rpNew[k]'h = ⟨#[rpBs[k]'h]⟩ ∧ 2 ≤ rpW (rpBs[k]'h).toNat ∧ rpW (rpBs[k]'h).toNat ≤ 3 := by
  match k, h with
  | 0, _ => exact ⟨rfl, by show 2 ≤ rpW 125; decide, by show rpW 125 ≤ 3; decide⟩
  | 1, _ => exact ⟨rfl, by show 2 ≤ rpW 91; decide, by show rpW 91 ≤ 3; decide⟩
  | 2, _ => exact ⟨rfl, by show 2 ≤ rpW 58; decide, by show rpW 58 ≤ 3; decide⟩
  | 3, _ => exact ⟨rfl, by show 2 ≤ rpW 44; decide, by show rpW 44 ≤ 3; decide⟩
theorem rpNs_le (l : List UInt8) (k : Nat) : rpNs l k ≤ rpLen l := by
  rw [← rpNs_all]
  unfold rpNs
  have : ∀ (f : UInt8 → Nat) (xs : List UInt8) (k : Nat), ((xs.take k).map f).sum ≤ (xs.map f).sum := fun f xs k => by
    have h := congrArg (fun l => (l.map f).sum) (List.take_append_drop k xs)
    simp only [List.map_append, List.sum_append] at h
    omega
  have h2 := this (fun c => Lib.countByte l c * (rpW c.toNat - 1)) rpBs k
  have h3 : rpBs.take 4 = rpBs := rfl
  rw [h3]
  omega
def bV (c : UInt8) : Value := .int .u8 (c.toNat : Int)
def BB (w : World) (g : Nat) (l : List UInt8) : Prop := Blk w g 5 (l.map bV).toArray
theorem BB.make (w : World) (n : Nat) (hn : n ≤ 10000000) : ∃ w', (∀ P : Nat, (Instr.makeSlice 106 (.int .i64 (n : Int)) (.int .i64 (n : Int))).run Tryz.prog w = .ok (.slice (some ⟨w.heap.size, 0, none⟩) n n) w') ∧ BB w' w.heap.size (List.replicate n 0) ∧ New w w' := by
  have hr := run_make_row' (P := Tryz.prog) 106 5 (.int .u8 0) 1 Tryz.underlying106 (by kernel_rfl) rfl .i64 .i64 n (by omega) (by omega) w
  refine ⟨_, fun _ => hr, ?_, (Mod.refl _ _).alloc _⟩
  have e : ((List.replicate n (0 : UInt8)).map bV).toArray = madeCells #[.int .u8 0] n := by
    apply Array.ext
    · simp [madeCells]
    · intro i h1 h2
      simp [madeCells, bV, Nat.mod_one]
  unfold BB
  rw [e]
  exact Blk.new _ _ _
theorem BB.cell {w : World} {g : Nat} {l : List UInt8} (h : BB w g l) {i : Nat} (hi : i < l.length) : w.cell? ⟨g, i, none⟩ = some (.int .u8 (l[i].toNat : Int)) := by
  rw [Blk.cell h]
  simp [bV, hi]
theorem BB.set {w : World} {g : Nat} {l : List UInt8} (h : BB w g l) (i : Nat) (c : UInt8) : BB (w.setCell ⟨g, i, none⟩ (.int .u8 (c.toNat : Int))) g (l.set i c) := by
  have h2 := Blk.set h i (.int .u8 (c.toNat : Int))
  have e : ((l.map bV).toArray.setIfInBounds i (.int .u8 (c.toNat : Int))) = ((l.set i c).map bV).toArray := by
    rw [lst, List.map_set]
    rfl
  rw [e] at h2
  exact h2
theorem BB.mod {S : Nat → Prop} {w w' : World} {g : Nat} {l : List UInt8} (h : BB w g l) (hm : Mod S w w') (hs : ¬ S g) : BB w' g l := Blk.mod h hm hs
theorem BB.copy {w : World} {g gy j : Nat} {l L : List UInt8} (h : BB w g l) (h2 : BRow w gy L) (hj : j + L.length ≤ l.length) :
    ∃ w' l', (∀ ty c1 c2, (Builtin.copy_ #[106, 106] ty #[.slice (some ⟨g, j, none⟩) (l.length - j) c1, .slice (some ⟨gy, 0, none⟩) L.length c2]).run Tryz.prog w = .ok (goInt L.length) w') ∧ BB w' g l' ∧ l'.length = l.length ∧ Mod (fun k => k = g) w w' := by
  have hl : (L.map bV).length = L.length := by simp
  refine ⟨w.setRow g (((l.map bV).toArray).toList.take j ++ L.map bV ++ ((l.map bV).toArray).toList.drop (j + (L.map bV).length)).toArray, l.take j ++ L ++ l.drop (j + L.length), fun ty c1 c2 => ?_, ?_, ?_, ?_⟩
  · have := run_copy_row (P := Tryz.prog) (ty := ty) w 106 106 5 g j (l.length - j) c1 ⟨gy, 0, none⟩ L.length c2 (l.map bV).toArray 5 (L.map bV) Tryz.underlying106 (by kernel_rfl) h (by simp only [Nat.min_def, List.length_map]; split <;> omega)
      (fun i v hi => by
        have hil : i < L.length := by
          have := (List.getElem?_eq_some_iff.1 hi).1
          simpa using this
        have e : (⟨gy, 0, none⟩ : Addr).add i = ⟨gy, i, none⟩ := by unfold Addr.add; split <;> simp_all
        rw [e, h2.cell hil, ← hi]
        simp [bV, hil]) (by simp only [hl]; simpa using hj) (fun v hv => by
        obtain ⟨c, _, rfl⟩ := List.mem_map.1 hv
        rfl)
    rw [hl] at this
    rw [hl]
    exact this
  · have e : (l.take j ++ L ++ l.drop (j + L.length)).map bV = ((l.map bV).toArray).toList.take j ++ L.map bV ++ ((l.map bV).toArray).toList.drop (j + (L.map bV).length) := by
      simp
    unfold BB
    rw [e]
    exact Blk.setRow h
  · simp only [List.length_append, List.length_take, List.length_drop]; omega
  · exact (Mod.refl _ _).setRow (.inl rfl)
theorem BB.string {w : World} {g c : Nat} {l : List UInt8} (h : BB w g l) :
    (convert 106 9 (.slice (some ⟨g, 0, none⟩) l.length c)).run Tryz.prog w = .ok (.string ⟨l.toArray⟩) w := by
  refine run_convert_bytes_back w 106 9 5 ⟨g, 0, none⟩ c l Tryz.underlying106 Tryz.underlying5 Tryz.underlying9 (fun j hj => ?_)
  have e : (⟨g, 0, none⟩ : Addr).add j = ⟨g, j, none⟩ := by unfold Addr.add; split <;> simp_all
  rw [e]
  exact h.cell hj
theorem step_copy_by {P : Program} {w w' : World} {ops : Array Oper} {o : Oper} {a : Act} {K : Act → World → Prop} {Q : Exit → Act → World → Prop} {E : Prop} (hg : o.guard = none) (s x : Operand) (t t2 : TypeId)
    (ho : o.op = .call { callee := .builtin .copy, args := #[s, x], argTypes := #[t, t2] }) {v1 v2 v : Value} (hs : a.eval s = v1) (hx : a.eval x = v2) (hr : ∀ ty, (Builtin.copy_ #[t, t2] ty #[v1, v2]).run P w = .ok v w')
    (hK : K (a.put o.dst v) w') : if Region.wanted o (yielded ops a.tmps) = true then Oper.wp P o a w K Q else E := by
  have hw : Region.wanted o (yielded ops a.tmps) = true := by simp [Region.wanted, hg]
  rw [if_pos hw]
  unfold Oper.wp execOp
  simp only [ho, resolve, invoke, builtin, Sem.run_bind, Sem.run_pure, Result.andThen_ok, List.map_toArray, List.map_cons, List.map_nil, hs, hx, hr]
  exact hK
end Go.Proofs.YtjmnkdkdjnmejaaGreatDoor
