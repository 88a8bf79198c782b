/- slices.Insert of one value, of one member, into a row that the call owns. (printed by mkins.py) Conditions: at most 100000 of them. -/
import Derived.Test.YtpgcbehpknghdaaGreatDoorVal1Grp
import Derived.Test.YtpgcbehpknghdaaGreatDoorRowGrp
import Derived.Lib.Overlaps
import Derived.Lib.AppendZerosOnto
import Derived.Lib.JoinLaws
import Derived.Laws.Externs
import Derived.Shelf.RegionOpenPlain
namespace Go.Proofs.YtpgcbehpknghdaaGreatDoor
open Go.RowKit
set_option linter.unusedVariables false
set_option linter.unusedSimpArgs false

theorem wpList_copy_by {P : Program} {w w' : World} {ops : Array Oper} {rest : List Oper} {o : Oper} {a : Act} {Q : Exit → Act → World → Prop} (hgd : o.guard = none) (s x : Operand) (t t2 : TypeId)
    (ho : o.op = .call { callee := .builtin .copy, args := #[s, x], argTypes := #[t, t2] }) {v1 v2 v : Value} (hs : a.eval s = v1) (hx : a.eval x = v2) (hr : ∀ ty, (Builtin.copy_ #[t, t2] ty #[v1, v2]).run P w = .ok v w')
    (h : wpList P ops Q rest (a.put o.dst v) w') : wpList P ops Q (o :: rest) a w := by
  refine wpList_plain hgd fun K hK => ?_
  unfold Oper.wp execOp
  simp only [ho, resolve, invoke, builtin, Sem.run_bind, Sem.run_pure, Result.andThen_ok, List.map_toArray, List.map_cons, List.map_nil, hs, hx, hr]
  exact hK _ _ h
theorem step_copy_by {P : Program} {w w' : World} {ops : Array Oper} {o : Oper} {a : Act} {K : Act → World → Prop} {Q : Exit → Act → World → Prop} {E : Prop} (hg : o.guard = none) (s x : Operand) (t t2 : TypeId)
    (ho : o.op = .call { callee := .builtin .copy, args := #[s, x], argTypes := #[t, t2] }) {v1 v2 v : Value} (hs : a.eval s = v1) (hx : a.eval x = v2) (hr : ∀ ty, (Builtin.copy_ #[t, t2] ty #[v1, v2]).run P w = .ok v w')
    (hK : K (a.put o.dst v) w') : if Region.wanted o (yielded ops a.tmps) = true then Oper.wp P o a w K Q else E := by
  have hw : Region.wanted o (yielded ops a.tmps) = true := by simp [Region.wanted, hg]
  rw [if_pos hw]
  unfold Oper.wp execOp
  simp only [ho, resolve, invoke, builtin, Sem.run_bind, Sem.run_pure, Result.andThen_ok, List.map_toArray, List.map_cons, List.map_nil, hs, hx, hr]
  exact hK

/-- copy of elements of whatever size: all is read ahead of the first store -/
theorem run_copy_row2 {P : Program} (w : World) (dT sT ty elem : TypeId) {sz : Nat} (g o dLen dCap : Nat) (a : Addr) (sLen sCap : Nat) (cur : Array Value) (t : TypeId) (cs : List Value) (m : Nat)
    (hu : P.underlying dT = some (.slice elem)) (hs : (P.info? elem).map (·.size) = some sz) (hm : Nat.min sLen dLen = m)
    (hg : Blk w g t cur) (hn : cs.length = m * sz)
    (hsrc : ∀ j v, cs[j]? = some v → w.cell? (a.add j) = some v) (hfit : o + cs.length ≤ cur.size) (h1 : ∀ v ∈ cs, v.oneCell' = true) :
    (Builtin.copy_ #[dT, sT] ty #[.slice (some ⟨g, o, none⟩) dLen dCap, .slice (some a) sLen sCap]).run P w =
      .ok (goInt m) (w.setRow g (cur.toList.take o ++ cs ++ cur.toList.drop (o + cs.length)).toArray) := by
  have hl := run_loadCells_list (P := P) w a cs hsrc
  have hst := run_storeCells_at P g o t cs 0 cur w hg (by simpa using hfit) h1
  cases hq : P.info? elem with
  | none => simp [hq] at hs
  | some i =>
    have hi : i.size = sz := by simpa [hq] using hs
    rw [hn] at hl
    simp [Builtin.copy_, run_underlying hu, Builtin.lenOf, Builtin.firstCells, sizeOf, typeInfo, hq, hi, hm, hl, hst]

theorem add_lit' (g o j : Nat) : (⟨g, o, none⟩ : Addr).add j = ⟨g, o + j, none⟩ := by unfold Addr.add; split <;> simp_all
theorem size_va : (Tryz.prog.info? 29).map (·.size) = some 6 := by kernel_rfl
def RIns_va (w : World) (B : Nat) (A : Option Addr) (xs : List VA) (e : Ending) (w' : World) : Prop :=
  ∃ g c, e = .returned (.slice (some ⟨g, 0, none⟩) xs.length c) ∧ Own w' B 29 6 VA.enc (some ⟨g, 0, none⟩) xs.length c xs ∧ Mod (fun k => blkOf A = some k) w w' ∧ (blkOf A = some g ∨ w.heap.size ≤ g)

/-- what stands in a row from element i on -/
theorem row_from_va {cur : Array Value} {ps : List VA} {n : Nat} (i : Nat) (ht : cur.toList.take (n * 6) = ps.flatMap (encL 6 VA.enc)) : ∀ j v, ((ps.drop i).flatMap (encL 6 VA.enc))[j]? = some v → cur[i * 6 + j]? = some v := by
  intro j v hj
  rw [take_drop_flat, ← ht, List.getElem?_drop, List.getElem?_take] at hj
  split at hj
  · simpa using hj
  · cases hj
theorem cells_one_va (xs : List VA) : ∀ v ∈ xs.flatMap (encL 6 VA.enc), v.oneCell' = true := by
  intro u hu
  simp only [List.mem_flatMap, encL, List.mem_map, List.mem_range] at hu
  obtain ⟨x, _, j, hj, rfl⟩ := hu
  exact VA.one x j hj
/-- the row behind both copies -/
theorem row_ins_va {cur : List Value} {ps : List VA} {n i : Nat} (x : VA) (hl : ps.length = n) (hi : i ≤ n) (hfit : (n + 1) * 6 ≤ cur.length) (ht : cur.take (n * 6) = ps.flatMap (encL 6 VA.enc)) (c1 c2 : List Value)
    (h1 : c1 = cur.take ((i + 1) * 6) ++ (ps.drop i).flatMap (encL 6 VA.enc) ++ cur.drop ((i + 1) * 6 + ((ps.drop i).flatMap (encL 6 VA.enc)).length))
    (h2 : c2 = c1.take (i * 6) ++ encL 6 VA.enc x ++ c1.drop (i * 6 + (encL 6 VA.enc x).length)) :
    c2.length = cur.length ∧ c2.take ((n + 1) * 6) = (ps.take i ++ x :: ps.drop i).flatMap (encL 6 VA.enc) := by
  have hd : ((ps.drop i).flatMap (encL 6 VA.enc)).length = (n - i) * 6 := by rw [flat_length, List.length_drop, hl]
  have e1 : cur.take (i * 6) = (ps.take i).flatMap (encL 6 VA.enc) := by
    rw [flat_take, ← ht, List.take_take, Nat.min_eq_left (by omega)]
  have hx : (encL 6 VA.enc x).length = 6 := encL_length _ _ _
  have hc1 : c1.take (i * 6) = (ps.take i).flatMap (encL 6 VA.enc) := by
    rw [h1, List.append_assoc, List.take_append_of_le_length (by simp; omega), List.take_take, Nat.min_eq_left (by omega), e1]
  have hc1d : c1.drop (i * 6 + 6) = (ps.drop i).flatMap (encL 6 VA.enc) ++ cur.drop ((n + 1) * 6) := by
    rw [h1, List.append_assoc, List.drop_append, List.drop_of_length_le (by simp; omega), List.nil_append, List.length_take, Nat.min_eq_left (by omega), show i * 6 + 6 - (i + 1) * 6 = 0 by omega, List.drop_zero, hd]
    congr 2; omega
  rw [hx] at h2
  rw [hc1, hc1d] at h2
  refine ⟨?_, ?_⟩
  · rw [h2]
    simp only [List.length_append, flat_length, List.length_take, List.length_drop, hx, hl]
    omega
  · rw [h2, List.flatMap_append, List.flatMap_cons, List.append_assoc, ← List.append_assoc, ← List.append_assoc, List.take_append_of_le_length (by simp only [List.length_append, flat_length, List.length_take, List.length_drop, hx, hl]; omega)]
    rw [List.take_of_length_le (by simp only [List.length_append, flat_length, List.length_take, List.length_drop, hx, hl]; omega)]
    simp [List.append_assoc]

/-- the row behind both copies into a new row -/
theorem row_ins2_va {R : List Value} {ps : List VA} {n i : Nat} (x : VA) (hl : ps.length = n) (hi : i ≤ n) (hfit : (n + 1) * 6 ≤ R.length) (ht : R.take (i * 6) = (ps.take i).flatMap (encL 6 VA.enc)) (r1 r2 : List Value)
    (h1 : r1 = R.take (i * 6) ++ encL 6 VA.enc x ++ R.drop (i * 6 + (encL 6 VA.enc x).length))
    (h2 : r2 = r1.take ((i + 1) * 6) ++ (ps.drop i).flatMap (encL 6 VA.enc) ++ r1.drop ((i + 1) * 6 + ((ps.drop i).flatMap (encL 6 VA.enc)).length)) :
    r1.length = R.length ∧ r2.length = R.length ∧ r2.take ((n + 1) * 6) = (ps.take i ++ x :: ps.drop i).flatMap (encL 6 VA.enc) := by
  have hd : ((ps.drop i).flatMap (encL 6 VA.enc)).length = (n - i) * 6 := by rw [flat_length, List.length_drop, hl]
  have hx : (encL 6 VA.enc x).length = 6 := encL_length _ _ _
  have hli : ((ps.take i).flatMap (encL 6 VA.enc)).length = i * 6 := by rw [flat_length, List.length_take, Nat.min_eq_left (by omega)]
  have l1 : r1.length = R.length := by rw [h1]; simp only [List.length_append, List.length_take, List.length_drop, hx]; omega
  have e1 : r1.take ((i + 1) * 6) = (ps.take i).flatMap (encL 6 VA.enc) ++ encL 6 VA.enc x := by
    rw [h1, ht, List.take_append_of_le_length (by rw [List.length_append, hli, hx]; omega), List.take_of_length_le (by rw [List.length_append, hli, hx]; omega)]
  refine ⟨l1, ?_, ?_⟩
  · rw [h2]; simp only [List.length_append, List.length_take, List.length_drop, hd, l1]; omega
  · rw [h2, e1, List.take_append_of_le_length (by simp only [List.length_append, hli, hx, hd]; omega), List.take_of_length_le (by simp only [List.length_append, hli, hx, hd]; omega), List.flatMap_append, List.flatMap_cons, List.append_assoc]

theorem size_ma : (Tryz.prog.info? 66).map (·.size) = some 7 := by kernel_rfl
def RIns_ma (w : World) (B : Nat) (A : Option Addr) (xs : List MA) (e : Ending) (w' : World) : Prop :=
  ∃ g c, e = .returned (.slice (some ⟨g, 0, none⟩) xs.length c) ∧ Own w' B 66 7 MA.enc (some ⟨g, 0, none⟩) xs.length c xs ∧ Mod (fun k => blkOf A = some k) w w' ∧ (blkOf A = some g ∨ w.heap.size ≤ g)

/-- what stands in a row from element i on -/
theorem row_from_ma {cur : Array Value} {ps : List MA} {n : Nat} (i : Nat) (ht : cur.toList.take (n * 7) = ps.flatMap (encL 7 MA.enc)) : ∀ j v, ((ps.drop i).flatMap (encL 7 MA.enc))[j]? = some v → cur[i * 7 + j]? = some v := by
  intro j v hj
  rw [take_drop_flat, ← ht, List.getElem?_drop, List.getElem?_take] at hj
  split at hj
  · simpa using hj
  · cases hj
theorem cells_one_ma (xs : List MA) : ∀ v ∈ xs.flatMap (encL 7 MA.enc), v.oneCell' = true := by
  intro u hu
  simp only [List.mem_flatMap, encL, List.mem_map, List.mem_range] at hu
  obtain ⟨x, _, j, hj, rfl⟩ := hu
  exact MA.one x j hj
/-- the row behind both copies -/
theorem row_ins_ma {cur : List Value} {ps : List MA} {n i : Nat} (x : MA) (hl : ps.length = n) (hi : i ≤ n) (hfit : (n + 1) * 7 ≤ cur.length) (ht : cur.take (n * 7) = ps.flatMap (encL 7 MA.enc)) (c1 c2 : List Value)
    (h1 : c1 = cur.take ((i + 1) * 7) ++ (ps.drop i).flatMap (encL 7 MA.enc) ++ cur.drop ((i + 1) * 7 + ((ps.drop i).flatMap (encL 7 MA.enc)).length))
    (h2 : c2 = c1.take (i * 7) ++ encL 7 MA.enc x ++ c1.drop (i * 7 + (encL 7 MA.enc x).length)) :
    c2.length = cur.length ∧ c2.take ((n + 1) * 7) = (ps.take i ++ x :: ps.drop i).flatMap (encL 7 MA.enc) := by
  have hd : ((ps.drop i).flatMap (encL 7 MA.enc)).length = (n - i) * 7 := by rw [flat_length, List.length_drop, hl]
  have e1 : cur.take (i * 7) = (ps.take i).flatMap (encL 7 MA.enc) := by
    rw [flat_take, ← ht, List.take_take, Nat.min_eq_left (by omega)]
  have hx : (encL 7 MA.enc x).length = 7 := encL_length _ _ _
  have hc1 : c1.take (i * 7) = (ps.take i).flatMap (encL 7 MA.enc) := by
    rw [h1, List.append_assoc, List.take_append_of_le_length (by simp; omega), List.take_take, Nat.min_eq_left (by omega), e1]
  have hc1d : c1.drop (i * 7 + 7) = (ps.drop i).flatMap (encL 7 MA.enc) ++ cur.drop ((n + 1) * 7) := by
    rw [h1, List.append_assoc, List.drop_append, List.drop_of_length_le (by simp; omega), List.nil_append, List.length_take, Nat.min_eq_left (by omega), show i * 7 + 7 - (i + 1) * 7 = 0 by omega, List.drop_zero, hd]
    congr 2; omega
  rw [hx] at h2
  rw [hc1, hc1d] at h2
  refine ⟨?_, ?_⟩
  · rw [h2]
    simp only [List.length_append, flat_length, List.length_take, List.length_drop, hx, hl]
    omega
  · rw [h2, List.flatMap_append, List.flatMap_cons, List.append_assoc, ← List.append_assoc, ← List.append_assoc, List.take_append_of_le_length (by simp only [List.length_append, flat_length, List.length_take, List.length_drop, hx, hl]; omega)]
    rw [List.take_of_length_le (by simp only [List.length_append, flat_length, List.length_take, List.length_drop, hx, hl]; omega)]
    simp [List.append_assoc]

/-- the row behind both copies into a new row -/
theorem row_ins2_ma {R : List Value} {ps : List MA} {n i : Nat} (x : MA) (hl : ps.length = n) (hi : i ≤ n) (hfit : (n + 1) * 7 ≤ R.length) (ht : R.take (i * 7) = (ps.take i).flatMap (encL 7 MA.enc)) (r1 r2 : List Value)
    (h1 : r1 = R.take (i * 7) ++ encL 7 MA.enc x ++ R.drop (i * 7 + (encL 7 MA.enc x).length))
    (h2 : r2 = r1.take ((i + 1) * 7) ++ (ps.drop i).flatMap (encL 7 MA.enc) ++ r1.drop ((i + 1) * 7 + ((ps.drop i).flatMap (encL 7 MA.enc)).length)) :
    r1.length = R.length ∧ r2.length = R.length ∧ r2.take ((n + 1) * 7) = (ps.take i ++ x :: ps.drop i).flatMap (encL 7 MA.enc) := by
  have hd : ((ps.drop i).flatMap (encL 7 MA.enc)).length = (n - i) * 7 := by rw [flat_length, List.length_drop, hl]
  have hx : (encL 7 MA.enc x).length = 7 := encL_length _ _ _
  have hli : ((ps.take i).flatMap (encL 7 MA.enc)).length = i * 7 := by rw [flat_length, List.length_take, Nat.min_eq_left (by omega)]
  have l1 : r1.length = R.length := by rw [h1]; simp only [List.length_append, List.length_take, List.length_drop, hx]; omega
  have e1 : r1.take ((i + 1) * 7) = (ps.take i).flatMap (encL 7 MA.enc) ++ encL 7 MA.enc x := by
    rw [h1, ht, List.take_append_of_le_length (by rw [List.length_append, hli, hx]; omega), List.take_of_length_le (by rw [List.length_append, hli, hx]; omega)]
  refine ⟨l1, ?_, ?_⟩
  · rw [h2]; simp only [List.length_append, List.length_take, List.length_drop, hd, l1]; omega
  · rw [h2, e1, List.take_append_of_le_length (by simp only [List.length_append, hli, hx, hd]; omega), List.take_of_length_le (by simp only [List.length_append, hli, hx, hd]; omega), List.flatMap_append, List.flatMap_cons, List.append_assoc]

end Go.Proofs.YtpgcbehpknghdaaGreatDoor
