/- Rows that a call owns: striking one element out. No conditions. -/
import Derived.Test.YtjehlecgnepgmaaGreatDoorRow
namespace Go.Proofs.YtjehlecgnepgmaaGreatDoor
open Go.RowKit
set_option linter.unusedVariables false
set_option linter.unusedSimpArgs false

theorem take_drop_flat {α : Type} {sz : Nat} {enc : α → Nat → Value} (xs : List α) (i : Nat) : (xs.drop i).flatMap (encL sz enc) = (xs.flatMap (encL sz enc)).drop (i * sz) := by
  induction xs generalizing i with
  | nil => simp
  | cons x xs ih =>
    cases i with
    | zero => simp
    | succ i =>
      rw [List.drop_succ_cons, List.flatMap_cons, ih, List.drop_append, encL_length, Nat.succ_mul, Nat.add_sub_cancel, List.drop_of_length_le (l := encL sz enc x) (by rw [encL_length]; omega), List.nil_append]

/-- append(s[:k], s[k+1:]...) in a row that the call owns: the row then holds the others, and its last element twice -/
theorem Own.delete {α : Type} {w : World} {B : Nat} {t : TypeId} {sz bytes : Nat} {enc : α → Nat → Value} {n c : Nat} {xs : List α} {P : Program} {g : Nat} (h : Own w B t sz enc (some ⟨g, 0, none⟩) n c xs) {ts : TypeId} (ht : P.underlying ts = some (.slice t)) (hi : EInfo P t sz bytes)
    (h1 : ∀ x ∈ xs, ∀ j, j < sz → (enc x j).oneCell' = true) (k : Nat) (hk : k < n) (o m c' : Nat) (ho : m = 0 ∨ o = (k + 1) * sz) (hm : m = n - (k + 1)) (a0 : Addr) (ha : m = 0 ∨ a0 = ⟨g, o, none⟩) :
    ∃ w', (∀ ty, (Builtin.append_ #[ts, ts] ty #[.slice (some ⟨g, 0, none⟩) k c, .slice (some a0) m c']).run P w = .ok (.slice (some ⟨g, 0, none⟩) (n - 1) c) w') ∧ Own w' B t sz enc (some ⟨g, 0, none⟩) n c (xs.eraseIdx k ++ xs.drop (n - 1)) ∧ Only g w w' := by
  obtain ⟨i, z, hi0, hz, hsz, hby, hzs, h0⟩ := hi
  obtain ⟨cur, hb, hB, hn, hc, hs, htk⟩ := h.row
  have hl := h.1
  subst hsz
  have hnl : ((xs.drop (k + 1)).flatMap (encL i.size enc)).length = m * i.size := by rw [flat_length, List.length_drop, hm, hl]
  have hroom : k + m ≤ c := by omega
  have hcl : cur.toList.length = c * i.size := by simpa using hs
  have hfit : k * i.size + ((xs.drop (k + 1)).flatMap (encL i.size enc)).length ≤ cur.size := by
    rw [hnl, hs, ← Nat.add_mul]; exact Nat.mul_le_mul_right _ hroom
  have hr := fun ty => run_append_room (P := P) w ts ty t i ht hi0 g k c cur hb a0 m c' ((xs.drop (k + 1)).flatMap (encL i.size enc)) hnl (by
    intro j u hu
    have hj : j < m * i.size := by rw [← hnl]; exact (List.getElem?_eq_some_iff.1 hu).1
    have hm0 : 0 < m := by
      rcases Nat.eq_zero_or_pos m with e | e
      · rw [e] at hj; simp at hj
      · exact e
    obtain rfl : a0 = ⟨g, o, none⟩ := by rcases ha with e | e; (· omega); exact e
    obtain rfl : o = (k + 1) * i.size := by rcases ho with e | e; (· omega); exact e
    have hadd : (⟨g, (k + 1) * i.size, none⟩ : Addr).add j = ⟨g, (k + 1) * i.size + j, none⟩ := by unfold Addr.add; split <;> simp_all
    rw [hadd, hb.cell]
    rw [take_drop_flat, List.getElem?_drop, ← htk, List.getElem?_take] at hu
    split at hu
    · simpa using hu
    · cases hu) (by
    intro u hu
    simp only [List.mem_flatMap, encL, List.mem_map, List.mem_range] at hu
    obtain ⟨x, hx, j, hj, rfl⟩ := hu
    exact h1 x ((List.drop_sublist _ _).subset hx) j hj) hroom hfit
  refine ⟨_, fun ty => by rw [hr ty]; congr 2; omega, ?_, (Mod.refl _ _).setRow (.inl rfl)⟩
  have hkn : k * i.size ≤ n * i.size := Nat.mul_le_mul_right _ (by omega)
  have hnc : n * i.size ≤ c * i.size := Nat.mul_le_mul_right _ hn
  have e0 : k * i.size + m * i.size = (n - 1) * i.size := by rw [← Nat.add_mul]; congr 1; omega
  refine Own.of_row hb.setRow hB hn hc ?_ ?_ ?_
  · simp only [List.size_toArray, List.length_append, List.length_take, List.length_drop, hnl, hcl]; omega
  · rw [List.length_append, List.length_eraseIdx, List.length_drop, hl, if_pos hk]; omega
  · have hle : (n - 1) * i.size ≤ n * i.size := Nat.mul_le_mul_right _ (by omega)
    have e1 : cur.toList.take (k * i.size) = (xs.take k).flatMap (encL i.size enc) := by rw [flat_take, ← htk, List.take_take, Nat.min_eq_left hkn]
    have e2 : (xs.eraseIdx k).flatMap (encL i.size enc) = cur.toList.take (k * i.size) ++ (xs.drop (k + 1)).flatMap (encL i.size enc) := by
      rw [List.eraseIdx_eq_take_drop_succ, List.flatMap_append, e1]
    rw [List.flatMap_append, e2]
    have e3 : (xs.drop (n - 1)).flatMap (encL i.size enc) = (cur.toList.drop ((n - 1) * i.size)).take (n * i.size - (n - 1) * i.size) := by
      rw [take_drop_flat, ← htk, List.drop_take]
    have hln : (cur.toList.take (k * i.size) ++ (xs.drop (k + 1)).flatMap (encL i.size enc)).length = (n - 1) * i.size := by
      rw [List.length_append, hnl, List.length_take, hcl]; omega
    rw [e3, hnl, e0]
    simp only [List.toList_toArray]
    rw [List.take_append, hln, List.take_of_length_le (l := cur.toList.take (k * i.size) ++ (xs.drop (k + 1)).flatMap (encL i.size enc)) (by rw [hln]; exact hle)]

/-- an append whose run is known -/
theorem wpList_append_by {P : Program} {w w' : World} {ops : Array Oper} {rest : List Oper} {o : Oper} {a : Act} {Q : Exit → Act → World → Prop} (hgd : o.guard = none) (s x : Operand) (t : TypeId)
    (ho : o.op = .call { callee := .builtin .append, args := #[s, x], argTypes := #[t, t] }) {v1 v2 v : Value} (hs : a.eval s = v1) (hx : a.eval x = v2) (hr : ∀ ty, (Builtin.append_ #[t, t] ty #[v1, v2]).run P w = .ok v w')
    (h : wpList P ops Q rest (a.put o.dst v) w') : wpList P ops Q (o :: rest) a w := by
  refine wpList_plain hgd fun K hK => ?_
  unfold Oper.wp execOp
  simp only [ho, resolve, invoke, builtin, Sem.run_bind, Sem.run_pure, Result.andThen_ok, List.map_toArray, List.map_cons, List.map_nil, hs, hx, hr]
  exact hK _ _ h

end Go.Proofs.YtjehlecgnepgmaaGreatDoor
