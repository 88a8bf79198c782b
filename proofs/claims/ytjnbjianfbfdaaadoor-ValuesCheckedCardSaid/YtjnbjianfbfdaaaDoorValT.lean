/- Values written: the program's writer. Conditions: a right value, a text that is not too large; strconv's table. -/
import Derived.Test.YtjnbjianfbfdaaaDoorValQ
import Derived.Test.YtjnbjianfbfdaaaDoorVal2
import Derived.Test.YtjnbjianfbfdaaaDoorPow
import Derived.Test.YtjnbjianfbfdaaaDoorHeld2
import Derived.Lib.ItoaMem
namespace Go.Proofs.YtjnbjianfbfdaaaDoor
open Go.RowKit
set_option linter.unusedVariables false
set_option linter.unusedSimpArgs false

theorem orF_zero_iff {a b : Int} : orF a b = 0 ↔ a = 0 ∧ b = 0 := by
  unfold orF
  by_cases h : a = 0 <;> simp [h]
theorem fz_zero : ∀ {l : List Int}, fz l = 0 → ∀ x ∈ l, x = 0
  | [], _, x, hx => by simp at hx
  | y :: l, h, x, hx => by
    unfold fz at h
    by_cases hy : y = 0
    · rw [if_neg (by simp [hy])] at h
      rcases List.mem_cons.1 hx with rfl | hx
      · exact hy
      · exact fz_zero h x hx
    · rw [if_pos hy] at h
      exact absurd h hy
theorem right_parts {d : Nat} {v : VT} (h : vFault (d + 1) v = 0) : (0 ≤ v.kind ∧ v.kind ≤ 5) ∧ (-1000000000000000 ≤ v.num ∧ v.num ≤ 1000000000000000) ∧ (∀ k (h : k < v.list.length), vFault d v.list[k] = 0) ∧ (∀ k (h : k < v.mem.length), vFault d v.mem[k].2 = 0) := by
  have h1 : orF (orF (headF v) (namesF (v.mem.map (·.1)))) (orF (fz (v.list.map (vFault d))) (fz (v.mem.map fun p => vFault d p.2))) = 0 := h
  rw [orF_zero_iff, orF_zero_iff, orF_zero_iff] at h1
  obtain ⟨⟨hh, _⟩, hl, hm⟩ := h1
  unfold headF at hh
  split at hh
  · cases hh
  rename_i k1
  split at hh
  · cases hh
  split at hh
  · cases hh
  rename_i k2
  refine ⟨by omega, by omega, fun k hk => fz_zero hl _ (List.mem_map.2 ⟨_, List.getElem_mem hk, rfl⟩), fun k hk => fz_zero hm _ (List.mem_map.2 ⟨v.mem[k], List.getElem_mem hk, rfl⟩)⟩
theorem sum_map_mono {α : Type} (f g : α → Nat) : ∀ (l : List α), (∀ x ∈ l, f x ≤ g x) → (l.map f).sum ≤ (l.map g).sum
  | [], _ => by simp
  | x :: l, h => by
    have h1 := h x (by simp)
    have h2 := sum_map_mono f g l (fun y hy => h y (by simp [hy]))
    simp only [List.map_cons, List.sum_cons]
    omega
theorem vText_length (d : Nat) : ∀ v, vFault d v = 0 → (vText d v).length ≤ vW d v := by
  induction d with
  | zero => intro v _; simp [vText]
  | succ d ih =>
    intro v h
    obtain ⟨hk, hn, hl, hm⟩ := right_parts h
    have h1 : (v.list.map fun x => (vText d x).length + 1).sum ≤ (v.list.map fun x => vW d x + 1).sum := sum_map_mono _ _ _ (fun x hx => by
      obtain ⟨i, hi, rfl⟩ := List.mem_iff_getElem.1 hx
      have := ih _ (hl i hi); omega)
    have h2 : (v.mem.map fun p => (quoteL p.1.data.toList).length + 1 + (vText d p.2).length + 1).sum ≤ (v.mem.map fun p => vW d p.2 + (6 * p.1.size + 4)).sum := sum_map_mono _ _ _ (fun p hp => by
      obtain ⟨i, hi, rfl⟩ := List.mem_iff_getElem.1 hp
      have h3 := ih _ (hm i hi)
      have h4 := quoteL_length v.mem[i].1.data.toList
      have h5 : v.mem[i].1.data.toList.length = v.mem[i].1.size := rfl
      omega)
    have c1 := commas_length (v.list.map (vText d))
    have c2 := commas_length (v.mem.map fun p => quoteL p.1.data.toList ++ 58 :: vText d p.2)
    simp only [List.map_map] at c1 c2
    have e1 : ((fun x : List UInt8 => x.length + 1) ∘ vText d) = fun x => (vText d x).length + 1 := rfl
    have e2 : ((fun x : List UInt8 => x.length + 1) ∘ fun p : ByteArray × VT => quoteL p.1.data.toList ++ 58 :: vText d p.2) = fun p => (quoteL p.1.data.toList).length + 1 + (vText d p.2).length + 1 := by
      funext p; simp only [Function.comp, List.length_append, List.length_cons]; omega
    rw [e1] at c1
    rw [e2] at c2
    have q := quoteL_length v.words.data.toList
    have q5 : v.words.data.toList.length = v.words.size := rfl
    have i1 := Lib.itoa_length_le v.num (by omega) (by omega)
    have f1 : (Lib.formatBool v.flag).length ≤ 5 := by cases v.flag <;> decide
    simp only [vText, vW]
    split
    · omega
    split
    · omega
    split
    · omega
    split
    · simp only [List.length_cons, List.length_append, List.length_nil]; omega
    split
    · simp only [List.length_cons, List.length_append, List.length_nil]; omega
    · simp [nullL]; omega
theorem itoa_ne (n : Int) : Lib.itoa n ≠ [] := by
  intro h
  rcases Int.lt_or_le n 0 with h0 | h0
  · have e := Lib.itoa_neg n.natAbs (by omega)
    rw [show -(n.natAbs : Int) = n by omega, h] at e
    cases e
  · obtain ⟨u, rfl⟩ := Int.eq_ofNat_of_zero_le h0
    rw [Lib.itoa_nonneg] at h
    have := congrArg List.length h
    rw [Lib.decDigits_length] at this
    have h1 := Lib.nDigits_pos u
    simp only [List.length_nil] at this
    omega
theorem vText_ne (d : Nat) (v : VT) : vText (d + 1) v ≠ [] := by
  simp only [vText]
  split
  · cases v.flag <;> decide
  split
  · exact itoa_ne _
  split
  · simp [quoteL]
  split
  · simp
  split
  · simp
  · simp [nullL]

theorem buT_writer : BuT 90 := ⟨by kernel_rfl, by decide⟩
theorem full_v (B b : Nat) (l : List UInt8) (w : World) (h : Bw 90 B b l w) (hl : l.length ≤ 200000) :
    Calls Tryd.prog 51 #[.pointer (some ⟨b, 0, none⟩)] w fun e w' => e = .returned (.bool false) ∧ w' = w := by
  have hln := bw_len B b l w h
  have h2 : decide ((200000 : Int) < l.length) = false := by simp; omega
  have hbl := h.lt.2
  go_enter Tryd.func51, Tryd.ntmps51
  go_wp2_with fail
  refine hln.mono ?_
  clear hln
  rintro e w1 ⟨rfl, rfl⟩
  go_wp2_with fail
  go_ret
  exact ⟨rfl, rfl⟩

theorem list_room (d : Nat) (v : VT) {k : Nat} (hk : k < v.list.length) (hr : ∀ k (h : k < v.list.length), vFault d v.list[k] = 0) : 2 + (commas ((v.list.take k).map (vText d))).length + vW d v.list[k] ≤ vW (d + 1) v := by
  have c1 := commas_length ((v.list.take k).map (vText d))
  have h1 : ((v.list.take k).map fun x => (vText d x).length + 1).sum ≤ ((v.list.take k).map fun x => vW d x + 1).sum := sum_map_mono _ _ _ (fun x hx => by
    obtain ⟨i, hi, rfl⟩ := List.mem_iff_getElem.1 hx
    rw [List.getElem_take]
    have := vText_length d _ (hr i (by simp at hi; omega)); omega)
  have h2 := sum_map_one (fun x => vW d x + 1) hk
  simp only [List.map_map] at c1
  have e1 : ((fun x : List UInt8 => x.length + 1) ∘ vText d) = fun x => (vText d x).length + 1 := rfl
  rw [e1] at c1
  simp only [vW]
  omega
theorem mem_room (d : Nat) (v : VT) {k : Nat} (hk : k < v.mem.length) (hr : ∀ k (h : k < v.mem.length), vFault d v.mem[k].2 = 0) :
    2 + (commas ((v.mem.take k).map fun p => quoteL p.1.data.toList ++ 58 :: vText d p.2)).length + ((quoteL v.mem[k].1.data.toList).length + 1 + vW d v.mem[k].2) ≤ vW (d + 1) v := by
  have c1 := commas_length ((v.mem.take k).map fun p => quoteL p.1.data.toList ++ 58 :: vText d p.2)
  have h1 : ((v.mem.take k).map fun p => (quoteL p.1.data.toList).length + 1 + (vText d p.2).length + 1).sum ≤ ((v.mem.take k).map fun p => vW d p.2 + (6 * p.1.size + 4)).sum := sum_map_mono _ _ _ (fun p hp => by
    obtain ⟨i, hi, rfl⟩ := List.mem_iff_getElem.1 hp
    rw [List.getElem_take]
    have h3 := vText_length d _ (hr i (by simp at hi; omega))
    have h4 := quoteL_length (v.mem[i]'(by simp at hi; omega)).1.data.toList
    have h5 : (v.mem[i]'(by simp at hi; omega)).1.data.toList.length = (v.mem[i]'(by simp at hi; omega)).1.size := rfl
    omega)
  have h2 := sum_map_one (fun p : ByteArray × VT => vW d p.2 + (6 * p.1.size + 4)) hk
  have h4 := quoteL_length v.mem[k].1.data.toList
  have h5 : v.mem[k].1.data.toList.length = v.mem[k].1.size := rfl
  simp only [List.map_map] at c1
  have e2 : ((fun x : List UInt8 => x.length + 1) ∘ fun p : ByteArray × VT => quoteL p.1.data.toList ++ 58 :: vText d p.2) = fun p => (quoteL p.1.data.toList).length + 1 + (vText d p.2).length + 1 := by
    funext p; simp only [Function.comp, List.length_append, List.length_cons]; omega
  rw [e2] at c1
  simp only [vW]
  omega
theorem commas_next {α : Type} (f : α → List UInt8) {l : List α} {k : Nat} (h : k < l.length) : commas ((l.take (k + 1)).map f) = (if k = 0 then [] else commas ((l.take k).map f) ++ [44]) ++ f l[k] := by
  have := commas_take (l := l.map f) (k := k) (by simpa using h)
  rw [List.map_take, this, ← List.map_take]
  simp

/-- a step of the writer in block b: nothing else of the caller's turns but rows of bytes -/
def WStep (B b : Nat) (w w' : World) : Prop := Mod (fun k => B ≤ k) w w' ∧ Keep b w w'
theorem WStep.refl (B b : Nat) (w : World) : WStep B b w w := ⟨Mod.refl _ _, Keep.refl _ _⟩
theorem WStep.trans {B b : Nat} {w w1 w2 : World} (h : WStep B b w w1) (h1 : WStep B b w1 w2) : WStep B b w w2 := ⟨h.1.trans h1.1, h.2.trans h1.2 h.1.size⟩
theorem WStep.new {B b : Nat} {w w1 w2 : World} (h : WStep B b w w1) (h1 : New w1 w2) : WStep B b w w2 := h.trans ⟨h1.mono (fun _ _ e => e.elim), Keep.new h1⟩
theorem Bw.tb {T : TypeId} {B b : Nat} {l : List UInt8} {w : World} (h : Bw T B b l w) : TB w b T := by
  rcases h with ⟨h1, v, h2, _⟩ | ⟨h1, v, h2, _⟩
  · exact ⟨_, _, h2⟩
  · exact ⟨_, _, h2⟩
theorem Tree.step {w w' : World} {G : Nat → Prop} {d : Nat} {x : VA} {v : VT} {B b : Nat} (h : Tree w G d x v) (hs : WStep B b w w') (hb : TB w b 90) : Tree w' G d x v :=
  Tree.mod (hs.1.keep hs.2) (fun g _ ht e => by
    rcases e with rfl | e
    · rcases ht with ht | ht
      · exact ht.ne hb (by decide) rfl
      · exact ht.ne hb (by decide) rfl
    · rcases ht with ht | ht
      · exact ht.ne e (by decide) rfl
      · exact ht.ne e (by decide) rfl) d x v h

end Go.Proofs.YtjnbjianfbfdaaaDoor
