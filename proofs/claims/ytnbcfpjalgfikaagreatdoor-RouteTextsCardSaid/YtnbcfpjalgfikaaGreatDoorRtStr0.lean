/- Strings of routes: how long they get. No program in sight. No conditions. -/
import Derived.Test.YtnbcfpjalgfikaaGreatDoorRtMk1
import Derived.Lib.JoinLaws
namespace Go.Proofs.YtnbcfpjalgfikaaGreatDoor
open Go.RowKit
set_option linter.unusedVariables false
set_option linter.unusedSimpArgs false

theorem routeR_mini {r : RtD} (h : RtMini r) : (routeR r).length ≤ 1100 := by
  have h1 : (r.hosts.flatMap hostP).length ≤ 36 * r.hosts.length := flat_le (fun x hx => by
    have := h.hosts.2 x hx
    unfold hostP bHost
    simp only [List.length_append, List.length_cons, List.length_nil, len_size]
    omega)
  have h2 : (r.methods.flatMap methodP).length ≤ 38 * r.methods.length := flat_le (fun x hx => by
    have := h.methods.2 x hx
    unfold methodP bMethod
    simp only [List.length_append, List.length_cons, List.length_nil, len_size]
    omega)
  have h3 : (r.needs.flatMap needR).length ≤ 70 * r.needs.length := flat_le (fun x hx => by
    have := h.needs.2 x hx
    unfold needR bNeed
    refine Nat.le_trans (Nat.le_of_eq (List.length_append)) (Nat.le_trans (Nat.add_le_add_right (trimSuffix_len _ _) _) ?_)
    simp only [List.length_append, List.length_cons, List.length_nil, len_size]
    omega)
  have h4 : (headR r).length ≤ 630 := by
    have := h.key; have := h.path; have := h.dest
    unfold headR bRoute
    refine Nat.le_trans (Nat.le_of_eq (List.length_append)) (Nat.le_trans (Nat.add_le_add_right (trimSuffix_len _ _) _) ?_)
    simp only [List.length_append, List.length_cons, List.length_nil, len_size]
    omega
  have := h.hosts.1
  have := h.methods.1
  have := h.needs.1
  unfold routeR
  simp only [List.length_append]
  omega
theorem routesR_mini {rs : List RtD} (h : ∀ r ∈ rs, RtMini r) : (routesR rs).length ≤ 1100 * rs.length := flat_le (fun r hr => routeR_mini (h r hr))
theorem lens_cons (a : List UInt8) (l : List (List UInt8)) : Lib.lens (a :: l) = a.length + Lib.lens l := by simp [Lib.lens]
/-- words and what stands between them are as long as the text -/
theorem lens_split (c : UInt8) : ∀ (k : Nat) (s : ByteArray), Lib.lens ((Lib.splitB ⟨#[c]⟩ 0 k s).map (·.data.toList)) + (Lib.splitB ⟨#[c]⟩ 0 k s).length ≤ s.size + 1
  | 0, s => by simp [Lib.splitB, Lib.lens, len_size]
  | k + 1, s => by
    rcases Lib.indexB_cases s ⟨#[c]⟩ with h | ⟨i, h, hi⟩
    · rw [Lib.splitB_miss _ 0 _ s h]
      simp [Lib.lens, len_size]
    · rw [Lib.splitB_hit _ 0 k s i h]
      have h1 : (⟨#[c]⟩ : ByteArray).size = 1 := rfl
      have ih := lens_split c k (s.extract (i + (⟨#[c]⟩ : ByteArray).size) s.size)
      simp only [List.map_cons, List.length_cons, lens_cons, len_size] at ih ⊢
      have e1 : (s.extract 0 (i + 0)).size = i := by simp only [ByteArray.size_extract]; omega
      have e2 : (s.extract (i + (⟨#[c]⟩ : ByteArray).size) s.size).size = s.size - (i + 1) := by simp only [ByteArray.size_extract]; omega
      rw [e2] at ih
      rw [e1]
      omega
theorem join_len1 (l : List (List UInt8)) (c : UInt8) : (Lib.join l [c]).length ≤ Lib.lens l + l.length := by
  cases l with
  | nil => simp [Lib.join]
  | cons x r =>
    rw [Lib.join_length]
    simp only [List.length_cons, List.length_nil]
    omega
theorem lens_swap (a b : List UInt8) (l : List (List UInt8)) : Lib.lens (b :: a :: l) = Lib.lens (a :: b :: l) := by
  simp only [lens_cons]
  omega
theorem pieces_lens (t : ByteArray) (c : UInt8) : Lib.lens ((pieces t ⟨#[c]⟩).map (·.data.toList)) + (pieces t ⟨#[c]⟩).length ≤ t.size + 1 := lens_split c _ t
end Go.Proofs.YtnbcfpjalgfikaaGreatDoor
