/- Records: the Builder's length; a line's size. Conditions: none. -/
import Derived.Test.YtccffkdaalnfoaaGreatDoorRec5
namespace Go.Proofs.YtccffkdaalnfoaaGreatDoor
open Go.RowKit
set_option linter.unusedVariables false
set_option linter.unusedSimpArgs false

theorem Bld.row {B b : Nat} {l : List UInt8} {w : World} (h : Bld B b l w) : ∃ p A c, Blk w b 50 #[p, .slice A l.length c] := by
  have key : ∀ p, Lib.BuilderAt 50 5 B b p (Lib.byteCells l) w → ∃ p A c, Blk w b 50 #[p, .slice A l.length c] := by
    rintro p ⟨h1, v, h2, h3, h4⟩
    have hL : (Lib.byteCells l).length = l.length := Lib.byteCells_length l
    rcases h3.2 with ⟨rfl, h0⟩ | ⟨g, cap, cur, rfl, _⟩
    · refine ⟨p, none, 0, ?_⟩
      rw [← hL, h0]
      exact h2
    · refine ⟨p, some ⟨g, 0, none⟩, cap, ?_⟩
      rw [← hL]
      exact h2
  rcases h with h | h
  · exact key _ h
  · exact key _ h
theorem bld_len (B b : Nat) (l : List UInt8) (w : World) (h : Bld B b l w) :
    Calls Tryz.prog 22 #[.pointer (some ⟨b, 0, none⟩)] w fun e w' => e = .returned (.int .i64 l.length) ∧ w = w' := by
  obtain ⟨p, A, c, hb⟩ := h.row
  have c1 : w.cell? ⟨b, 1, none⟩ = some (.slice A l.length c) := (hb.cell 1).trans rfl
  have hlt := hb.lt
  clear hb h
  go_enter Tryz.func22, Tryz.ntmps22
  go_wp2_with fail
  go_ret
  exact ⟨rfl, rfl⟩
theorem recLineB_size {r : RecD} (h : LineRec0 r) : (recLineB r).size ≤ 1200 := by
  obtain ⟨at_, route, caller, act, inst, status, found⟩ := r
  obtain ⟨i1, i2, i3, z1, z2, z3, z4⟩ := h
  simp only at i1 i2 i3 z1 z2 z3 z4
  unfold recLineB recWords
  rw [join7, mk_toList]
  have y1 := itoaB_size i1
  have y2 := itoaB_size i2
  have y3 := itoaB_size i3
  have d1 := dashE_size z1
  have d2 := dashE_size z2
  have d3 := dashE_size z3
  have d4 := dashE_size z4
  have e1 : (sp : ByteArray).size = 1 := rfl
  have e2 : (nl : ByteArray).size = 1 := rfl
  simp only [ByteArray.size_append]
  omega
theorem recText_length {rs : List RecD} (h : ∀ r ∈ rs, LineRec0 r) : (recText rs).length ≤ 1200 * rs.length := by
  unfold recText
  induction rs with
  | nil => simp
  | cons r rs ih =>
    have h1 := recLineB_size (h r List.mem_cons_self)
    have h2 := ih (fun x hx => h x (List.mem_cons_of_mem _ hx))
    have h3 : (recLineB r).data.toList.length = (recLineB r).size := by
      generalize recLineB r = x
      exact Array.length_toList
    simp only [List.flatMap_cons, List.length_append, List.length_cons]
    omega

end Go.Proofs.YtccffkdaalnfoaaGreatDoor
