/- What is known of a map[int]string literal of three entries while it is being filled in whatever order. No conditions. -/
import Derived.Test.YtjehlecgnepgmaaGreatDoorMap3
import Derived.Test.YtjehlecgnepgmaaGreatDoorMaps2
namespace Go.Proofs.YtjehlecgnepgmaaGreatDoor
open Go Go.RowKit
set_option linter.unusedVariables false
set_option linter.unusedSimpArgs false

theorem FMap.store {κ : Type} [DecidableEq κ] {K : Keys κ} {w : World} {b : Nat} {z : Value} {f : κ → Value} {P : Program} (h : FMap K w b z f) {t kt e : TypeId} (ht : P.underlying t = some (.map kt e)) (hk : P.underlying kt = some K.desc) (k : κ) (v : Value) :
    ∃ w', (Instr.mapUpdate t (.map (some b)) (K.enc k) v).run P w = .ok () w' ∧ FMap K w' b z (fupd f k v) ∧ Only b w w' := by
  obtain ⟨m, h, hf⟩ := h
  obtain ⟨w', h1, h2, h3, _⟩ := run_mapUpdate ht hk h k v
  refine ⟨w', h1, ⟨_, h2, fun k' => ?_⟩, h3⟩
  rw [aget_aput]
  unfold fupd
  by_cases e : k' = k
  · simp [e]
  · simp [e, hf]
theorem zero_str (w : World) : (zeroValue 9).run Tryz.prog w = .ok (.string ⟨#[]⟩) w := by kernel_rfl

/-- b1: the map is there; b4: the call has answered T; b5 b10 b15: the entries at 1, 2, 3 are there -/
def J3 (w0 : World) (T T2 T3 : ByteArray) (b1 b4 b5 b10 b15 : Bool) (m t : Value) (W : World) : Prop :=
  New w0 W ∧ (b4 = true → t = .string T) ∧ (b1 = true → ∃ mb f, m = .map (some mb) ∧ w0.heap.size ≤ mb ∧ FMap intKeys W mb (.string ⟨#[]⟩) f ∧ (b5 = true → f 1 = .string T) ∧ (b10 = true → f 2 = .string T2) ∧ (b15 = true → f 3 = .string T3))
section
variable {w0 W W' : World} {T T2 T3 : ByteArray} {b1 b4 b5 b10 b15 : Bool} {m t : Value}
theorem J3.start (u v : Value) : J3 w0 T T2 T3 false false false false false u v w0 := ⟨Mod.refl _ _, fun h => (by cases h), fun h => (by cases h)⟩
theorem J3.new (h : J3 w0 T T2 T3 b1 b4 b5 b10 b15 m t W) : New w0 W := h.1
theorem J3.made (h : J3 w0 T T2 T3 false b4 false false false m t W) : J3 w0 T T2 T3 true b4 false false false (.map (some W.heap.size)) t (W.alloc (.map #[] 0)) :=
  ⟨h.1.alloc _, h.2.1, fun _ => ⟨_, _, rfl, h.1.size, FMap.made (heap_alloc_new W _), fun h => (by cases h), fun h => (by cases h), fun h => (by cases h)⟩⟩
theorem J3.call (h : J3 w0 T T2 T3 b1 false false b10 b15 m t W) (hm : New W W') : J3 w0 T T2 T3 b1 true false b10 b15 m (.string T) W' := by
  refine ⟨h.1.trans hm, fun _ => rfl, fun hb => ?_⟩
  obtain ⟨mb, f, h1, h2, h3, h4, h5, h6⟩ := h.2.2 hb
  exact ⟨mb, f, h1, h2, h3.mod hm (fun e => e), fun h => (by cases h), h5, h6⟩
theorem J3.put1 (h : J3 w0 T T2 T3 true true false b10 b15 m t W) :
    ∃ mb w', m = .map (some mb) ∧ t = .string T ∧ (Instr.mapUpdate 80 (.map (some mb)) (.int .i64 1) (.string T)).run Tryz.prog W = .ok () w' ∧ J3 w0 T T2 T3 true true true b10 b15 (.map (some mb)) (.string T) w' := by
  obtain ⟨hm, ht, hx⟩ := h
  obtain ⟨mb, f, rfl, h2, h3, h4, h5, h6⟩ := hx rfl
  obtain rfl := ht rfl
  obtain ⟨w', r1, r2, r3⟩ := h3.store (P := Tryz.prog) (t := 80) Tryz.underlying80 Tryz.underlying3 1 (.string T)
  refine ⟨mb, w', rfl, rfl, r1, hm.step r3 (fun i hi e => by omega), fun _ => rfl, fun _ => ⟨mb, _, rfl, h2, r2, fun _ => rfl, fun hb => ?_, fun hb => ?_⟩⟩
  · rw [← h5 hb]; rfl
  · rw [← h6 hb]; rfl
theorem J3.put2 (h : J3 w0 T T2 T3 true b4 b5 false b15 m t W) :
    ∃ mb w', m = .map (some mb) ∧ (Instr.mapUpdate 80 (.map (some mb)) (.int .i64 2) (.string T2)).run Tryz.prog W = .ok () w' ∧ J3 w0 T T2 T3 true b4 b5 true b15 (.map (some mb)) t w' := by
  obtain ⟨hm, ht, hx⟩ := h
  obtain ⟨mb, f, rfl, h2, h3, h4, h5, h6⟩ := hx rfl
  obtain ⟨w', r1, r2, r3⟩ := h3.store (P := Tryz.prog) (t := 80) Tryz.underlying80 Tryz.underlying3 2 (.string T2)
  refine ⟨mb, w', rfl, r1, hm.step r3 (fun i hi e => by omega), ht, fun _ => ⟨mb, _, rfl, h2, r2, fun hb => ?_, fun _ => rfl, fun hb => ?_⟩⟩
  · rw [← h4 hb]; rfl
  · rw [← h6 hb]; rfl
theorem J3.put3 (h : J3 w0 T T2 T3 true b4 b5 b10 false m t W) :
    ∃ mb w', m = .map (some mb) ∧ (Instr.mapUpdate 80 (.map (some mb)) (.int .i64 3) (.string T3)).run Tryz.prog W = .ok () w' ∧ J3 w0 T T2 T3 true b4 b5 b10 true (.map (some mb)) t w' := by
  obtain ⟨hm, ht, hx⟩ := h
  obtain ⟨mb, f, rfl, h2, h3, h4, h5, h6⟩ := hx rfl
  obtain ⟨w', r1, r2, r3⟩ := h3.store (P := Tryz.prog) (t := 80) Tryz.underlying80 Tryz.underlying3 3 (.string T3)
  refine ⟨mb, w', rfl, r1, hm.step r3 (fun i hi e => by omega), ht, fun _ => ⟨mb, _, rfl, h2, r2, fun hb => ?_, fun hb => ?_, fun _ => rfl⟩⟩
  · rw [← h4 hb]; rfl
  · rw [← h5 hb]; rfl
/-- what a lookup gives when all are there -/
theorem J3.look (h : J3 w0 T T2 T3 true true true true true m t W) :
    ∃ mb, m = .map (some mb) ∧ t = .string T ∧ (Instr.lookup 80 (.map (some mb)) (.int .i64 1) false).run Tryz.prog W = .ok (.string T) W ∧
      (Instr.lookup 80 (.map (some mb)) (.int .i64 2) false).run Tryz.prog W = .ok (.string T2) W ∧ (Instr.lookup 80 (.map (some mb)) (.int .i64 3) false).run Tryz.prog W = .ok (.string T3) W := by
  obtain ⟨hm, ht, hx⟩ := h
  obtain ⟨mb, f, rfl, h2, h3, h4, h5, h6⟩ := hx rfl
  have g := fun k => h3.look (P := Tryz.prog) (t := 80) Tryz.underlying80 Tryz.underlying3 (zero_str W) k
  refine ⟨mb, rfl, ht rfl, ?_, ?_, ?_⟩
  · rw [← h4 rfl]; exact g 1
  · rw [← h5 rfl]; exact g 2
  · rw [← h6 rfl]; exact g 3
end

end Go.Proofs.YtjehlecgnepgmaaGreatDoor
