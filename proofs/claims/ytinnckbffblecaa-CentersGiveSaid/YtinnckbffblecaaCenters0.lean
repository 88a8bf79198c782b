/- Making a center and a store. Conditions: a key that can be read. -/
import Derived.Test.YtinnckbffblecaaStore2
import Derived.Test.YtinnckbffblecaaLaw
namespace Go.Proofs.Ytinnckbffblecaa
open Go.RowKit Go.MapKept
set_option linter.unusedVariables false
set_option linter.unusedSimpArgs false

/-- what is wrong with a limit that must count in windows -/
def winF (l : Lim) : Int := if limsFault [l] ≠ 0 then limsFault [l] else if l.kind ≠ 1 then 10 else 0
theorem winF_or (l : Lim) : orL [limsFault [l], whenE (l.kind != 1) 10] = winF l := by
  unfold winF orL orL whenE
  by_cases h1 : limsFault [l] = 0
  · by_cases h2 : l.kind = 1
    · simp [h1, h2, orL]
    · simp [h1, h2]
  · simp [h1]
theorem WLim.of_fault {l : Lim} (h : winF l = 0) : WLim l := by
  unfold winF at h
  split at h
  · contradiction
  · rename_i h1
    split at h
    · cases h
    · rename_i h2
      obtain ⟨_, h⟩ := limsFault_one (by simpa using h1)
      obtain ⟨a, b, c, d, e, f⟩ := limSelf_zero h
      simp at h2
      exact ⟨b, d (by omega)⟩

set_option maxHeartbeats 1000000 in
theorem limit_windowFault (l : Lim) (w : World) (hs : l.key.size ≤ maxLen) :
    Calls Try.prog 44 #[l.val] w fun e w' => e = .returned (.int .i64 (winF l)) ∧ New w w' := by
  obtain ⟨key, kind, most, per, burst⟩ := l
  simp only [Lim.val]
  go_enter Try.func44, Try.ntmps44
  go_wp2_with fail
  refine (limit_checkLimits [⟨key, kind, most, per, burst⟩] _ 1 _ _ (LimRows.one _ _ (Blk.new' _ _ (by simp))) (by omega) (by simpa using hs)).mono ?_
  rintro e w1 ⟨rfl, hm⟩
  obtain ⟨hm1, hz1, -⟩ := hm.pre
  obtain ⟨hm2, hz2, B2⟩ := hm1.pre
  have B3 : Blk w1 w.heap.size 27 _ := B2 (fun h => h)
  clear B2 hm hm1
  have c1 := B3.cell 1
  simp at c1
  by_cases he : limsFault [⟨key, kind, most, per, burst⟩] = 0
  · have HE := Lib.hid he
    rw [he]
    clear he
    by_cases hk : kind = 1
    · subst hk
      go_wp2_with fail
      go_ret
      exact ⟨ret_int (by simp [winF, HE.out]), hm2⟩
    · have hk' : (kind != 1) = true := by simpa using hk
      go_wp2_with fail
      go_ret
      exact ⟨ret_int (by simp [winF, HE.out, hk]), hm2⟩
  · have he' : (limsFault [⟨key, kind, most, per, burst⟩] != 0) = true := by simpa using he
    go_wp2_with fail
    go_ret
    exact ⟨ret_int (by simp [winF, he]), hm2⟩

def RCenter (w : World) (l : Lim) (e : Ending) (w' : World) : Prop := ∃ gc mb, e = .returned (.tuple #[.pointer (some ⟨gc, 0, none⟩), .int .i64 0]) ∧ CenterAt w' gc mb l ⟨0, []⟩ ∧ w.heap.size ≤ gc ∧ w.heap.size ≤ mb ∧ New w w'
def RStore (w : World) (l : Lim) (e : Ending) (w' : World) : Prop := ∃ gs mb, e = .returned (.pointer (some ⟨gs, 0, none⟩)) ∧ StoreAt w' gs mb l ⟨0, []⟩ ∧ w.heap.size ≤ gs ∧ w.heap.size ≤ mb ∧ New w w'

def RCenter0 (w : World) (l : Lim) (e : Ending) (w' : World) : Prop := ∃ gc mb, e = .returned (.pointer (some ⟨gc, 0, none⟩)) ∧ CenterAt w' gc mb l ⟨0, []⟩ ∧ w.heap.size ≤ gc ∧ w.heap.size ≤ mb ∧ New w w'

set_option maxHeartbeats 1000000 in
theorem limit_newCenter (l : Lim) (w : World) :
    Calls Try.prog 45 #[l.val] w (RCenter0 w l) := by
  have hmm := @run_makeMap Try.prog
  obtain ⟨key, kind, most, per, burst⟩ := l
  simp only [Lim.val] at *
  go_enter Try.func45, Try.ntmps45
  go_wp2_with fail
  go_ret
  refine ⟨w.heap.size + 2, w.heap.size + 1, by simp, ⟨?_, ?_⟩, by omega, by omega, (by with_reducible (repeat (first | exact Mod.refl _ _ | refine Mod.drewN ?_ _ | refine Mod.drew ?_ | refine Mod.alloc ?_ _)))⟩
  · have e1 : (0 : Int) / per = 0 := Int.zero_ediv _
    simp only [isum, List.map_nil, List.sum_nil, e1]
    exact Blk.new' _ _ (by simp)
  · refine MapOf.mod (S := fun _ => False) ?_ ((Mod.refl (fun _ => False) _).alloc _) (fun h => h)
    refine MapOf.made ?_
    have := heap_alloc_new (w.alloc (.cells #[.string key, .int .i64 kind, .int .i64 most, .int .i64 per, .int .i64 burst] 27)) (.map #[] 0)
    simpa using this

set_option maxHeartbeats 1000000 in
theorem limit_NewCenter_no (l : Lim) (w : World) (hs : l.key.size ≤ maxLen) (hf : winF l ≠ 0) :
    Calls Try.prog 21 #[l.val] w fun e w' => e = .returned (.tuple #[.pointer none, .int .i64 (winF l)]) ∧ New w w' := by
  have hf' : (winF l != 0) = true := by simpa using hf
  have hfa := limit_windowFault l
  have hz := hfa
  obtain ⟨key, kind, most, per, burst⟩ := l
  simp only [Lim.val] at *
  go_enter Try.func21, Try.ntmps21
  go_wp2_with fail
  refine (hfa _ hs).mono ?_
  rintro e w1 ⟨rfl, hm⟩
  obtain ⟨hm1, hz1, -⟩ := hm.pre
  go_wp2_with fail
  go_ret2
  exact ⟨rfl, hm1⟩

set_option maxHeartbeats 1000000 in
theorem limit_NewCenter_yes (l : Lim) (w : World) (hs : l.key.size ≤ maxLen) (hf : winF l = 0) :
    Calls Try.prog 21 #[l.val] w (RCenter w l) := by
  have hfa := limit_windowFault l
  rw [hf] at hfa
  have HL := Lib.hid hf
  clear hf
  have hmm := @run_makeMap Try.prog
  obtain ⟨key, kind, most, per, burst⟩ := l
  simp only [Lim.val] at *
  go_enter Try.func21, Try.ntmps21
  go_wp2_with fail
  refine (hfa _ hs).mono ?_
  rintro e w1 ⟨rfl, hm⟩
  obtain ⟨hm1, hz1, B1⟩ := hm.pre
  have B3 : Blk w1 w.heap.size 27 _ := B1 (fun h => h)
  have c0 := B3.cell 0
  have c1 := B3.cell 1
  have c2 := B3.cell 2
  have c3 := B3.cell 3
  have c4 := B3.cell 4
  simp at c0 c1 c2 c3 c4
  go_wp2_with fail
  refine (limit_newCenter ⟨key, kind, most, per, burst⟩ w1).mono ?_
  rintro e w2 ⟨gc, mb, rfl, hc, hgc, hmb, hm2⟩
  go_wp2_with fail
  go_ret2
  exact ⟨gc, mb, rfl, hc, by omega, by omega, hm1.trans hm2⟩

set_option maxHeartbeats 1000000 in
theorem ref_NewStore (l : Lim) (w : World) :
    Calls Try.prog 22 #[l.val] w (RStore w l) := by
  have hmm := @run_makeMap Try.prog
  obtain ⟨key, kind, most, per, burst⟩ := l
  simp only [Lim.val] at *
  go_enter Try.func22, Try.ntmps22
  go_wp2_with fail
  go_ret
  refine ⟨w.heap.size + 2, w.heap.size + 1, by simp, ⟨?_, ?_⟩, by omega, by omega, (by with_reducible (repeat (first | exact Mod.refl _ _ | refine Mod.drewN ?_ _ | refine Mod.drew ?_ | refine Mod.alloc ?_ _)))⟩
  · exact Blk.new' _ _ (by simp)
  · refine MapOf.mod (S := fun _ => False) ?_ ((Mod.refl (fun _ => False) _).alloc _) (fun h => h)
    refine MapOf.made ?_
    have := heap_alloc_new (w.alloc (.cells #[.string key, .int .i64 kind, .int .i64 most, .int .i64 per, .int .i64 burst] 27)) (.map #[] 0)
    simpa using this

def RCen (w : World) (l : Lim) (e : Ending) (w' : World) : Prop := ∃ p, e = .returned (.tuple #[.pointer p, .int .i64 (winF l)]) ∧ ((winF l ≠ 0 ∧ p = none) ∨ (winF l = 0 ∧ ∃ gc mb, p = some ⟨gc, 0, none⟩ ∧ CenterAt w' gc mb l ⟨0, []⟩ ∧ w.heap.size ≤ gc ∧ w.heap.size ≤ mb)) ∧ New w w'
theorem limit_NewCenter (l : Lim) (w : World) (hs : l.key.size ≤ maxLen) : Calls Try.prog 21 #[l.val] w (RCen w l) := by
  by_cases hf : winF l = 0
  · refine (limit_NewCenter_yes l w hs hf).mono ?_
    rintro e w1 ⟨gc, mb, rfl, hc, h1, h2, hm⟩
    exact ⟨_, by rw [hf], .inr ⟨hf, gc, mb, rfl, hc, h1, h2⟩, hm⟩
  · refine (limit_NewCenter_no l w hs hf).mono ?_
    rintro e w1 ⟨rfl, hm⟩
    exact ⟨_, rfl, .inl ⟨hf, rfl⟩, hm⟩

/-- a center and a store that lie apart, both behind B -/
structure Pair (w : World) (B gc mc : Nat) (s : CS) (gs ms : Nat) (d : CS) (l : Lim) : Prop where
  cen : CenterAt w gc mc l s
  sto : StoreAt w gs ms l d
  cg : B ≤ gc
  cm : B ≤ mc
  dg : B ≤ gs
  dm : B ≤ ms
  n1 : gc ≠ gs
  n2 : gc ≠ ms
  n3 : mc ≠ gs
  n4 : mc ≠ ms
theorem Pair.mod {S : Nat → Prop} {w w' : World} {B gc mc gs ms : Nat} {s d : CS} {l : Lim} (h : Pair w B gc mc s gs ms d l) (hm : Mod S w w') (hS : ∀ i, S i → i < B) : Pair w' B gc mc s gs ms d l :=
  ⟨⟨h.cen.1.mod hm (fun e => by have := hS _ e; have := h.cg; omega), h.cen.2.mod hm (fun e => by have := hS _ e; have := h.cm; omega)⟩,
    ⟨h.sto.1.mod hm (fun e => by have := hS _ e; have := h.dg; omega), h.sto.2.mod hm (fun e => by have := hS _ e; have := h.dm; omega)⟩,
    h.cg, h.cm, h.dg, h.dm, h.n1, h.n2, h.n3, h.n4⟩
theorem Pair.cstep {w w' : World} {B gc mc gs ms : Nat} {s d s' : CS} {l : Lim} (h : Pair w B gc mc s gs ms d l) (hc : CStep w gc mc l s' w') : ∃ mc', Pair w' B gc mc' s' gs ms d l ∧ Mod (fun k => B ≤ k) w w' := by
  obtain ⟨mc', h1, h2, h3⟩ := hc
  have hB := h.cm
  have hl := h.cen.2.lt
  have g1 := h.sto.1.lt
  have g2 := h.sto.2.lt
  have e1 := h.n1
  have e2 := h.n2
  have e3 := h.n3
  have e4 := h.n4
  refine ⟨mc', ⟨h1, ⟨h.sto.1.mod h3 (by omega), h.sto.2.mod h3 (by omega)⟩, h.cg, by omega, h.dg, h.dm, h.n1, h.n2, by omega, by omega⟩, h3.mono (fun i hi e => ?_)⟩
  have := h.cg
  omega
theorem Pair.dstep {w w' : World} {B gc mc gs ms : Nat} {s d d' : CS} {l : Lim} (h : Pair w B gc mc s gs ms d l) (hc : DStep w gs ms l d' w') : ∃ ms', Pair w' B gc mc s gs ms' d' l ∧ Mod (fun k => B ≤ k) w w' := by
  obtain ⟨ms', h1, h2, h3⟩ := hc
  have hB := h.dm
  have hl := h.sto.2.lt
  have g1 := h.cen.1.lt
  have g2 := h.cen.2.lt
  have e1 := h.n1
  have e2 := h.n2
  have e3 := h.n3
  have e4 := h.n4
  refine ⟨ms', ⟨⟨h.cen.1.mod h3 (by omega), h.cen.2.mod h3 (by omega)⟩, h1, h.cg, h.cm, h.dg, by omega, h.n1, by omega, h.n3, by omega⟩, h3.mono (fun i hi e => ?_)⟩
  have := h.dg
  omega

end Go.Proofs.Ytinnckbffblecaa
