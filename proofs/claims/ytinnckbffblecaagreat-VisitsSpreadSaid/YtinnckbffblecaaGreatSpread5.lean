/- The program's player of visits: what happens to an order. Conditions: right limits, modest numbers. -/
import Derived.Test.YtinnckbffblecaaGreatSpread4
namespace Go.Proofs.YtinnckbffblecaaGreat
open Go.RowKit Go.MapKept
set_option linter.unusedVariables false
set_option linter.unusedSimpArgs false

section
variable {w w' : World} {B gs gc mc gm : Nat} {gl : List (ByteArray × Nat)} {A : Option Addr} {c : Nat} {ob : List Nat} {l : Lim} {batch D : Int} {p : PSt}
theorem SpAt.ownNe (h : SpAt w B gs gc mc gm gl A c ob l batch D p) {b : Nat} {t : TypeId} (hb : TB w b t) (ht : 128 ≠ t) : ∀ g, blkOf A = some g → g ≠ b := fun g e => by
  rcases h.own.blk with ⟨hA, _⟩ | ⟨g', hA, _, hg⟩
  · rw [hA] at e; cases e
  · rw [hA] at e; injection e with e; subst e; exact hg.ne hb ht
theorem SpAt.ownNeMap (h : SpAt w B gs gc mc gm gl A c ob l batch D p) {b : Nat} {κ : Type} {K : Keys κ} {m : List (κ × Value)} (hb : MapOf K w b m) : ∀ g, blkOf A = some g → g ≠ b := fun g e => by
  rcases h.own.blk with ⟨hA, _⟩ | ⟨g', hA, _, hg⟩
  · rw [hA] at e; cases e
  · rw [hA] at e; injection e with e; subst e; exact hb.ne_blk hg
theorem SpAt.step (h : SpAt w B gs gc mc gm gl A c ob l batch D p) {s : CS} (hc : CStep w gc mc l s w') (hB : B ≤ w.heap.size) : ∃ mc', SpAt w' B gs gc mc' gm gl A c ob l batch D { p with cs := s } ∧ Mod (fun k => k = gc ∨ k = mc) w w' := by
  obtain ⟨mb, h1, h2, h3⟩ := hc
  have n1 : ∀ {b : Nat} {t : TypeId}, TB w b t → t ≠ 127 → ¬ (b = gc ∨ b = mc) := fun hb ht e => by
    rcases e with e | e
    · exact hb.ne h.cen.1.tb ht e
    · exact h.cen.2.ne_blk hb e
  refine ⟨mb, ⟨h.blk.mod h3 (n1 h.blk.tb (by decide)), h1, h.gmp.mod h3 ?_, h.gnd, fun x hx => (h.gat x hx).mod h3 (n1 (h.gat x hx).tb (by decide)), h.gno, h.own.mod h3 ?_, h.ond, fun i b o a1 a2 => (h.ord i b o a1 a2).mod h3 (n1 (h.ord i b o a1 a2).tb (by decide)), ?_, h.bs, h.bc, ?_, h.bg, h.bgl, h.bob⟩, h3⟩
  · rintro (e | e)
    · exact h.gmp.ne_blk h.cen.1.tb e.symm
    · exact h.ne e.symm
  · rintro g e (e2 | e2)
    · exact h.ownNe h.cen.1.tb (by decide) g e e2
    · exact h.ownNeMap h.cen.2 g e e2
  · rcases h2 with e | e
    · rw [e]; exact h.ne
    · have := h.gmp.lt; omega
  · rcases h2 with e | e
    · rw [e]; exact h.bm
    · omega
/-- an order's block turns -/
theorem SpAt.setOrd (h : SpAt w B gs gc mc gm gl A c ob l batch D p) {i b : Nat} (hb : ob[i]? = some b) {o o' : Ord} (ho : p.os[i]? = some o) (hw : OrdAt w' b o') (hm : Only b w w') : SpAt w' B gs gc mc gm gl A c ob l batch D { p with os := p.os.set i o' } := by
  have ht := (h.ord i b o hb ho).tb
  have hlt := lt_of_some ho
  refine ⟨by simpa using h.blk.mod hm (h.blk.tb.ne ht (by decide)), ⟨h.cen.1.mod hm (h.cen.1.tb.ne ht (by decide)), h.cen.2.mod hm (fun e => h.cen.2.ne_blk ht e.symm)⟩, h.gmp.mod hm (fun e => h.gmp.ne_blk ht e.symm), h.gnd, fun x hx => (h.gat x hx).mod hm ((h.gat x hx).tb.ne ht (by decide)), h.gno, by simpa using h.own.mod hm (h.ownNe ht (by decide)), h.ond, ?_, h.ne, h.bs, h.bc, h.bm, h.bg, h.bgl, h.bob⟩
  intro j bj oj hj1 hj2
  simp only [List.getElem?_set] at hj2
  by_cases e : i = j
  · subst e
    rw [hb] at hj1
    injection hj1 with hj1
    simp [hlt] at hj2
    subst hj1 hj2
    exact hw
  · rw [if_neg e] at hj2
    refine (h.ord j bj oj hj1 hj2).mod hm ?_
    intro e2
    subst e2
    have hi1 := lt_of_some hb
    have hi2 := lt_of_some hj1
    rw [List.getElem?_eq_getElem hi1] at hb
    rw [List.getElem?_eq_getElem hi2] at hj1
    injection hb with hb
    injection hj1 with hj1
    exact e ((List.getElem_inj h.ond).1 (hb.trans hj1.symm))
end


theorem cell_set_ne (w : World) {b i : Nat} (u : Value) {g j : Nat} (h : b ≠ g ∨ i ≠ j) : (w.setCell ⟨b, i, none⟩ u).cell? ⟨g, j, none⟩ = w.cell? ⟨g, j, none⟩ :=
  World.cell?_setCell_other _ _ _ _ (by rintro e; injection e with e1 e2; rcases h with h | h <;> contradiction)

def RHap (w : World) (B gs gc gm : Nat) (A : Option Addr) (c : Nat) (l : Lim) (batch D : Int) (p : PSt) (e : Ending) (w' : World) : Prop :=
  ∃ mc' gl' ob', e = .returned (.tuple #[]) ∧ SpAt w' B gs gc mc' gm gl' A c ob' l batch D p ∧ Mod (Far w B spT) w w'

set_option maxRecDepth 100000 in
set_option maxHeartbeats 2000000 in
theorem spread_happen0 (w : World) (B gs gc mc gm : Nat) (gl : List (ByteArray × Nat)) (A : Option Addr) (c : Nat) (ob : List Nat) (l : Lim) (batch D : Int) (p : PSt) (h : SpAt w B gs gc mc gm gl A c ob l batch D p) (hl : WLim l) (hok : p.cs.Ok l)
    (hD : 0 ≤ D ∧ D ≤ 8640000000) (i b : Nat) (o : Ord) (hb : ob[i]? = some b) (ho : p.os[i]? = some o) (hm : o.Mild) (hn : o.next D < 345686400000) (hnd : o.done = false) (hB : B ≤ w.heap.size) :
    Calls Tryz.prog 72 #[.pointer (some ⟨gs, 0, none⟩), .pointer (some ⟨b, 0, none⟩)] w (RHap w B gs gc gm A c l batch D (happenP l D p i)) := by
  have hA1 := (Mod.refl (fun _ => False) w).alloc (.cells #[.pointer (some ⟨b, 0, none⟩)] 128)
  have h1 := h.new hA1
  have hs0 := h1.blk.cell 0
  have hord := h1.ord i b o hb ho
  have o1 := hord.cell 1
  have o2 := hord.cell 2
  have o4 := hord.cell 4
  simp only [Ord.cells] at o1 o2 o4
  simp at hs0 o1 o2 o4
  rw [hnd] at o4
  have hx := Blk.new w 128 #[.pointer (some ⟨b, 0, none⟩)]
  have HX0 := Lib.hid ((hx.cell 0).trans rfl : (w.alloc (.cells #[.pointer (some ⟨b, 0, none⟩)] 128)).cell? ⟨w.heap.size, 0, none⟩ = some (.pointer (some ⟨b, 0, none⟩)))
  have hnx := spread_next gs b _ _ _ _ D o _ h1.blk hord hD hm.1
  have hnn : 0 ≤ o.next D := by unfold Ord.next; split <;> have := hm.1 <;> omega
  have hHP : happenP l D p i = { p with cs := leaseS l p.cs (o.next D) o.gate o.want, os := p.os.set i ⟨o.asked, o.want, o.gate, leaseN l p.cs (o.next D) o.want, true⟩ } := by
    unfold happenP; rw [ho]; simp [hnd]
  have HHP := Lib.hid hHP
  have hls := fun q : Nat => center_lease ((w.alloc (.cells #[.pointer (some ⟨b, 0, none⟩)] 128)).drewN q) gc mc l p.cs h1.cen hl hok (o.next D) o.gate o.want hnn hn hm.2.1.1 hm.2.1.2
  have HLS := Lib.hid hls
  have HH := Lib.hid h1
  have hgb : gs ≠ b := h.blk.tb.ne (h.ord i b o hb ho).tb (by decide)
  have hgs := h.blk.lt
  have hbl := (h.ord i b o hb ho).lt
  have hgcl := h.cen.1.lt
  have hmcl := h.cen.2.lt
  generalize hnxt : o.next D = T at *
  clear h h1 hHP hls hord hx
  go_enter Tryz.func72, Tryz.ntmps72
  go_wp2_with (go_at_call 88; refine hnx.mono ?_; clear hnx; rintro e w1 ⟨rfl, q, rfl⟩)
  go_region_held3 (fun w' => w'.cell? ⟨w.heap.size, 0, none⟩ = some (.pointer (some ⟨b, 0, none⟩)) ∧ w'.cell? ⟨gs, 0, none⟩ = some (.pointer (some ⟨gc, 0, none⟩)) ∧ w'.cell? ⟨b, 1, none⟩ = some (.int .i64 o.want) ∧ w'.cell? ⟨b, 2, none⟩ = some (.string o.gate)) (first | go_keep | exact ⟨(cell_set_ne _ _ (.inl (by omega))).trans k0, (cell_set_ne _ _ (.inl hgb.symm)).trans k1, (cell_set_ne _ _ (.inr (by omega))).trans k2, (cell_set_ne _ _ (.inr (by omega))).trans k3⟩)
    (first
      | (go_at_call 75; refine (center_lease _ gc mc l p.cs (by exact HH.out.cen) hl hok T o.gate o.want hnn hn hm.2.1.1 hm.2.1.2).mono ?_; rintro e w2 ⟨rfl, hcs⟩; obtain ⟨mc2, h2, hm2⟩ := (HH.out.new ((Mod.refl (fun _ => False) _).drewN (q + 1))).step hcs (by simp; omega); have o2' := h2.ord i b o hb ho; have k0 : w2.cell? ⟨w.heap.size, 0, none⟩ = some (.pointer (some ⟨b, 0, none⟩)) := (hm2.cell (p := ⟨w.heap.size, 0, none⟩) (by simp) (by rintro (e | e) <;> simp at e <;> omega)).trans HX0.out; have k1 : w2.cell? ⟨gs, 0, none⟩ = some (.pointer (some ⟨gc, 0, none⟩)) := (h2.blk.cell 0).trans rfl; have k2 : w2.cell? ⟨b, 1, none⟩ = some (.int .i64 o.want) := (o2'.cell 1).trans rfl; have k3 : w2.cell? ⟨b, 2, none⟩ = some (.string o.gate) := (o2'.cell 2).trans rfl; have k4 : w2.cell? ⟨b, 3, none⟩ = some (.int .i64 o.given) := (o2'.cell 3).trans rfl; have k5 := o2'.frozen 3; have k6 := o2'.frozen 4; have k7 := o2'.lt; have k8 : w2.cell? ⟨b, 4, none⟩ = some (.bool o.done) := (o2'.cell 4).trans rfl))
  go_wp2_with fail
  go_end0
  refine ⟨mc2, gl, ob, rfl, ?_, ?_⟩
  · rw [HHP.out]
    refine SpAt.setOrd (p := { p with cs := leaseS l p.cs T o.gate o.want }) (w := w2) h2 hb ho ?_ ?_
    · have := (o2'.set 3 (.int .i64 (min o.want (l.most - isum (thereG l p.cs T))))).set 4 (.bool true)
      simp [Ord.cells] at this
      exact this
    · refine Mod.setCell (Mod.setCell (Mod.refl _ _) (.inl ?_) _) (.inl ?_) _ <;> rfl
  · have hbl2 := HH.out.bob b (List.mem_of_getElem? hb)
    have m2 : Mod (Far ((w.alloc (.cells #[.pointer (some ⟨b, 0, none⟩)] 128)).drewN (q + 1)) B spT) ((w.alloc (.cells #[.pointer (some ⟨b, 0, none⟩)] 128)).drewN (q + 1)) w2 := hm2.mono (fun k hk e => by
      rcases e with e | e
      · subst e; exact Far.of_tb HH.out.cen.1.tb HH.out.bc (by simp)
      · subst e; exact Far.of_map HH.out.cen.2 HH.out.bm)
    refine Far.trans (Far.trans (Far.new (hA1.drewN (q + 1))) m2) (Far.only (Far.of_tb o2'.tb hbl2 (by simp)) ?_)
    refine Mod.setCell (Mod.setCell (Mod.refl _ _) (.inl ?_) _) (.inl ?_) _ <;> rfl

theorem filter_eraseIdx {ob : List Nat} (hnd : ob.Nodup) {i b : Nat} (hb : ob[i]? = some b) : ob.filter (fun x => !decide (x = b)) = ob.eraseIdx i := by
  induction ob generalizing i with
  | nil => simp at hb
  | cons x ob ih =>
    rw [List.nodup_cons] at hnd
    cases i with
    | zero =>
      simp at hb; subst hb
      simp only [List.eraseIdx_cons_zero, List.filter_cons, decide_true, Bool.not_true, Bool.false_eq_true, if_false]
      rw [List.filter_eq_self]
      intro a ha
      simp only [Bool.not_eq_true', decide_eq_false_iff_not]
      rintro rfl
      exact hnd.1 ha
    | succ i =>
      simp only [List.getElem?_cons_succ] at hb
      have hne : x ≠ b := by rintro rfl; exact hnd.1 (List.mem_of_getElem? hb)
      simp [List.filter_cons, hne, ih hnd.2 hb]

section
variable {w w' : World} {B gs gc mc gm : Nat} {gl : List (ByteArray × Nat)} {c g : Nat} {ob : List Nat} {l : Lim} {batch D : Int} {p : PSt}
theorem SpAt.drop (h : SpAt w B gs gc mc gm gl (some ⟨g, 0, none⟩) c ob l batch D p) {i b : Nat} (hb : ob[i]? = some b) (hown : Own w' B 128 1 ptrEnc (some ⟨g, 0, none⟩) (ob.eraseIdx i).length c (ob.eraseIdx i)) (hm : Mod (fun k => k = g ∨ k = gs) w w')
    (hblk : Blk w' gs 87 #[.pointer (some ⟨gc, 0, none⟩), .int .i64 batch, .int .i64 D, .map (some gm), .slice (some ⟨g, 0, none⟩) (ob.eraseIdx i).length c]) : SpAt w' B gs gc mc gm gl (some ⟨g, 0, none⟩) c (ob.eraseIdx i) l batch D { p with os := p.os.eraseIdx i } := by
  have hlen := h.len
  have hib := lt_of_some hb
  have hg : TB w g 128 := by
    rcases h.own.blk with ⟨hA, _⟩ | ⟨g', hA, _, hg⟩
    · cases hA
    · injection hA with hA; injection hA with hA; subst hA; exact hg
  have n1 : ∀ {b : Nat} {t : TypeId}, TB w b t → t ≠ 128 → t ≠ 87 → ¬ (b = g ∨ b = gs) := fun hb h1 h2 e => by
    rcases e with e | e
    · exact hb.ne hg h1 e
    · exact hb.ne h.blk.tb h2 e
  have n2 : ∀ {b : Nat} {κ : Type} {K : Keys κ} {m : List (κ × Value)}, MapOf K w b m → ¬ (b = g ∨ b = gs) := fun hb e => by
    rcases e with e | e
    · exact hb.ne_blk hg e.symm
    · exact hb.ne_blk h.blk.tb e.symm
  have e1 : (p.os.eraseIdx i).length = (ob.eraseIdx i).length := by rw [List.length_eraseIdx, List.length_eraseIdx, hlen]
  refine ⟨by simpa only [e1] using hblk, ⟨h.cen.1.mod hm (n1 h.cen.1.tb (by decide) (by decide)), h.cen.2.mod hm (n2 h.cen.2)⟩, h.gmp.mod hm (n2 h.gmp), h.gnd, fun x hx => (h.gat x hx).mod hm (n1 (h.gat x hx).tb (by decide) (by decide)), h.gno, by simpa only [e1] using hown,
    List.Nodup.sublist (List.eraseIdx_sublist _ _) h.ond, ?_, h.ne, h.bs, h.bc, h.bm, h.bg, h.bgl, fun b hb => h.bob b ((List.eraseIdx_sublist _ _).subset hb)⟩
  intro j bj oj hj1 hj2
  rw [List.getElem?_eraseIdx] at hj1 hj2
  by_cases e : j < i
  · simp only [e, if_true] at hj1 hj2
    exact (h.ord j bj oj hj1 hj2).mod hm (n1 (h.ord j bj oj hj1 hj2).tb (by decide) (by decide))
  · simp only [e, if_false] at hj1 hj2
    exact (h.ord _ bj oj hj1 hj2).mod hm (n1 (h.ord _ bj oj hj1 hj2).tb (by decide) (by decide))
end

theorem enters_happen1 (args : Array Value) (w : World) : (callFunc 91 args).run Tryz.prog w = .ok (.enter 91 args) w := by
  go_simp
theorem enters_visit1 (args : Array Value) (w : World) : (callFunc 77 args).run Tryz.prog w = .ok (.enter 77 args) w := by
  go_simp

end Go.Proofs.YtinnckbffblecaaGreat
