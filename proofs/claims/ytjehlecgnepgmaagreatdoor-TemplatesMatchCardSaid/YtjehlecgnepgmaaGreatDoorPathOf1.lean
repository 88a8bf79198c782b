/- The reference's loop over an iterator (gateref2.PathOf): what one round may turn; the row turned about. No conditions. -/
import Derived.Test.YtjehlecgnepgmaaGreatDoorPathOf0
import Derived.Test.YtjehlecgnepgmaaGreatDoorPairs
import Derived.Shelf.Abstract
namespace Go.Proofs.YtjehlecgnepgmaaGreatDoor
open Go.RowKit Go.Shelf
set_option linter.unusedVariables false
set_option linter.unusedSimpArgs false

theorem Mod.setCells {S : Nat → Prop} {a : World} {g : Nat} (hg : S g ∨ a.heap.size ≤ g) : ∀ (vs : List Value) (o : Nat) {w : World}, Mod S a w → Mod S a (w.setCells g o vs)
  | [], _, _, h => h
  | v :: vs, o, w, h => Mod.setCells hg vs (o + 1) (h.setCell (p := ⟨g, o, none⟩) hg v)
/-- a row of texts turned about: what its cells hold then -/
theorem rev_any {w : World} {B g n c : Nat} {st : List ByteArray} (h : Own w B 9 1 sEnc (some ⟨g, 0, none⟩) n c st) :
    Calls Tryz.prog 122 #[.slice (some ⟨g, 0, none⟩) n c] w fun e w' => e = .returned (.tuple #[]) ∧ Mod (fun k => k = g) w w' ∧ ∀ i (x : ByteArray), st.reverse[i]? = some x → w'.cell? ⟨g, 0 + i, none⟩ = some (.string x) := by
  have hl := h.1
  have hn : n ≤ maxLen := by
    rcases h.2.2 with ⟨hv, hn⟩ | ⟨g', cap, cur, hv, hB, hh, hc1, hc2, hs, ht⟩
    · cases hv
    · have := h.1; omega
  have hm0 : maxLen ≤ 9223372036854775807 := by unfold maxLen; omega
  have hc0 : ∀ i, i < n → w.cell? ⟨g, 0 + i, none⟩ = some (.string (st.getD i ByteArray.empty)) := fun i hi => by
    rw [Nat.zero_add, h.cell1 (i := i) (by omega), List.getD_eq_getElem?_getD, List.getElem?_eq_getElem (by omega)]
    rfl
  refine (Tryz.slices_Reverse_string_cells g 0 n c (fun i => st.getD i ByteArray.empty) w (by omega) hc0 (fun j _ => h.frozen _)).mono ?_
  rintro e w' ⟨rfl, q, rfl⟩
  refine ⟨rfl, Mod.setCells (S := fun k => k = g) (.inl rfl) _ _ ((Mod.refl _ _).drewN q), fun i x hx => ?_⟩
  have hi : i < st.length := by
    rcases Nat.lt_or_ge i st.reverse.length with h | h
    · simpa using h
    · rw [List.getElem?_eq_none h] at hx; cases hx
  have hil : i < ((Lib.strsOf (fun i => st.getD i ByteArray.empty) n).reverse.map encStr).length := by simp [Lib.strsOf_length]; omega
  have := World.cell?_setCells_in g ((Lib.strsOf (fun i => st.getD i ByteArray.empty) n).reverse.map encStr) 0 (w.drewN q) (fun j hj => by
    rw [List.length_map, List.length_reverse, Lib.strsOf_length] at hj
    have := hc0 j hj
    show (w.cell? _).isSome = true
    rw [this]; rfl) i hil
  rw [this]
  congr 1
  rw [List.getElem_map]
  have e1 : (Lib.strsOf (fun i => st.getD i ByteArray.empty) n) = st.map (·.data.toList) := by
    apply List.ext_getElem
    · rw [Lib.strsOf_length, List.length_map]; omega
    · intro k h1 h2
      rw [List.length_map] at h2
      simp only [Lib.strsOf, List.getElem_map, List.getElem_range, List.getD_eq_getElem?_getD, List.getElem?_eq_getElem h2, Option.getD_some]
  have hx2 : st.reverse[i]'(by simpa using hi) = x := by
    rw [List.getElem?_eq_getElem (by simpa using hi)] at hx
    injection hx
  have hlr : i < (st.map (·.data.toList)).reverse.length := by simpa using hi
  have e2 : (Lib.strsOf (fun i => st.getD i ByteArray.empty) n).reverse[i]'(by simp [Lib.strsOf_length]; omega) = x.data.toList := by
    simp only [e1, ← List.map_reverse, List.getElem_map, hx2]
  rw [e2]

/-- what one round may turn: the two boxes, the row that stands; what is laid anew -/
theorem keeps_of {B ob kb : Nat} {A : Option Addr} {W W' : World} {t1 t2 t3 : TypeId} (hm : Mod (fun k => k = ob ∨ k = kb ∨ blkOf A = some k) W W') (h1 : TB W ob t1) (h2 : TB W kb t2) (h3 : ∀ g, blkOf A = some g → TB W g t3) : KeepsFrom B W W' :=
  ⟨hm.size, fun k o _ hk ho => by
    have no : ∀ g t, TB W g t → k = g → False := by
      rintro g t ⟨cs, fr, hg⟩ rfl
      rw [hg] at hk
      injection hk with hk
      subst hk
      cases ho
    refine (hm.block k (heap_lt hk) ?_).trans hk
    rintro (e | e | e)
    · exact no _ _ h1 e
    · exact no _ _ h2 e
    · exact no _ _ (h3 k e) rfl⟩

/-- the loop's boxes lie in this order -/
def PNum (w0 L lb ob kb Bs n0 : Nat) : Prop := w0 ≤ L ∧ L < lb ∧ lb < ob ∧ ob < kb ∧ kb < Bs ∧ Bs < n0
def PSet (ob kb : Nat) (A : Option Addr) : Nat → Prop := fun k => k = ob ∨ k = kb ∨ blkOf A = some k
section
variable {w0 : World} {L lb ob kb Bs n0 N : Nat} {W : World} {A : Option Addr} {n c : Nat} {out : List ByteArray} {v1 v2 v3 : Array Value}
theorem boxes4 {wr W : World} {cs : Array Value} {v : Value} {t1 t2 t3 : TypeId} {u1 u2 : Value} (h : (((wr.alloc (.cells cs t1)).alloc (.cells #[v] t2)).alloc (.cells #[u1] t2)).alloc (.cells #[u2] t3) = W) :
    Blk W wr.heap.size t1 cs ∧ Blk W (wr.heap.size + 1) t2 #[v] ∧ Blk W (wr.heap.size + 1 + 1) t2 #[u1] ∧ Blk W (wr.heap.size + 1 + 1 + 1) t3 #[u2] ∧ New wr W ∧ W.heap.size = wr.heap.size + 1 + 1 + 1 + 1 := by
  subst h
  have n1 : ∀ (w : World) (o : Obj), New w (w.alloc o) := fun w o => (Mod.refl _ _).alloc _
  refine ⟨(((Blk.new wr t1 cs).new2 (n1 _ _)).new2 (n1 _ _)).new2 (n1 _ _), ((Blk.new' (w := wr.alloc (.cells cs t1)) t2 #[v] (by simp)).new2 (n1 _ _)).new2 (n1 _ _), (Blk.new' (w := (wr.alloc (.cells cs t1)).alloc (.cells #[v] t2)) t2 #[u1] (by simp)).new2 (n1 _ _), Blk.new' t3 #[u2] (by simp), (((n1 _ _).alloc _).alloc _).alloc _, by simp⟩
theorem push_box (hN : PNum w0.heap.size L lb ob kb Bs n0) (h1 : Blk W lb 56 v1) (h2 : Blk W ob 56 #[.slice A n c]) (h3 : Blk W kb 3 v3) (h4 : Own W n0 9 1 sEnc A n c out) (h6 : n0 ≤ W.heap.size)
    {o : Obj} {w8 : World} {g8 cap8 : Nat} {ys : List ByteArray} (hg8 : (W.alloc o).grownBy w8 (blkOf A)) (own8 : Own w8 n0 9 1 sEnc (some ⟨g8, 0, none⟩) (n + 1) cap8 ys) :
    Blk w8 ob 56 #[.slice A n c] ∧ Blk (w8.setCell ⟨ob, 0, none⟩ (.slice (some ⟨g8, 0, none⟩) (n + 1) cap8)) lb 56 v1 ∧ Blk (w8.setCell ⟨ob, 0, none⟩ (.slice (some ⟨g8, 0, none⟩) (n + 1) cap8)) ob 56 #[.slice (some ⟨g8, 0, none⟩) (n + 1) cap8] ∧
      Blk (w8.setCell ⟨ob, 0, none⟩ (.slice (some ⟨g8, 0, none⟩) (n + 1) cap8)) kb 3 v3 ∧ Own (w8.setCell ⟨ob, 0, none⟩ (.slice (some ⟨g8, 0, none⟩) (n + 1) cap8)) n0 9 1 sEnc (some ⟨g8, 0, none⟩) (n + 1) cap8 ys ∧
      Mod (PSet ob kb A) W (w8.setCell ⟨ob, 0, none⟩ (.slice (some ⟨g8, 0, none⟩) (n + 1) cap8)) := by
  obtain ⟨q1, q2, q3, q4, q5, q6⟩ := hN
  have hA : New W (W.alloc o) := (Mod.refl _ _).alloc _
  have hA8 : Mod (fun k => blkOf A = some k) (W.alloc o) w8 := (Mod.refl (fun k => blkOf A = some k) _).grown hg8 (fun k e => .inl e)
  have hm8 : Mod (fun k => blkOf A = some k) W w8 := (Mod.refl (fun k => blkOf A = some k) W).alloc o |>.trans hA8
  have hx : ∀ k, k < n0 → ¬ blkOf A = some k := fun k hk e => by have := h4.farP k e; omega
  have hy : ∀ g, blkOf (some (⟨g8, 0, none⟩ : Addr)) = some g → n0 ≤ g := fun g e => own8.farP g e
  have hs9 : Mod (fun k => k = ob) w8 (w8.setCell ⟨ob, 0, none⟩ (.slice (some ⟨g8, 0, none⟩) (n + 1) cap8)) := (Mod.refl (fun k => k = ob) _).setCell (.inl rfl) _
  have hob8 := h2.mod hm8 (hx _ (by omega))
  refine ⟨hob8, (h1.mod hm8 (hx _ (by omega))).mod hs9 (by omega), hob8.set 0 _, (h3.mod hm8 (hx _ (by omega))).mod hs9 (by omega), own8.mod hs9 (fun g e => by have := hy g e; omega), ?_⟩
  exact (hm8.mono (T := PSet ob kb A) (fun i _ e => .inr (.inr e))).setCell (.inl (.inl rfl)) _
theorem put_kb (hN : PNum w0.heap.size L lb ob kb Bs n0) (h1 : Blk W lb 56 v1) (h2 : Blk W ob 56 v2) (z : Value) (h3 : Blk W kb 3 #[z]) (h4 : Own W n0 9 1 sEnc A n c out) (u : Value) {A' : Option Addr} :
    Blk (W.setCell ⟨kb, 0, none⟩ u) lb 56 v1 ∧ Blk (W.setCell ⟨kb, 0, none⟩ u) ob 56 v2 ∧ Blk (W.setCell ⟨kb, 0, none⟩ u) kb 3 #[u] ∧ Own (W.setCell ⟨kb, 0, none⟩ u) n0 9 1 sEnc A n c out ∧ Mod (PSet ob kb A') W (W.setCell ⟨kb, 0, none⟩ u) := by
  obtain ⟨q1, q2, q3, q4, q5, q6⟩ := hN
  have hs9 : Mod (fun k => k = kb) W (W.setCell ⟨kb, 0, none⟩ u) := (Mod.refl (fun k => k = kb) _).setCell (.inl rfl) _
  exact ⟨h1.mod hs9 (by omega), h2.mod hs9 (by omega), h3.set 0 _, h4.mod hs9 (fun g e => by have := h4.farP g e; omega), hs9.mono (fun i _ e => .inr (.inl e))⟩
/-- the round's end -/
theorem round_out (hN : PNum w0.heap.size L lb ob kb Bs n0) {B : Nat} {pre : List (Nat × ByteArray)} {x : Nat × ByteArray} {W' : World} {A' : Option Addr} {n' c' : Nat} {out' : List ByteArray} {skip' : Nat}
    (h2 : Blk W ob 56 v2) (h3 : Blk W kb 3 v3) (h4 : Own W n0 9 1 sEnc A n c out) (h5 : New w0 W) (h6 : n0 ≤ W.heap.size)
    (hf : foldB N (pre ++ [x]) = (out', skip')) (hm : Mod (PSet ob kb A) W W') (h1' : Blk W' lb 56 #[.slice (some ⟨L, 0, none⟩) N N]) (h2' : Blk W' ob 56 #[.slice A' n' c']) (h3' : Blk W' kb 3 #[.int .i64 (skip' : Int)]) (h4' : Own W' n0 9 1 sEnc A' n' c' out') :
    KeepsFrom B W W' ∧ Kept2 L Bs W W' ∧ PInv w0 L lb ob kb n0 N (pre ++ [x]) W' := by
  obtain ⟨q1, q2, q3, q4, q5, q6⟩ := hN
  have hA : ∀ g, blkOf A = some g → n0 ≤ g := fun g e => h4.farP g e
  refine ⟨keeps_of (t3 := 9) hm h2.tb h3.tb (fun g e => ?_), ⟨hm.block L (by omega) ?_, hm.block Bs (by omega) ?_⟩, A', n', c', h1', h2', ?_, ?_, h5.step hm ?_, Nat.le_trans h6 hm.size⟩
  · rcases h4.blk with ⟨rfl, _, _⟩ | ⟨g', rfl, _, htb⟩
    · cases e
    · injection e with e; subst e; exact htb
  · rintro (e | e | e)
    · omega
    · omega
    · have := hA _ e; omega
  · rintro (e | e | e)
    · omega
    · omega
    · have := hA _ e; omega
  · rw [hf]; exact h3'
  · rw [hf]; exact h4'
  · rintro i hi (e | e | e)
    · omega
    · omega
    · have := hA _ e; omega
end
end Go.Proofs.YtjehlecgnepgmaaGreatDoor
