/- What the reference's loop over an iterator keeps (gateref2.PathOf): the plain law and the invariant. No conditions. -/
import Derived.Test.YtjehlecgnepgmaaGreatDoorBackw
import Derived.Test.YtjehlecgnepgmaaGreatDoorNPathGrp
import Derived.Test.YtjehlecgnepgmaaGreatDoorBytesOf
import Derived.Test.YtjehlecgnepgmaaGreatDoorVis
namespace Go.Proofs.YtjehlecgnepgmaaGreatDoor
open Go.RowKit Go.Shelf
set_option linter.unusedVariables false
set_option linter.unusedSimpArgs false

/-- one round: what stands (from the end), and how many are to be passed over -/
def stepB (N : Nat) (st : List ByteArray × Nat) (x : Nat × ByteArray) : List ByteArray × Nat :=
  if x.2 = dot1 ∨ x.2 = dot2 then ((if x.1 + 1 = N then st.1 ++ [emptyB] else st.1), (if x.2 = dot2 then st.2 + 1 else st.2))
  else if 0 < st.2 then (st.1, st.2 - 1) else (st.1 ++ [x.2], 0)
def foldB (N : Nat) (pre : List (Nat × ByteArray)) : List ByteArray × Nat := pre.foldl (stepB N) ([], 0)
theorem foldB_snoc (N : Nat) (pre : List (Nat × ByteArray)) (x : Nat × ByteArray) : foldB N (pre ++ [x]) = stepB N (foldB N pre) x := by
  unfold foldB; rw [List.foldl_append]; rfl
theorem foldB_le (N : Nat) (pre : List (Nat × ByteArray)) : (foldB N pre).1.length ≤ pre.length ∧ (foldB N pre).2 ≤ pre.length := by
  induction h : pre.length generalizing pre with
  | zero =>
    have : pre = [] := List.eq_nil_of_length_eq_zero h
    subst this
    simp [foldB]
  | succ n ih =>
    obtain ⟨ys, x, rfl⟩ : ∃ ys x, pre = ys ++ [x] := ⟨pre.dropLast, pre.getLast (by intro e; rw [e] at h; cases h), (List.dropLast_concat_getLast _).symm⟩
    have hy : ys.length = n := by simpa using h
    obtain ⟨h1, h2⟩ := ih ys hy
    rw [foldB_snoc]
    unfold stepB
    split
    · simp only
      constructor
      · split <;> (try simp only [List.length_append, List.length_singleton]) <;> omega
      · split <;> omega
    · split
      · simp only; omega
      · simp only [List.length_append, List.length_singleton]; omega
theorem dotsB_fold (N : Nat) : ∀ (ps : List (Nat × ByteArray)) (out : List ByteArray) (skip : Nat), (∀ p ∈ ps, p.1 + 1 ≠ N) → ps.foldl (stepB N) (out, skip) = dotsB (ps.map (·.2)) false skip out
  | [], out, skip, _ => rfl
  | p :: ps, out, skip, h => by
    have hp := h p (by simp)
    have ht := fun q hq => h q (List.mem_cons_of_mem p hq)
    rw [List.foldl_cons, List.map_cons, dotsB]
    unfold stepB
    by_cases hd : p.2 = dot1 ∨ p.2 = dot2
    · rw [if_pos hd, if_pos hd, if_neg hp]
      simp only [Bool.false_eq_true, if_false]
      exact dotsB_fold N ps _ _ ht
    · rw [if_neg hd, if_neg hd]
      by_cases hs : 0 < skip
      · rw [if_pos hs, if_pos hs]
        exact dotsB_fold N ps _ _ ht
      · rw [if_neg hs, if_neg hs]
        exact dotsB_fold N ps _ _ ht
theorem upto_snd (segs : List ByteArray) : (upto (backF segs.length segs) segs.length).map (·.2) = segs.reverse := by
  apply List.ext_getElem
  · simp [upto]
  · intro i h1 h2
    have hi : i < segs.length := by simpa using h2
    simp [upto, backF, List.getElem_reverse, show segs.length - 1 - i < segs.length by omega]
theorem foldB_all {segs : List ByteArray} (h : segs ≠ []) : foldB segs.length (upto (backF segs.length segs) segs.length) = dotsB segs.reverse true 0 [] := by
  obtain ⟨M, hM⟩ : ∃ M, segs.length = M + 1 := ⟨segs.length - 1, by have : 0 < segs.length := List.length_pos_iff.2 h; omega⟩
  have hu : upto (backF segs.length segs) segs.length = backF segs.length segs 0 :: (List.range M).map (fun j => backF segs.length segs (j + 1)) := by
    unfold upto
    rw [show List.range segs.length = List.range (M + 1) by rw [hM], List.range_succ_eq_map, List.map_cons, List.map_map]
    rfl
  have hs := upto_snd segs
  rw [hu, List.map_cons] at hs
  have hf0 : (backF segs.length segs 0).1 + 1 = segs.length := by unfold backF; simp only; omega
  have ht : ∀ p ∈ (List.range M).map (fun j => backF segs.length segs (j + 1)), p.1 + 1 ≠ segs.length := by
    intro p hp
    obtain ⟨j, hj, rfl⟩ := List.mem_map.1 hp
    have := List.mem_range.1 hj
    show segs.length - 1 - (j + 1) + 1 ≠ segs.length
    omega
  unfold foldB
  rw [hu, List.foldl_cons, ← hs, dotsB]
  unfold stepB
  by_cases hd : (backF segs.length segs 0).2 = dot1 ∨ (backF segs.length segs 0).2 = dot2
  · rw [if_pos hd, if_pos hd, if_pos hf0, if_pos rfl]
    exact dotsB_fold _ _ _ _ ht
  · rw [if_neg hd, if_neg hd, if_neg (by simp), if_neg (by simp)]
    exact dotsB_fold _ _ _ _ ht

/-- append of one element, in whatever fence -/
theorem wpListIn_push {α : Type} {F : Fence} {m : Nat} {P : Program} {w : World} {B : Nat} {t : TypeId} {sz : Nat} {enc : α → Nat → Value} {A : Option Addr} {n c : Nat} {xs : List α} {ops : Array Oper} {rest : List Oper} {o : Oper} {a : Act} {Q : Exit → Act → World → Prop} (hgd : o.guard = none) (s x : Operand) (ts : TypeId)
    (ho : o.op = .call { callee := .builtin .append, args := #[s, x], argTypes := #[ts, ts] }) (bytes : Nat) (ht : P.underlying ts = some (.slice t)) (hi : EInfo P t sz bytes)
    (hs : a.eval s = .slice A n c) (hown : Own w B t sz enc A n c xs) (y : α) (g0 : Nat) (hx : a.eval x = .slice (some ⟨g0, 0, none⟩) 1 1) (hb : Blk w g0 t (encL sz enc y).toArray)
    (h1 : ∀ j, j < sz → (enc y j).oneCell' = true) (hn : n < 1000000) (hbytes : bytes ≤ 1000000) (hB : B ≤ w.heap.size)
    (h : ∀ g cap w', Own w' B t sz enc (some ⟨g, 0, none⟩) (n + 1) cap (xs ++ [y]) → w.grownBy w' (blkOf A) →
      wpListIn F m P ops Q rest (a.put o.dst (.slice (some ⟨g, 0, none⟩) (n + 1) cap)) w') : wpListIn F m P ops Q (o :: rest) a w := by
  obtain ⟨i, z, hi0, hz, hsz, hby, hzs, h0⟩ := hi
  refine wpListIn_append_own w hgd s x ts ho B t i z sz bytes ht hi0 hz hsz hby hzs h0 _ n _ hs hown.2 ⟨g0, 0, none⟩ 1 1 (encL sz enc y) hx (by rw [encL_length]; omega) ?_ ?_ (by unfold maxLen; omega) ?_ hB ?_
  · have := World.news_of_block hb
    simpa using this
  · intro u hu
    simp only [encL, List.mem_map, List.mem_range] at hu
    obtain ⟨j, hj, rfl⟩ := hu
    exact h1 j hj
  · have : (n + 1) * bytes ≤ 1000000 * 1000000 := Nat.mul_le_mul (by omega) hbytes
    omega
  · intro v' w' hown' hg _
    rw [ownBlock_eq] at hg
    rcases hown'.2 with ⟨_, hz0⟩ | ⟨g, cap, cur, rfl, hB, hh, hc1, hc2, hr⟩
    · omega
    · exact h g cap w' ⟨by simp [hown.1], by simpa using hown'⟩ hg

/-- between two rounds: the variables' boxes (lb the segments, ob what stands, kb how many are passed over), the row that stands -/
def PInv (w0 : World) (L lb ob kb n0 N : Nat) (pre : List (Nat × ByteArray)) (W : World) : Prop :=
  ∃ A n c, Blk W lb 56 #[.slice (some ⟨L, 0, none⟩) N N] ∧ Blk W ob 56 #[.slice A n c] ∧ Blk W kb 3 #[.int .i64 ((foldB N pre).2 : Int)] ∧ Own W n0 9 1 sEnc A n c (foldB N pre).1 ∧ New w0 W ∧ n0 ≤ W.heap.size
theorem notRow {W : World} {g B : Nat} {t : TypeId} {row : Option Nat} (h : TB W g t) (hr : ∀ r, row = some r → B ≤ r ∧ ∃ o : Obj, W.heap[r]? = some o ∧ o.isCells = false) : ¬ row = some g := by
  intro e
  obtain ⟨_, o, ho, hc⟩ := hr g e
  obtain ⟨cs, fr, hg⟩ := h
  rw [hg] at ho
  injection ho with ho
  subst ho
  cases hc
theorem PInv.own {w0 : World} {L lb ob kb n0 N B : Nat} (hB : w0.heap.size ≤ B) : OwnFrom B (PInv w0 L lb ob kb n0 N) := by
  intro pre W W' row h hg hr
  obtain ⟨A, n, c, h1, h2, h3, h4, h5, h6⟩ := h
  have hm : Mod (fun k => row = some k) W W' := (Mod.refl (fun k => row = some k) W).grown hg (fun k e => .inl e)
  refine ⟨A, n, c, h1.mod hm (notRow h1.tb hr), h2.mod hm (notRow h2.tb hr), h3.mod hm (notRow h3.tb hr), h4.mod hm (fun g e => ?_), h5.step hm (fun i hi e => by have := (hr i e).1; omega), Nat.le_trans h6 hm.size⟩
  rcases h4.blk with ⟨rfl, _, _⟩ | ⟨g', rfl, _, htb⟩
  · cases e
  · injection e with e; subst e; exact notRow htb hr

end Go.Proofs.YtjehlecgnepgmaaGreatDoor
