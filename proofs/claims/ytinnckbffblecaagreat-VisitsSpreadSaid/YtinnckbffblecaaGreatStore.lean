/- The reference's store: its methods do to the state what the program's center does. Conditions: a window limit that was checked. -/
import Derived.Test.YtinnckbffblecaaGreatCenter2
namespace Go.Proofs.YtinnckbffblecaaGreat
open Go.RowKit Go.MapKept
set_option linter.unusedVariables false
set_option linter.unusedSimpArgs false

theorem ref_moment (n : Int) (w : World) :
    Calls Tryz.prog 47 #[.int .i64 n] w fun e w' => e = .returned (.bool (isMoment n)) ∧ w = w' := by
  go_enter Tryz.func47, Tryz.ntmps47
  go_wp2_with fail
  refine (ref2_in _ _ _ _).mono ?_
  rintro e w1 ⟨rfl, rfl⟩
  go_wp2_with fail
  go_ret
  refine ⟨ret_bool ?_, rfl⟩
  rw [Bool.eq_iff_iff]
  simp [isMoment]
  omega

def RThere (w : World) (mb : Nat) (g : Gv) (e : Ending) (w' : World) : Prop := ∃ mb', e = .returned (.map (some mb')) ∧ MapOf strKeys w' mb' (gv g) ∧ (mb' = mb ∨ w.heap.size ≤ mb') ∧ New w w'

def esum (L : List MapEntry) : Int := (L.map fun e => intOf e.val).sum
theorem esum_nonneg {L : List MapEntry} (h : ∀ e ∈ L, 0 ≤ intOf e.val) : 0 ≤ esum L := by
  induction L with
  | nil => simp [esum]
  | cons e L ih =>
    have h1 := h e (by simp)
    have h2 := ih (fun x hx => h x (by simp [hx]))
    simp only [esum, List.map_cons, List.sum_cons] at *
    omega
theorem esum_filter_ne {L : List MapEntry} {e : MapEntry} (he : e ∈ L) (hnd : (L.map (·.born)).Nodup) : esum L = intOf e.val + esum (L.filter fun x => !(x.born == e.born)) := by
  induction L with
  | nil => cases he
  | cons a L ih =>
    rw [List.map_cons, List.nodup_cons] at hnd
    by_cases h : a.born = e.born
    · have hae : a = e := by
        rcases List.mem_cons.1 he with rfl | hm
        · rfl
        · exact absurd (List.mem_map.2 ⟨e, hm, h.symm⟩) hnd.1
      subst hae
      have hrest : L.filter (fun x => !(x.born == a.born)) = L := by
        rw [List.filter_eq_self]
        intro x hx
        simp only [Bool.not_eq_true', beq_eq_false_iff_ne]
        intro e
        exact hnd.1 (List.mem_map.2 ⟨x, hx, e⟩)
      rw [List.filter_cons_of_neg (by simp), hrest]
      simp [esum]
    · have hm : e ∈ L := by
        rcases List.mem_cons.1 he with rfl | hm
        · exact absurd rfl h
        · exact hm
      rw [List.filter_cons_of_pos (by simp [h])]
      have := ih hm hnd.2
      simp only [esum, List.map_cons, List.sum_cons] at *
      omega
theorem left_push {es : Array MapEntry} {seen : Array Nat} {e : MapEntry} : (leftOf es (seen.push e.born)).toList = (leftOf es seen).toList.filter fun x => !(x.born == e.born) := by
  simp only [leftOf, Array.toList_filter, List.filter_filter]
  apply List.filter_congr
  intro x hx
  rw [Bool.eq_iff_iff]
  simp
  constructor
  · rintro ⟨h1, h2⟩
    exact ⟨h2, h1⟩
  · rintro ⟨h1, h2⟩
    exact ⟨h2, h1⟩
theorem esum_left_le {es : Array MapEntry} {seen : Array Nat} (h : ∀ e ∈ es.toList, 0 ≤ intOf e.val) : esum (leftOf es seen).toList ≤ esum es.toList := by
  simp only [leftOf, Array.toList_filter]
  generalize es.toList = L at h
  induction L with
  | nil => simp
  | cons a L ih =>
    have h1 := h a (by simp)
    have h2 := ih (fun x hx => h x (by simp [hx]))
    rw [List.filter_cons]
    split <;> simp only [esum, List.map_cons, List.sum_cons] at * <;> omega
theorem esum_gv {es : Array MapEntry} {g : Gv} (he : es.toList.map (fun e => (e.key, e.val)) = (gv g).map (fun p => (strKeys.enc p.1, p.2))) : esum es.toList = isum g ∧ ∀ e ∈ es.toList, ∃ x, e.val = .int .i64 x ∧ x ∈ g.map (·.2) := by
  have h1 : es.toList.map (·.val) = g.map (fun p => Value.int .i64 p.2) := by
    have := congrArg (List.map Prod.snd) he
    simpa [gv, List.map_map, Function.comp_def] using this
  constructor
  · unfold esum isum
    have : es.toList.map (fun e => intOf e.val) = (es.toList.map (·.val)).map intOf := by simp [List.map_map, Function.comp_def]
    rw [this, h1, List.map_map]
    rfl
  · intro e hem
    have : e.val ∈ g.map (fun p => Value.int .i64 p.2) := by rw [← h1]; exact List.mem_map.2 ⟨e, hem, rfl⟩
    obtain ⟨p, hp, hpe⟩ := List.mem_map.1 this
    exact ⟨p.2, hpe.symm, List.mem_map.2 ⟨p, hp, rfl⟩⟩

theorem map_next {wr : World} {it mb clock : Nat} {seen : Array Nat} {es : Array MapEntry} (hr : wr.heap[it]? = some (.mapIter (some mb) clock seen clock)) (hb : wr.heap[mb]? = some (.map es clock)) (hold : ∀ x ∈ es.toList, x.born < clock) (hne : mb ≠ it) :
    ((leftOf es seen).size = 0 ∧ ∀ ty, (Instr.next (.pointer (some ⟨it, 0, none⟩)) false ty).run Tryz.prog wr = .ok (.tuple #[.bool false]) wr) ∨
    ∃ e ∈ (leftOf es seen).toList, ∃ wn : World, (∀ ty, (Instr.next (.pointer (some ⟨it, 0, none⟩)) false ty).run Tryz.prog wr = .ok (.tuple #[.bool true, e.key, e.val]) wn) ∧ wn.heap[it]? = some (.mapIter (some mb) clock (seen.push e.born) clock) ∧ wn.heap[mb]? = some (.map es clock) ∧ Only it wr wn := by
  rcases run_next_at (P := Tryz.prog) wr 0 it mb clock clock seen es clock hr hb hold (Nat.le_refl _) with ⟨h0, h1⟩ | ⟨e, he, w1, hw, h1⟩
  · exact .inl ⟨h0, fun ty => h1⟩
  · have hlt := heap_lt hr
    refine .inr ⟨e, he, _, fun ty => h1, ?_, ?_, ?_⟩
    · rcases hw with rfl | rfl <;> simp [ChangeMaps.setBlock, hlt]
    · rcases hw with rfl | rfl <;> simp only [ChangeMaps.setBlock, Array.getElem?_setIfInBounds_ne (Ne.symm hne)] <;> exact hb
    · rcases hw with rfl | rfl
      · exact Mod.setBlock _
      · exact (Mod.refl _ wr).drew.trans (Mod.setBlock _)
theorem left_mem {es : Array MapEntry} {seen : Array Nat} {e : MapEntry} (h : e ∈ (leftOf es seen).toList) : e ∈ es.toList := by
  simp [leftOf] at h ⊢
  exact h.1
theorem left_nodup {es : Array MapEntry} {seen : Array Nat} (h : (es.toList.map (·.born)).Nodup) : ((leftOf es seen).toList.map (·.born)).Nodup := by
  simp only [leftOf, Array.toList_filter]
  exact h.sublist (List.Sublist.map _ List.filter_sublist)
theorem left_lt {es : Array MapEntry} {seen : Array Nat} {e : MapEntry} (h : e ∈ (leftOf es seen).toList) : (leftOf es (seen.push e.born)).size < (leftOf es seen).size := by
  rw [← Array.length_toList, ← Array.length_toList, left_push]
  exact List.length_filter_lt_length_iff_exists.2 ⟨e, h, by simp⟩
def iterLeft (it : Nat) (es : Array MapEntry) (wr : World) : Nat := match wr.heap[it]? with | some (.mapIter _ _ seen _) => (leftOf es seen).size | _ => 0
theorem iterLeft_eq {it : Nat} {es : Array MapEntry} {wr : World} {m s seen c} (h : wr.heap[it]? = some (.mapIter m s seen c)) : iterLeft it es wr = (leftOf es seen).size := by simp [iterLeft, h]
theorem run_range_map {w : World} {mb clock : Nat} {es : Array MapEntry} (hb : w.heap[mb]? = some (.map es clock)) :
    (Instr.range 92 (.map (some mb))).run Tryz.prog w = .ok (.pointer (some ⟨w.heap.size, 0, none⟩)) (w.alloc (.mapIter (some mb) clock #[] clock)) := by
  simp [Instr.range, run_underlying Tryz.underlying92, MapKept.run_getObj_map hb, Result.andThen]

end Go.Proofs.YtinnckbffblecaaGreat
