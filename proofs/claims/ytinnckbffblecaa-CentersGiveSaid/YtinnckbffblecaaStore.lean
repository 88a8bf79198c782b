/- The reference's store: its methods do to the state what the program's center does. Conditions: a window limit that was checked. -/
import Derived.Test.YtinnckbffblecaaCenter2
namespace Go.Proofs.Ytinnckbffblecaa
open Go.RowKit Go.MapKept
set_option linter.unusedVariables false
set_option linter.unusedSimpArgs false

theorem ref_moment (n : Int) (w : World) :
    Calls Try.prog 62 #[.int .i64 n] w fun e w' => e = .returned (.bool (isMoment n)) ∧ w = w' := by
  go_enter Try.func62, Try.ntmps62
  go_wp2_with fail
  refine (ref2_in _ _ _ _).mono ?_
  rintro e w1 ⟨rfl, rfl⟩
  go_wp2_with fail
  go_ret
  refine ⟨ret_bool ?_, rfl⟩
  rw [Bool.eq_iff_iff]
  simp [isMoment]
  omega

set_option maxHeartbeats 1000000 in
theorem store_callFault (w : World) (gs mb : Nat) (l : Lim) (s : CS) (h : StoreAt w gs mb l s) (t : Int) (gate : ByteArray) (many : Int) (hs : gate.size ≤ maxLen) :
    Calls Try.prog 49 #[.pointer (some ⟨gs, 0, none⟩), .int .i64 t, .string gate, .int .i64 many] w fun e w' => e = .returned (.int .i64 (callF s t gate many)) ∧ w = w' := by
  have c5 := h.1.cell 5
  simp at c5
  go_enter Try.func49, Try.ntmps49
  go_wp2_with fail
  refine (ref_moment _ _).mono ?_
  rintro e w1 ⟨rfl, rfl⟩
  cases hm : isMoment t
  · go_wp2_with fail
    go_ret
    exact ⟨ret_int (by simp [callF, timeF, hm]), rfl⟩
  · by_cases hlt : t < s.now
    · go_wp2_with fail
      go_ret
      exact ⟨ret_int (by simp [callF, timeF, hm, hlt]), rfl⟩
    · have htf : timeF s t = 0 := by simp only [timeF, hm]; rw [if_neg (by simp), if_neg hlt]
      have HTF := Lib.hid htf
      clear htf
      go_wp2_with fail
      refine (ref_key _ _ hs).mono ?_
      rintro e w1 ⟨rfl, rfl⟩
      cases hk : isKey gate
      · go_wp2_with fail
        go_ret
        exact ⟨ret_int (by simp [callF, HTF.out, hk]), rfl⟩
      · go_wp2_with fail
        refine (ref1_in _ _ _ _).mono ?_
        rintro e w1 ⟨rfl, rfl⟩
        cases hc : (decide (1 ≤ many) && decide (many ≤ 1000000000))
        · go_wp2_with fail
          go_ret
          exact ⟨ret_int (by simp only [callF, HTF.out, hk, hc]; simp), rfl⟩
        · go_wp2_with fail
          go_ret
          exact ⟨ret_int (by simp only [callF, HTF.out, hk, hc]; simp), rfl⟩

def RThere (w : World) (mb : Nat) (g : Gv) (e : Ending) (w' : World) : Prop := ∃ mb', e = .returned (.map (some mb')) ∧ MapOf strKeys w' mb' (gv g) ∧ (mb' = mb ∨ w.heap.size ≤ mb') ∧ New w w'

set_option maxHeartbeats 1000000 in
theorem store_there (w : World) (gs mb : Nat) (l : Lim) (s : CS) (h : StoreAt w gs mb l s) (hl : WLim l) (hok : s.Ok l) (t : Int) (ht0 : 0 ≤ t) (ht1 : t < 345686400000) :
    Calls Try.prog 50 #[.pointer (some ⟨gs, 0, none⟩), .int .i64 t] w (RThere w mb (thereG l s t)) := by
  obtain ⟨hp1, hp2⟩ := hl.per
  have n0 := hok.now0
  have n1 := hok.now1
  have c3 := h.1.cell 3
  have c5 := h.1.cell 5
  have c6 := h.1.cell 6
  simp at c3 c5 c6
  have h5 := Int.ediv_le_self l.per ht0
  have h6 := Int.ediv_nonneg ht0 (show 0 ≤ l.per by omega)
  have h7 := Int.ediv_le_self l.per n0
  have h8 := Int.ediv_nonneg n0 (show 0 ≤ l.per by omega)
  have hp0 : (l.per == 0) = false := by simp; omega
  have e1 : IntKind.i64.wrap (t / l.per) = t / l.per := IntWalk.i64_in _ (by omega)
  have e2 : t.tdiv l.per = t / l.per := Int.tdiv_eq_ediv_of_nonneg ht0
  have e3 : IntKind.i64.wrap (s.now / l.per) = s.now / l.per := IntWalk.i64_in _ (by omega)
  have e4 : s.now.tdiv l.per = s.now / l.per := Int.tdiv_eq_ediv_of_nonneg n0
  have hmm := @run_makeMap Try.prog
  by_cases hw : t / l.per = s.now / l.per
  · have hw' : (t / l.per != s.now / l.per) = false := by simp [hw]
    have HT := Lib.hid (show thereG l s t = s.g by unfold thereG; rw [if_pos hw])
    clear hw
    go_enter Try.func50, Try.ntmps50
    go_wp2_with fail
    go_quiet (fail)
    go_wp2_with fail
    go_ret
    rw [HT.out]
    exact ⟨mb, rfl, h.2, .inl rfl, (Mod.refl _ _).drewN _⟩
  · have hw' : (t / l.per != s.now / l.per) = true := by simp [hw]
    have HT := Lib.hid (show thereG l s t = [] by unfold thereG; rw [if_neg hw])
    clear hw
    go_enter Try.func50, Try.ntmps50
    go_wp2_with fail
    go_quiet (fail)
    go_wp2_with fail
    go_ret
    rw [HT.out]
    refine ⟨w.heap.size, by simp, ?_, .inr (Nat.le_refl _), (by with_reducible (repeat (first | exact Mod.refl _ _ | refine Mod.drewN ?_ _ | refine Mod.drew ?_ | refine Mod.alloc ?_ _)))⟩
    exact MapOf.made (heap_alloc_new (w.drewN _) (.map #[] 0))

def esum (L : List MapEntry) : Int := (L.map fun e => intOf e.val).sum
theorem esum_nonneg {L : List MapEntry} (h : ∀ e ∈ L, 0 ≤ intOf e.val) : 0 ≤ esum L := by
  induction L with
  | nil => simp [esum]
  | cons e L ih =>
    have h1 := h e (by simp)
    have h2 := ih (fun x hx => h x (by simp [hx]))
    simp only [esum, List.map_cons, List.sum_cons] at *
    omega
theorem esum_filter_ne {L : List MapEntry} {e : MapEntry} (he : e ∈ L) (hnd : (L.map (·.born)).Nodup) : esum L = intOf e.val + esum (L.filter fun x => !(x.born == e.born)) := by
  induction L with
  | nil => cases he
  | cons a L ih =>
    rw [List.map_cons, List.nodup_cons] at hnd
    by_cases h : a.born = e.born
    · have hae : a = e := by
        rcases List.mem_cons.1 he with rfl | hm
        · rfl
        · exact absurd (List.mem_map.2 ⟨e, hm, h.symm⟩) hnd.1
      subst hae
      have hrest : L.filter (fun x => !(x.born == a.born)) = L := by
        rw [List.filter_eq_self]
        intro x hx
        simp only [Bool.not_eq_true', beq_eq_false_iff_ne]
        intro e
        exact hnd.1 (List.mem_map.2 ⟨x, hx, e⟩)
      rw [List.filter_cons_of_neg (by simp), hrest]
      simp [esum]
    · have hm : e ∈ L := by
        rcases List.mem_cons.1 he with rfl | hm
        · exact absurd rfl h
        · exact hm
      rw [List.filter_cons_of_pos (by simp [h])]
      have := ih hm hnd.2
      simp only [esum, List.map_cons, List.sum_cons] at *
      omega
theorem left_push {es : Array MapEntry} {seen : Array Nat} {e : MapEntry} : (leftOf es (seen.push e.born)).toList = (leftOf es seen).toList.filter fun x => !(x.born == e.born) := by
  simp only [leftOf, Array.toList_filter, List.filter_filter]
  apply List.filter_congr
  intro x hx
  rw [Bool.eq_iff_iff]
  simp
  constructor
  · rintro ⟨h1, h2⟩
    exact ⟨h2, h1⟩
  · rintro ⟨h1, h2⟩
    exact ⟨h2, h1⟩
theorem esum_left_le {es : Array MapEntry} {seen : Array Nat} (h : ∀ e ∈ es.toList, 0 ≤ intOf e.val) : esum (leftOf es seen).toList ≤ esum es.toList := by
  simp only [leftOf, Array.toList_filter]
  generalize es.toList = L at h
  induction L with
  | nil => simp
  | cons a L ih =>
    have h1 := h a (by simp)
    have h2 := ih (fun x hx => h x (by simp [hx]))
    rw [List.filter_cons]
    split <;> simp only [esum, List.map_cons, List.sum_cons] at * <;> omega
theorem esum_gv {es : Array MapEntry} {g : Gv} (he : es.toList.map (fun e => (e.key, e.val)) = (gv g).map (fun p => (strKeys.enc p.1, p.2))) : esum es.toList = isum g ∧ ∀ e ∈ es.toList, ∃ x, e.val = .int .i64 x ∧ x ∈ g.map (·.2) := by
  have h1 : es.toList.map (·.val) = g.map (fun p => Value.int .i64 p.2) := by
    have := congrArg (List.map Prod.snd) he
    simpa [gv, List.map_map, Function.comp_def] using this
  constructor
  · unfold esum isum
    have : es.toList.map (fun e => intOf e.val) = (es.toList.map (·.val)).map intOf := by simp [List.map_map, Function.comp_def]
    rw [this, h1, List.map_map]
    rfl
  · intro e hem
    have : e.val ∈ g.map (fun p => Value.int .i64 p.2) := by rw [← h1]; exact List.mem_map.2 ⟨e, hem, rfl⟩
    obtain ⟨p, hp, hpe⟩ := List.mem_map.1 this
    exact ⟨p.2, hpe.symm, List.mem_map.2 ⟨p, hp, rfl⟩⟩

theorem map_next {wr : World} {it mb clock : Nat} {seen : Array Nat} {es : Array MapEntry} (hr : wr.heap[it]? = some (.mapIter (some mb) clock seen clock)) (hb : wr.heap[mb]? = some (.map es clock)) (hold : ∀ x ∈ es.toList, x.born < clock) (hne : mb ≠ it) :
    ((leftOf es seen).size = 0 ∧ ∀ ty, (Instr.next (.pointer (some ⟨it, 0, none⟩)) false ty).run Try.prog wr = .ok (.tuple #[.bool false]) wr) ∨
    ∃ e ∈ (leftOf es seen).toList, ∃ wn : World, (∀ ty, (Instr.next (.pointer (some ⟨it, 0, none⟩)) false ty).run Try.prog wr = .ok (.tuple #[.bool true, e.key, e.val]) wn) ∧ wn.heap[it]? = some (.mapIter (some mb) clock (seen.push e.born) clock) ∧ wn.heap[mb]? = some (.map es clock) ∧ Only it wr wn := by
  rcases run_next_at (P := Try.prog) wr 0 it mb clock clock seen es clock hr hb hold (Nat.le_refl _) with ⟨h0, h1⟩ | ⟨e, he, w1, hw, h1⟩
  · exact .inl ⟨h0, fun ty => h1⟩
  · have hlt := heap_lt hr
    refine .inr ⟨e, he, _, fun ty => h1, ?_, ?_, ?_⟩
    · rcases hw with rfl | rfl <;> simp [ChangeMaps.setBlock, hlt]
    · rcases hw with rfl | rfl <;> simp only [ChangeMaps.setBlock, Array.getElem?_setIfInBounds_ne (Ne.symm hne)] <;> exact hb
    · rcases hw with rfl | rfl
      · exact Mod.setBlock _
      · exact (Mod.refl _ wr).drew.trans (Mod.setBlock _)
theorem left_mem {es : Array MapEntry} {seen : Array Nat} {e : MapEntry} (h : e ∈ (leftOf es seen).toList) : e ∈ es.toList := by
  simp [leftOf] at h ⊢
  exact h.1
theorem left_nodup {es : Array MapEntry} {seen : Array Nat} (h : (es.toList.map (·.born)).Nodup) : ((leftOf es seen).toList.map (·.born)).Nodup := by
  simp only [leftOf, Array.toList_filter]
  exact h.sublist (List.Sublist.map _ List.filter_sublist)
theorem left_lt {es : Array MapEntry} {seen : Array Nat} {e : MapEntry} (h : e ∈ (leftOf es seen).toList) : (leftOf es (seen.push e.born)).size < (leftOf es seen).size := by
  rw [← Array.length_toList, ← Array.length_toList, left_push]
  exact List.length_filter_lt_length_iff_exists.2 ⟨e, h, by simp⟩
def iterLeft (it : Nat) (es : Array MapEntry) (wr : World) : Nat := match wr.heap[it]? with | some (.mapIter _ _ seen _) => (leftOf es seen).size | _ => 0
theorem iterLeft_eq {it : Nat} {es : Array MapEntry} {wr : World} {m s seen c} (h : wr.heap[it]? = some (.mapIter m s seen c)) : iterLeft it es wr = (leftOf es seen).size := by simp [iterLeft, h]
theorem run_range_map {w : World} {mb clock : Nat} {es : Array MapEntry} (hb : w.heap[mb]? = some (.map es clock)) :
    (Instr.range 79 (.map (some mb))).run Try.prog w = .ok (.pointer (some ⟨w.heap.size, 0, none⟩)) (w.alloc (.mapIter (some mb) clock #[] clock)) := by
  simp [Instr.range, run_underlying Try.underlying79, MapKept.run_getObj_map hb, Result.andThen]

set_option maxHeartbeats 1000000 in
theorem store_left (w : World) (gs mb : Nat) (l : Lim) (s : CS) (h : StoreAt w gs mb l s) (hl : WLim l) (hok : s.Ok l) (t : Int) (ht0 : 0 ≤ t) (ht1 : t < 345686400000) :
    Calls Try.prog 51 #[.pointer (some ⟨gs, 0, none⟩), .int .i64 t] w fun e w' => e = .returned (.int .i64 (l.most - isum (thereG l s t))) ∧ New w w' := by
  obtain ⟨g1, g2, g3, g4⟩ := thereG_ok hok hl t
  have hlm := hl.most
  have c2 := h.1.cell 2
  simp at c2
  go_enter Try.func51, Try.ntmps51
  go_wp2_with fail
  refine (store_there w gs mb l s h hl hok t ht0 ht1).mono ?_
  rintro e w1 ⟨mb1, rfl, hmap, -, hm1⟩
  generalize hG : thereG l s t = G at *
  have HG := Lib.hid hG
  clear hG
  obtain ⟨es, clock, hb, hst, he⟩ := hmap
  obtain ⟨hes, hev⟩ := esum_gv he
  have hmb := heap_lt hb
  have hrange := run_range_map hb
  have HES := Lib.hid hes
  have HEV := Lib.hid hev
  clear hes hev he
  go_wp2_with fail
  clear hrange
  obtain ⟨hborn, hbn, -⟩ := hst
  go_loopw [5, 7] (fun n _ wr => ∃ seen : Array Nat, n = .int .i64 (l.most - isum G + esum (leftOf es seen).toList) ∧ wr.heap[w1.heap.size]? = some (.mapIter (some mb1) clock seen clock) ∧ wr.heap[mb1]? = some (.map es clock) ∧ New w wr) (fun _ _ wr => iterLeft w1.heap.size es wr)
  case atStart =>
    refine ⟨#[], ?_, heap_alloc_new w1 _, ?_, hm1.alloc _⟩
    · have : (leftOf es #[]).toList = es.toList := by simp [leftOf]
      rw [this, HES.out]
      congr 1
      omega
    · rw [heap_alloc_old w1 _ (by omega)]
      exact hb
  case round =>
    rename_i wr
    obtain ⟨seen, rfl, hr, hbr, hmr⟩ := hrel
    rw [iterLeft_eq hr]
    rcases map_next hr hbr hborn (by omega) with ⟨h0, hn⟩ | ⟨e, he, wn, hn, hr2, hb2, hm2⟩
    · go_wp2_with fail
      go_ret
      rw [HG.out]
      refine ⟨ret_int ?_, hmr⟩
      rw [show (leftOf es seen).toList = [] by simpa using h0]
      simp [esum]
    · have hent := run_entry_at (P := Try.prog) wn _ mb1 clock seen es clock e hr2 hb2 (left_mem he) hbn
      have hlt := left_lt he
      obtain ⟨x, hx, hxm⟩ := HEV.out e (left_mem he)
      have hsum := esum_filter_ne he (left_nodup hbn)
      rw [← left_push] at hsum
      have hpos : ∀ y ∈ es.toList, 0 ≤ intOf y.val := by
        intro y hy
        obtain ⟨z, hz, hzm⟩ := HEV.out y hy
        obtain ⟨p, hp, rfl⟩ := List.mem_map.1 hzm
        rw [hz]
        exact g1 p hp
      have hn1 := esum_nonneg (fun y hy => hpos y (left_mem (seen := seen) hy))
      have hn2 := esum_nonneg (fun y hy => hpos y (left_mem (seen := seen.push e.born) hy))
      have hle : esum (leftOf es seen).toList ≤ isum G := by rw [← HES.out]; exact esum_left_le hpos
      have hx0 := hpos e (left_mem he)
      rw [hx] at hn hsum hent hx0
      simp only [intOf] at hsum hx0
      go_wp2_with fail
      go_round
      case rel =>
        refine ⟨_, by go_num, hr2, hb2, hmr.step hm2 ?_⟩
        intro i hi e
        have := hm1.size
        omega
      · rw [iterLeft_eq hr2]; exact hlt

end Go.Proofs.Ytinnckbffblecaa
