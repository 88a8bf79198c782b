/- The reference's meter: how long something waits. Conditions: limits were checked, what was let in was checked and never emptied a bucket below nothing. -/
import Derived.Test.YtinnckbffblecaaGreatRefMeter3
import Derived.Test.YtinnckbffblecaaGreatShelf
import Derived.Sort.OwnSortedInts
namespace Go.Proofs.YtinnckbffblecaaGreat
open Go.RowKit
set_option linter.unusedVariables false
set_option linter.unusedSimpArgs false

theorem flat_ints (zs : List Int) : zs.flatMap (encL 1 intEnc) = zs.map (Value.int .i64) := by
  induction zs with
  | nil => rfl
  | cons z zs ih => rw [List.flatMap_cons, ih]; rfl
theorem sort_own (w : World) (B g n c : Nat) (zs : List Int) (h : IntOwn w B (some ⟨g, 0, none⟩) n c zs) (hn : n ≤ 1000000) :
    Calls Tryz.prog 98 #[.slice (some ⟨g, 0, none⟩) n c] w fun e w' => e = .returned (.tuple #[]) ∧ IntOwn w' B (some ⟨g, 0, none⟩) n c (sortM zs) ∧ Only g w w' := by
  obtain ⟨cur, hb, hB, hnc, hcm, hcs, hct⟩ := h.row
  have hl := h.1
  rw [flat_ints, Nat.mul_one] at hct
  subst hl
  refine (Tryz.slices_Sort_int g 0 c zs w (holds_of_blockI hb hct) hb.lt (by omega)).mono ?_
  rintro e w' ⟨rfl, m, os, rfl⟩
  have hsl : (sortM zs).length = zs.length := by unfold sortM; exact List.length_mergeSort zs
  refine ⟨rfl, ⟨hsl, ?_⟩, ?_⟩
  · rw [flat_ints]
    exact ownsRow_sortedI (ss := zs) hsl hB hb hnc hcm hcs
  · exact (Mod.refl (fun k => k = g) w).grown (grownBy_sortedI _) (fun k e => .inl (by injection e with e; exact e.symm))

def mpre (l : Lim) (q : List AskD) (t : Int) : List Int := t :: (if l.kind = 2 then q.map (fun a => a.at_ + l.per) else if l.kind = 4 then q.map (fun a => a.at_ + a.long) else [])
theorem mpre_moments (l : Lim) (p : List AskD) (t : Int) : moments l p t = mpre l p t ++ (if l.kind = 1 then [(t / l.per + 1) * l.per] else []) := rfl
theorem mpre_take (l : Lim) {p : List AskD} {k : Nat} (hk : k < p.length) (t : Int) : mpre l (p.take (k + 1)) t = mpre l (p.take k) t ++ (if l.kind = 2 then [p[k].at_ + l.per] else if l.kind = 4 then [p[k].at_ + p[k].long] else []) := by
  unfold mpre
  rw [List.take_succ_eq_append_getElem hk]
  by_cases h2 : l.kind = 2
  · rw [if_pos h2, if_pos h2, if_pos h2, List.map_append]; rfl
  · rw [if_neg h2, if_neg h2, if_neg h2]
    by_cases h4 : l.kind = 4
    · rw [if_pos h4, if_pos h4, if_pos h4, List.map_append]; rfl
    · rw [if_neg h4, if_neg h4, if_neg h4]; simp
theorem mpre_length (l : Lim) (q : List AskD) (t : Int) : (mpre l q t).length ≤ q.length + 1 := by
  unfold mpre
  split
  · simp
  · split <;> simp
theorem moments_bd {l : Lim} (hl : RLim' l) {p : List AskD} (hp : ∀ a ∈ p, RAskD a) {t : Int} (ht : 0 ≤ t ∧ t ≤ 400000000000) : ∀ s ∈ moments l p t, s ≤ 1000000000000 := by
  intro s hs
  rw [mpre_moments] at hs
  rcases List.mem_append.1 hs with hs | hs
  · unfold mpre at hs
    rcases List.mem_cons.1 hs with rfl | hs
    · omega
    · split at hs
      · rename_i h2
        obtain ⟨a, ha, rfl⟩ := List.mem_map.1 hs
        have := (hp a ha).at_
        have := hl.per (by omega)
        omega
      · split at hs
        · obtain ⟨a, ha, rfl⟩ := List.mem_map.1 hs
          have := (hp a ha).at_
          have := (hp a ha).long
          omega
        · simp at hs
  · split at hs
    · rename_i h1
      have hper := hl.per (by omega)
      have hd := Int.mul_ediv_add_emod t l.per
      have hr := Int.emod_nonneg t (show l.per ≠ 0 by omega)
      simp at hs
      subst hs
      rw [Int.add_mul, Int.mul_comm]
      omega
    · simp at hs
theorem firstM_drop {l : Lim} {p : List AskD} {t cost : Int} {ms : List Int} {k : Nat} (hk : k < ms.length) : firstM l p t cost (ms.drop k) = if t ≤ ms[k] ∧ cost ≤ leftR l p ms[k] then ms[k] - t else firstM l p t cost (ms.drop (k + 1)) := by
  rw [List.drop_eq_getElem_cons hk, firstM]
theorem max_tdiv (x m : Int) (hm : 1 ≤ m) : max 0 (x.tdiv m) = max 0 (x / m) := by
  by_cases h : 0 ≤ x
  · rw [Int.tdiv_eq_ediv_of_nonneg h]
  · have h1 : x / m ≤ 0 := by
      have := Int.ediv_lt_of_lt_mul (a := x) (b := 1) (c := m) (by omega) (by omega); omega
    have h2 : x.tdiv m ≤ 0 := by
      have h3 : (-x).tdiv m = -(x.tdiv m) := Int.neg_tdiv x m
      have h4 := Int.tdiv_nonneg (a := -x) (b := m) (by omega) (by omega)
      omega
    omega

theorem tdiv_neg_bd {x m : Int} (h : x < 0) (hm : 1 ≤ m) : x.tdiv m ≤ 0 ∧ x ≤ x.tdiv m := by
  have h3 : (-x).tdiv m = -(x.tdiv m) := Int.neg_tdiv x m
  have h4 := Int.tdiv_nonneg (a := -x) (b := m) (by omega) (by omega)
  have h5 : (-x).tdiv m = (-x) / m := Int.tdiv_eq_ediv_of_nonneg (by omega)
  have h6 := Int.ediv_le_self m (show 0 ≤ -x by omega)
  omega
theorem waitD_far {l : Lim} {p : List AskD} {t cost : Int} (h : greatest l < cost) : waitD l p t cost = -1 := by unfold waitD waitR; rw [if_pos h]

set_option maxRecDepth 100000 in
set_option maxHeartbeats 2000000 in
/-- a limit that never lets in so much, and a bucket's limit -/
theorem ref_waitFor1 (l : Lim) (hl : RLim' l) (p : List AskD) (A : Option Addr) (n c : Nat) (t cost : Int) (w : World) (h : AskRows w A n p) (hp : ∀ a ∈ p, RAskD a) (hc : PourC l p t) (hn : n ≤ 10000) (ht : 0 ≤ t ∧ t < 345686400000) (hco : 1 ≤ cost ∧ cost ≤ 1000000000)
    (hcase : greatest l < cost ∨ l.kind = 3) :
    Calls Tryz.prog 83 #[l.val, .slice A n c, .int .i64 t, .int .i64 cost] w fun e w' => e = .returned (.int .i64 (waitD l p t cost)) ∧ New w w' := by
  by_cases hg : greatest l < cost
  · have HV := Lib.hid (waitD_far (p := p) (t := t) hg)
    unfold greatest at hg
    clear h hp hc hl hcase
    generalize waitD l p t cost = D at *
    obtain ⟨key, kind, most, per, burst⟩ := l
    simp only at hg
    simp only [Lim.val]
    by_cases h3 : kind = 3
    · subst h3
      rw [if_pos rfl] at hg
      have hd : decide (burst < cost) = true := by simpa using hg
      go_enter Tryz.func83, Tryz.ntmps83
      go_wp2_with fail
      go_ret
      exact ⟨ret_int HV.out.symm, (by with_reducible (repeat (first | exact Mod.refl _ _ | refine Mod.drewN ?_ _ | refine Mod.drew ?_ | refine Mod.alloc ?_ _)))⟩
    · rw [if_neg h3] at hg
      have hd : decide (most < cost) = true := by simpa using hg
      have hk3 : (kind == 3) = false := by simpa using h3
      go_enter Tryz.func83, Tryz.ntmps83
      go_wp2_with fail
      go_ret
      exact ⟨ret_int HV.out.symm, (by with_reducible (repeat (first | exact Mod.refl _ _ | refine Mod.drewN ?_ _ | refine Mod.drew ?_ | refine Mod.alloc ?_ _)))⟩
  · have h3 : l.kind = 3 := by rcases hcase with h | h; (· exact absurd h hg); exact h
    have hfb := filledR_bd hl h3 hp hc
    have hf := (hl.b h3).full
    obtain ⟨hp1, hp2⟩ := (hl.b h3).per
    obtain ⟨hm1, hm2⟩ := (hl.b h3).most
    have hfl := fun W (hW : New w W) => ref_filled l hl h3 p A n c t W (h.new hW) hp (hc h3).1 (hc h3).2 (by omega) ⟨ht.1, by omega⟩
    have HFL := Lib.hid hfl
    have hV : waitD l p t cost = max 0 ((cost * l.per - filledR l p t + l.most - 1) / l.most) := by unfold waitD waitR; rw [if_neg hg, if_pos h3]
    have hfu : fullR l ≤ 8640000000000000000 := hf.2
    have hcp2 : cost * l.per ≤ 1000000000 * 8640000000 := Int.mul_le_mul (by omega) hp2 (by omega) (by omega)
    have hcp := Int.mul_nonneg (show 0 ≤ cost by omega) (show 0 ≤ l.per by omega)
    rw [← max_tdiv _ _ hm1] at hV
    unfold greatest at hg
    rw [if_pos h3] at hg
    clear hfl h hp hc hl hf hcase
    generalize waitD l p t cost = D at *
    generalize filledR l p t = X at *
    generalize fullR l = FF at *
    obtain ⟨key, kind, most, per, burst⟩ := l
    simp only at h3 hp1 hp2 hm1 hm2 hg hV hcp hcp2
    subst h3
    simp only [Lim.val] at HFL ⊢
    have HV := Lib.hid hV
    clear hV
    have hd : decide (burst < cost) = false := by simpa using hg
    have e1 : IntKind.i64.wrap (cost * per) = cost * per := IntWalk.i64_in _ (by omega)
    have hm0 : (most == 0) = false := by simp; omega
    have hmne : ¬ most = 0 := by omega
    go_enter Tryz.func83, Tryz.ntmps83
    go_wp2_with fail
    have hA1 := (Mod.refl (fun _ => False) w).alloc (.cells #[.string key, .int .i64 3, .int .i64 most, .int .i64 per, .int .i64 burst] 28)
    have bl := Blk.new w 28 #[.string key, .int .i64 3, .int .i64 most, .int .i64 per, .int .i64 burst]
    generalize w.alloc (.cells #[.string key, .int .i64 3, .int .i64 most, .int .i64 per, .int .i64 burst] 28) = w1 at *
    have x0 := bl.cell 0
    have x1 := bl.cell 1
    have x2 := bl.cell 2
    have x3 := bl.cell 3
    have x4 := bl.cell 4
    have xl := bl.lt
    simp at x0 x1 x2 x3 x4
    refine wp_region_held_ord (fun w' => w'.cell? ⟨w.heap.size, 0, none⟩ = some (.string key) ∧ w'.cell? ⟨w.heap.size, 1, none⟩ = some (.int .i64 3) ∧ w'.cell? ⟨w.heap.size, 2, none⟩ = some (.int .i64 most) ∧ w'.cell? ⟨w.heap.size, 3, none⟩ = some (.int .i64 per) ∧ w'.cell? ⟨w.heap.size, 4, none⟩ = some (.int .i64 burst) ∧ w.heap.size < w'.heap.size) [7] [0, 1, 2, 3, 4, 5, 6, 7] (by kernel_rfl) (by kernel_rfl) (fun _ _ d _ _ h => by cases d <;> exact h) ?_ (fun hHeld => ?_)
    · exact ⟨x0, x1, x2, x3, x4, xl⟩
    simp only [List.length_cons, List.length_nil, List.drop_succ_cons, List.drop_zero]
    refine heldO_take ?_ (by rfl) (by rfl) (by rfl) (fun w hSw => ?_) ?_
    rotate_left
    · (try dsimp only at hSw); go_simp; any_goals (with_reducible rfl)
    simp only [Act.put, List.setIfInBounds_toArray, List.set_cons_zero, List.set_cons_succ]
    refine heldO_take ?_ (by rfl) (by rfl) (by rfl) (fun w hSw => ?_) ?_
    rotate_left
    · (try dsimp only at hSw); go_simp; any_goals (with_reducible rfl)
    simp only [Act.put, List.setIfInBounds_toArray, List.set_cons_zero, List.set_cons_succ]
    refine heldO_take ?_ (by rfl) (by rfl) (by rfl) (fun w hSw => ?_) ?_
    rotate_left
    · (try dsimp only at hSw); go_simp; any_goals (with_reducible rfl)
    simp only [Act.put, List.setIfInBounds_toArray, List.set_cons_zero, List.set_cons_succ]
    refine heldO_take ?_ (by rfl) (by rfl) (by rfl) (fun w hSw => ?_) ?_
    rotate_left
    · (try dsimp only at hSw); go_simp; any_goals (with_reducible rfl)
    simp only [Act.put, List.setIfInBounds_toArray, List.set_cons_zero, List.set_cons_succ]
    refine heldO_take ?_ (by rfl) (by rfl) (by rfl) (fun w hSw => ?_) ?_
    rotate_left
    · (try dsimp only at hSw); go_simp; any_goals (with_reducible rfl)
    simp only [Act.put, List.setIfInBounds_toArray, List.set_cons_zero, List.set_cons_succ]
    refine heldO_take ?_ (by rfl) (by rfl) (by rfl) (fun w hSw => ?_) ?_
    rotate_left
    · (try dsimp only at hSw); go_simp; any_goals (with_reducible rfl)
    simp only [Act.put, List.setIfInBounds_toArray, List.set_cons_zero, List.set_cons_succ]
    refine heldO_take ?_ (by rfl) (by rfl) (by rfl) (fun w hSw => ?_) ?_
    rotate_left
    · (try dsimp only at hSw); go_simp; any_goals (with_reducible rfl)
    simp only [Act.put, List.setIfInBounds_toArray, List.set_cons_zero, List.set_cons_succ]
    have hcall := HFL.out (w1.drewN 1) (hA1.drewN 1)
    refine heldO_step (by rfl) (by rfl) (by rfl) (fun K hK => ?_)
    go_simp
    refine hcall.mono ?_
    clear hcall
    rintro e w2 ⟨rfl, hm2'⟩
    have b2 := bl.new'' (((Mod.refl _ w1).drewN 1).trans hm2')
    have q0 : w2.cell? ⟨w.heap.size, 0, none⟩ = some (.string key) := (b2.cell 0).trans rfl
    have q1 : w2.cell? ⟨w.heap.size, 1, none⟩ = some (.int .i64 3) := (b2.cell 1).trans rfl
    have q2 : w2.cell? ⟨w.heap.size, 2, none⟩ = some (.int .i64 most) := (b2.cell 2).trans rfl
    have q3 : w2.cell? ⟨w.heap.size, 3, none⟩ = some (.int .i64 per) := (b2.cell 3).trans rfl
    have q4 : w2.cell? ⟨w.heap.size, 4, none⟩ = some (.int .i64 burst) := (b2.cell 4).trans rfl
    have ql := b2.lt
    go_wp2_with fail
    refine hK.out _ _ ⟨q0, q1, q2, q3, q4, ql⟩ (fun hHeld => ?_)
    clear hK K
    try simp only [Act.put, List.setIfInBounds_toArray, List.set_cons_zero, List.set_cons_succ]
    refine heldO_nil ?_
    clear e1
    by_cases hpos : 0 ≤ cost * per - X + most - 1
    · have hz1 := Int.ediv_le_self most hpos
      have hz2 := Int.ediv_nonneg hpos (show 0 ≤ most by omega)
      go_wp2_with fail
      go_ret
      exact ⟨ret_int (by rw [HV.out, Int.tdiv_eq_ediv_of_nonneg hpos]), (hA1.drewN 1).trans hm2'⟩
    · obtain ⟨hz1, hz2⟩ := tdiv_neg_bd (show cost * per - X + most - 1 < 0 by omega) hm1
      have e6 : IntKind.i64.wrap ((cost * per - X + most - 1).tdiv most) = (cost * per - X + most - 1).tdiv most := IntWalk.i64_in _ (by omega)
      go_wp2_with fail
      go_ret
      exact ⟨ret_int (by rw [HV.out]), (hA1.drewN 1).trans hm2'⟩

end Go.Proofs.YtinnckbffblecaaGreat
