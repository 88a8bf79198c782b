/- What lasts: putting in another piece behind all that end no later. Conditions: a row that the call owns, pieces in order with modest numbers. -/
import Derived.Test.YtinnckbffblecaaGreatInsert
namespace Go.Proofs.YtinnckbffblecaaGreat
open Go.RowKit
set_option linter.unusedVariables false
set_option linter.unusedSimpArgs false

theorem with_split {ps : List Pc} (hr : Rising ps) (x : Pc) {k : Nat} (hk : k ≤ ps.length) (h1 : ∀ j (hj : j < ps.length), k ≤ j → x.until_ < ps[j].until_) (h2 : ∀ (h0 : 0 < k), (ps[k - 1]'(by omega)).until_ ≤ x.until_) : ps.take k ++ x :: ps.drop k = withP ps x := by
  have hall : ∀ y ∈ ps.take k, decide (y.until_ ≤ x.until_) = true := by
    intro y hy
    obtain ⟨j, hj, rfl⟩ := List.getElem_of_mem hy
    have hjk : j < k := by simp at hj; omega
    have h3 := h2 (by omega)
    rw [List.getElem_take]
    have h4 : ps[j].until_ ≤ (ps[k - 1]'(by omega)).until_ := by
      by_cases e : j = k - 1
      · simp only [e]; exact Int.le_refl _
      · exact List.pairwise_iff_getElem.1 hr j (k - 1) (by omega) (by omega) (by omega)
    simp; omega
  have hno : (ps.drop k).takeWhile (fun y => decide (y.until_ ≤ x.until_)) = [] ∧ (ps.drop k).dropWhile (fun y => decide (y.until_ ≤ x.until_)) = ps.drop k := by
    by_cases e : k < ps.length
    · have h3 := h1 k e (Nat.le_refl _)
      rw [List.drop_eq_getElem_cons e, List.takeWhile_cons_of_neg (by simp; omega), List.dropWhile_cons_of_neg (by simp; omega)]
      exact ⟨rfl, rfl⟩
    · rw [List.drop_of_length_le (by omega)]; exact ⟨rfl, rfl⟩
  have e : ps = ps.take k ++ ps.drop k := (List.take_append_drop k ps).symm
  unfold withP
  have e1 : ps.takeWhile (fun y => decide (y.until_ ≤ x.until_)) = ps.take k := by
    conv => lhs; rw [e]
    rw [List.takeWhile_append_of_pos hall, hno.1, List.append_nil]
  have e2 : ps.dropWhile (fun y => decide (y.until_ ≤ x.until_)) = ps.drop k := by
    conv => lhs; rw [e]
    rw [List.dropWhile_append_of_pos hall, hno.2]
  rw [e1, e2]

set_option maxRecDepth 100000 in
set_option maxHeartbeats 1000000 in
theorem pieces_with (w : World) (B : Nat) (A : Option Addr) (n c : Nat) (ps : List Pc) (x : Pc) (hs : Own w B 211 2 Pc.enc A n c ps) (hr : Rising ps) (hB : B ≤ w.heap.size) (hn : n ≤ 100000) :
    Calls Tryz.prog 150 #[.slice A n c, .agg #[.int .i64 x.until_, .int .i64 x.cost]] w (RIns w B A (withP ps x)) := by
  have hlen := hs.1
  have hfar : ∀ b, blkOf A = some b → b < w.heap.size := fun b e => by
    rcases hs.blk with ⟨rfl, _⟩ | ⟨g, rfl, _, ht⟩
    · cases e
    · injection e with e; subst e; exact ht.lt
  have HS := Lib.hid hs
  have HR := Lib.hid hr
  have HF := Lib.hid hfar
  clear hs hr hfar
  go_enter Tryz.func150, Tryz.ntmps150
  go_wp2_with fail
  have hA1 := (Mod.refl (fun _ => False) w).alloc (.cells #[.int .i64 x.until_, .int .i64 x.cost] 211)
  have bx := Blk.new w 211 #[.int .i64 x.until_, .int .i64 x.cost]
  have hs1 := HS.out.new hA1
  have hz1 : (w.alloc (.cells #[.int .i64 x.until_, .int .i64 x.cost] 211)).heap.size = w.heap.size + 1 := by simp
  generalize w.alloc (.cells #[.int .i64 x.until_, .int .i64 x.cost] 211) = w1 at *
  have HS1 := Lib.hid hs1
  have HX := Lib.hid bx
  have HA1 := Lib.hid hA1
  have HZ1 := Lib.hid hz1
  clear hs1 bx hA1 hz1
  go_loopw [5] (fun i wr => ∃ k : Nat, k ≤ n ∧ i = .int .i64 k ∧ (∃ q, wr = w1.drewN q) ∧ Hid (∀ j (hj : j < ps.length), k ≤ j → x.until_ < ps[j].until_)) (fun i _ => (intOf i).toNat)
  case atStart => exact ⟨n, Nat.le_refl _, rfl, ⟨0, rfl⟩, Lib.hid (fun j hj hk => absurd hj (by omega))⟩
  case round =>
    rename World => wr
    obtain ⟨k, hk, rfl, ⟨q, rfl⟩, HL⟩ := hrel
    have x0 := HX.out.cell 0
    simp at x0
    have hxl := HX.out.lt
    have hfin : ∀ q' e w', RIns ((w1.drewN q').alloc (.cells #[.int .i64 x.until_, .int .i64 x.cost] 211)) B A (ps.take k ++ x :: ps.drop k) e w' → RIns w B A (ps.take k ++ x :: ps.drop k) e w' := by
      rintro q' e w' ⟨g, c', h1, h2, h3, h4⟩
      refine ⟨g, c', h1, h2, ?_, ?_⟩
      · exact (((HA1.out.drewN q').alloc _).mono (fun _ _ e => e.elim)).trans h3
      · rcases h4 with h4 | h4
        · exact .inl h4
        · right
          have h5 := HZ1.out
          have h6 : (w1.drewN q').heap.size = w1.heap.size := rfl
          simp at h4
          omega
    have hdone : (∀ (h0 : 0 < k), (ps[k - 1]'(by omega)).until_ ≤ x.until_) → ∀ (q' : Nat) (z : Int), z = k → Calls Tryz.prog 155 #[.slice A n c, .int .i64 z, .slice (some ⟨w1.heap.size, 0, none⟩) 1 1] ((w1.drewN q').alloc (.cells #[.int .i64 x.until_, .int .i64 x.cost] 211)) (RIns w B A (withP ps x)) := fun h q' z hz => by
      subst hz
      rw [← with_split HR.out x (by omega) HL.out h]
      refine (insert_pc _ B A n c k ps x _ ((HS1.out.drewN q').alloc _) (Blk.new _ _ _) (fun e => ?_) (by have := HZ1.out; simp; omega) hk hn).mono (fun e w' h => hfin q' e w' h)
      have h1 := HF.out _ e
      have h2 := HZ1.out
      have h3 : (w1.drewN q').heap.size = w1.heap.size := rfl
      omega
    have HD := Lib.hid hdone
    clear hdone hfin
    by_cases h0 : 0 < k
    · obtain ⟨g, o, hA, htb, hc⟩ := HS1.out.sl.2 (by omega)
      subst hA
      have k0 := hc (k - 1) (by omega) 0 (by omega)
      simp only [Pc.enc, Nat.add_zero] at k0
      have hgl := htb.lt
      have hb1 : (0 : Int) < k := by omega
      have hb2 : (0 : Int) ≤ (k : Int) - 1 := by omega
      have hb3 : (k : Int) - 1 < n := by omega
      have hb4 : ((k : Int) - 1).toNat = k - 1 := by omega
      have e1 : IntKind.i64.wrap ((k : Int) - 1) = (k : Int) - 1 := IntWalk.i64_in _ (by omega)
      have hd0 : decide ((0 : Int) < k) = true := by simpa using h0
      have hkl : k - 1 < ps.length := by omega
      clear hc
      by_cases hx : x.until_ < ps[k - 1].until_
      · have HX2 := Lib.hid hx
        have hx' : decide (x.until_ < ps[k - 1].until_) = true := by simpa using hx
        generalize hp : ps[k - 1] = y at *
        have HP := Lib.hid hp
        clear hp
        go_wp2_with fail
        go_quiet (fail)
        clear e1
        go_wp2_with fail
        refine ⟨⟨k - 1, by omega, by go_num, ⟨q + nq, rfl⟩, Lib.hid (fun j hj hkj => ?_)⟩, by simp [intOf]; omega⟩
        by_cases e : j = k - 1
        · subst e
          rw [HP.out]; exact HX2.out
        · exact HL.out j hj (by omega)
      · have hdn := HD.out (fun _ => by omega)
        have hx' : decide (x.until_ < ps[k - 1].until_) = false := by simpa using hx
        generalize ps[k - 1] = y at *
        have HDN := Lib.hid hdn
        clear hdn
        go_wp2_with fail
        go_quiet (fail)
        clear e1
        go_upto_region 4 with (fail)
        have x00 := HX.out.cell 0
        have x01 := HX.out.cell 1
        simp at x00 x01
        have hcall := HDN.out (q + nq) k (by omega)
        generalize withP ps x = ys at *
        go_wp2_with fail
        refine hcall.mono ?_
        clear hcall
        rintro e w' ⟨g2, c2, rfl, i2, i3, i4⟩
        go_wp2_with fail
        go_ret
        exact ⟨g2, c2, rfl, i2, i3, i4⟩
    · obtain rfl : k = 0 := by omega
      have hdn := HD.out (fun h => absurd h (by omega))
      have HDN := Lib.hid hdn
      clear hdn
      have hd0 : decide ((0 : Int) < ((0 : Nat) : Int)) = false := by simp
      go_wp2_with fail
      go_quiet (fail)
      go_upto_region 4 with (fail)
      have x00 := HX.out.cell 0
      have x01 := HX.out.cell 1
      simp at x00 x01
      have hcall := HDN.out (q + nq) 0 (by omega)
      generalize withP ps x = ys at *
      go_wp2_with fail
      refine hcall.mono ?_
      clear hcall
      rintro e w' ⟨g2, c2, rfl, i2, i3, i4⟩
      go_wp2_with fail
      go_ret
      exact ⟨g2, c2, rfl, i2, i3, i4⟩

end Go.Proofs.YtinnckbffblecaaGreat
