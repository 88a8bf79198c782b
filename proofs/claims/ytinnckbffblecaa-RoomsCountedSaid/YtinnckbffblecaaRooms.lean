/- The law RoomsCounted, walked. Conditions: the argument is a slice of ints that can be read. -/
import Derived.Test.YtinnckbffblecaaLimited
import Derived.Test.YtinnckbffblecaaFair3
import Derived.Test.YtinnckbffblecaaCmp
namespace Go.Proofs.Ytinnckbffblecaa
open Go.RowKit

/-- a slice of ints that came in and can be read -/
def InInts (w : World) (A : Option Addr) (n : Nat) : Prop :=
  n ≤ maxLen ∧ (0 < n → ∃ g o, A = some ⟨g, o, none⟩ ∧ g < w.heap.size ∧ ∃ z : Nat → Int, ∀ i, i < n → w.cell? ⟨g, o + i, none⟩ = some (.int .i64 (z i)) ∧ I64 (z i))

theorem SInv.start {w : World} {A : Option Addr} {n c : Nat} (h : InInts w A n) : SInv w.heap.size (w.alloc (.cells #[.slice A n c, .int .i64 0] 25)) 0 := by
  rcases Nat.eq_zero_or_pos n with rfl | hn
  · exact ⟨A, 0, c, 0, fun _ => 0, Blk.new _ _ _, by omega, by unfold maxLen; omega, fun h => absurd h (by omega)⟩
  · obtain ⟨g, o, hA, hg, z, hz⟩ := h.2 hn
    refine ⟨A, n, c, 0, z, Blk.new _ _ _, by omega, h.1, fun _ => ⟨g, o, hA, hg, fun i hi => ⟨?_, (hz i hi).2⟩⟩⟩
    rw [← (hz i hi).1]
    exact World.cell?_alloc_lt w _ _ hg

/-- what the stream does is nothing to the caller's memory -/
theorem SStep.news {w w' : World} {o : Obj} {k : Nat} (h : SStep w.heap.size (w.alloc o) w' k) : New w w' :=
  ((Mod.refl (fun _ => False) w).alloc o).step h.only (fun i hi e => by omega)

theorem SStep.mod {S : Nat → Prop} {b k : Nat} {w w' w'' : World} (h : SStep b w w' k) (hm : Mod S w' w'') (hS : ∀ i, S i → w.heap.size ≤ i) : SStep b w w'' k :=
  ⟨h.lt, h.only.step hm (fun i hi e => by have := hS i e; omega), h.inv.mod hm (fun i hi e => by have := hS i e; have := h.lt; omega)⟩
theorem Own.far {α : Type} {w : World} {B : Nat} {t : TypeId} {sz : Nat} {enc : α → Nat → Value} {A : Option Addr} {n c : Nat} {xs : List α} (h : Own w B t sz enc A n c xs) : ∀ i, blkOf A = some i → B ≤ i ∧ i < w.heap.size := by
  intro i e
  rcases h.blk with ⟨rfl, _⟩ | ⟨g, rfl, hB, ht⟩
  · cases e
  · injection e with e; subst e; exact ⟨hB, ht.lt⟩

theorem roomSpec_ok {l : Lim} {long : Int} (h : (roomSpec l long).2 = 0) : limsFault [l] = 0 ∧ l.kind ≠ 4 ∧ (1 ≤ long ∧ long ≤ 100000) ∧ (roomSpec l long).1 = roomOf l long.toNat := by
  unfold roomSpec at *
  split at h
  · contradiction
  · rename_i h1
    split at h
    · cases h
    · rename_i h2
      split at h
      · cases h
      · rename_i h3
        refine ⟨by simpa using h1, h2, by simpa using h3, ?_⟩
        rw [if_neg h1, if_neg h2, if_neg h3]

set_option maxRecDepth 100000 in
set_option maxHeartbeats 4000000 in
theorem rooms_walk (A : Option Addr) (n c : Nat) (w : World) (h : InInts w A n) :
    Calls Try.prog 3 #[.slice A n c] w fun e w' => e = .returned (.bool true) ∧ New w w' := by
  have hs := SInv.start (c := c) h
  go_enter Try.func3, Try.ntmps3
  go_wp2_with fail
  refine (rightLimit_any ⟨#[108, 97]⟩ w.heap.size 0 _ hs (by omega)).mono ?_
  rintro e w1 ⟨l, rfl, hlk, hls, h1⟩
  obtain ⟨key, kind, most, per, burst⟩ := l
  simp only at hlk
  subst hlk
  simp only [Lim.val]
  have hz1 : w.heap.size < w1.heap.size := by have := h1.only.size; simp at this; omega
  generalize hW0 : w.alloc (.cells #[.slice A n c, .int .i64 0] 25) = W0 at *
  have hW0s : W0.heap.size = w.heap.size + 1 := by rw [← hW0]; simp
  have hnews : ∀ w' k, SStep w.heap.size W0 w' k → New w w' := fun w' k hh => by rw [← hW0] at hh; exact hh.news
  have HN := Lib.hid hnews
  have HW0s := Lib.hid hW0s
  clear hnews hW0 hW0s hs
  go_upto_if 20 with (first | (go_at_call 6; refine (flip_any _ _ _ _ (h1.alloc _).inv (by omega) (by omega) (by omega)).mono ?_; rintro e w2 ⟨m, rfl, h2⟩))
  have T2 := (h1.alloc _).trans h2
  obtain ⟨o2, z2, n2⟩ := h2.only.pre
  have B2 : Blk w2 w1.heap.size 27 _ := n2 (by omega)
  clear n2 h1 h2 o2
  go_cut [] (fun wx => ∃ most per : Int, Lim.Small ⟨⟨#[108, 97]⟩, kind, most, per, burst⟩ ∧ Blk wx w1.heap.size 27 #[.string ⟨#[108, 97]⟩, .int .i64 kind, .int .i64 most, .int .i64 per, .int .i64 burst] ∧ SStep w.heap.size W0 wx 9)
  case first =>
    cases m
    · go_wp2_with fail
      go_meet
      exact ⟨most, per, hls, B2, T2.more (by omega)⟩
    · go_wp2_with fail
      refine (odd_any _ _ _ _ _ T2.inv (by omega) (by omega) (by omega) (by omega)).mono ?_
      rintro e w3 ⟨m3, rfl, hl3, hu3, h3⟩
      have T3 := T2.trans h3
      have B3 := B2.mod h3.only (by omega)
      go_wp2_with fail
      refine (odd_any _ _ _ _ _ T3.inv (by omega) (by omega) (by omega) (by omega)).mono ?_
      rintro e w4 ⟨m4, rfl, hl4, hu4, h4⟩
      have T4 := T3.trans h4
      have B4 := B3.mod h4.only (by omega)
      have c2 := B4.cell 2
      have c3 := B4.cell 3
      have f2 := B4.frozen 2
      have f3 := B4.frozen 3
      simp at c2 c3
      go_wp2_with fail
      go_meet
      refine ⟨m3, m4, ?_, by simpa using (B4.set 2 (.int .i64 m3)).set 3 (.int .i64 m4), ?_⟩
      · unfold Lim.Small at *; simp only at *; omega
      · refine SStep.set (SStep.set (T4.more (by omega)) ?_ _) ?_ _ <;> (rw [HW0s.out]; simp; omega)
  case rest =>
    clear T2 B2 hls z2
    obtain ⟨most, per, hls, BX, TX⟩ := hcut
    have hx0 := BX.cell 0
    have hx1 := BX.cell 1
    have hx2 := BX.cell 2
    have hx3 := BX.cell 3
    have hx4 := BX.cell 4
    simp at hx0 hx1 hx2 hx3 hx4
    go_wp2_with fail
    refine (pick_any [1, 2, 3, 7, 8, 11, 100, 101, 0, 100000, 100001] _ 9 _ 11 _ (TX.alloc _).inv (by omega) (Blk.new _ _ _) rfl (by omega) (by omega)).mono ?_
    rintro e w5 ⟨long, rfl, m5, h5⟩
    have hlong : 0 ≤ long ∧ long ≤ 100001 := by simp at m5; omega
    obtain ⟨o5, z5, -⟩ := h5.only.pre
    have T5 := (TX.alloc _).trans h5
    have B5 := BX.mod o5 (by omega)
    clear hx0 hx1 hx2 hx3 hx4 TX BX m5 h5 o5 z5
    have hx0 := B5.cell 0
    have hx1 := B5.cell 1
    have hx2 := B5.cell 2
    have hx3 := B5.cell 3
    have hx4 := B5.cell 4
    simp at hx0 hx1 hx2 hx3 hx4
    go_wp2_with fail
    refine (limit_room ⟨⟨#[108, 97]⟩, kind, most, per, burst⟩ long _ (by simp only; decide)).mono ?_
    rintro e w6 ⟨rfl, m6⟩
    have T6 := T5.new m6
    have B6 := B5.mod m6 (fun h => h)
    clear hx0 hx1 hx2 hx3 hx4 T5 B5 m6
    have hx0 := B6.cell 0
    have hx1 := B6.cell 1
    have hx2 := B6.cell 2
    have hx3 := B6.cell 3
    have hx4 := B6.cell 4
    simp at hx0 hx1 hx2 hx3 hx4
    have hfault := room_fault ⟨⟨#[108, 97]⟩, kind, most, per, burst⟩ long
    simp only at hfault
    have HFA := Lib.hid hfault
    clear hfault
    go_upto_region 7 with (fail)
    go_cut [8] (fun s8 wx => s8 = .int .i64 (roomSpec ⟨⟨#[108, 97]⟩, kind, most, per, burst⟩ long).2 ∧ Blk wx w1.heap.size 27 #[.string ⟨#[108, 97]⟩, .int .i64 kind, .int .i64 most, .int .i64 per, .int .i64 burst] ∧ SStep w.heap.size W0 wx 10)
    case first =>
      have l6 := B6.lt
      by_cases hlo : long < 1
      · obtain rfl : long = 0 := by omega
        refine wp_region_any (by kernel_rfl) ?_
        change wpAny _ _ _ _ _ _ _ (World.drew _)
        refine wpAny_take (i := 3) (v := .pointer (some ⟨w1.heap.size, 1, none⟩)) rfl (by kernel_rfl) (by kernel_rfl) (by kernel_rfl) (fun _ _ _ h => h) (Or.inl ⟨rfl, fun w => by go_simp⟩) ?_
        refine wpAny_take (i := 7) (v := .int .i64 0) rfl (by kernel_rfl) (by kernel_rfl) (by kernel_rfl) (fun _ _ _ h => h) (Or.inl ⟨rfl, fun w => by go_simp⟩) ?_
        refine wpAny_take (i := 8) (v := .bool true) rfl (by kernel_rfl) (by kernel_rfl) (by kernel_rfl) (fun _ _ _ h => h) (Or.inl ⟨rfl, fun w => by go_simp⟩) ?_
        refine wpAny_ready (rs := [0, 4]) (by kernel_rfl) (by simp) ?_
        refine AllReady.cons rfl (fun K hK => ?_) ?_
        · go_simp
          refine hK _ _ ?_
          clear hK K
          refine wpAny_ready (rs := [1, 4]) (by kernel_rfl) (by simp) ?_
          refine AllReady.cons rfl (fun K hK => ?_) ?_
          · go_simp
            refine hK _ _ ?_
            clear hK K
            refine wpAny_ready (rs := [2, 4]) (by kernel_rfl) (by simp) ?_
            refine AllReady.cons rfl (fun K hK => ?_) ?_
            · go_simp
              refine (ref_limitsFault [⟨⟨#[108, 97]⟩, kind, most, per, burst⟩] _ 1 _ _ (LimRows.one _ _ (by exact Blk.new _ _ _)) (by omega) (by simp; decide)).mono ?_
              rintro e wL ⟨rfl, hmL⟩
              have BL := Blk.mod (Blk.mod (Blk.mod B6 ((Mod.refl (fun _ => False) _).alloc _) (fun h => h)) ((Mod.refl (fun _ => False) _).drew) (fun h => h)) hmL (fun h => h)
              have kL1 : wL.cell? ⟨w1.heap.size, 1, none⟩ = some (.int .i64 kind) := (BL.cell 1).trans rfl
              have lL := BL.lt
              refine hK _ _ ?_
              clear hK K
              refine wpAny_ready (rs := [4]) (by kernel_rfl) (by simp) ?_
              refine AllReady.cons rfl (fun K hK => ?_) ?_
              · go_simp
                refine hK _ _ ?_
                clear hK K
                refine wpAny_take (i := 5) (v := .bool (kind == 4)) rfl (by kernel_rfl) (by kernel_rfl) (by kernel_rfl) (fun _ _ _ h => h) (Or.inl ⟨rfl, fun w => by go_simp⟩) ?_
                refine wpAny_ready (rs := [6]) (by kernel_rfl) (by simp) ?_
                refine AllReady.cons rfl (fun K hK => ?_) ?_
                · go_simp
                  refine (when_any _ _ _).mono ?_
                  rintro e wW ⟨rfl, rfl⟩
                  refine hK _ _ ?_
                  clear hK K
                  refine wpAny_take (i := 9) (v := .bool true) rfl (by kernel_rfl) (by kernel_rfl) (by kernel_rfl) (fun _ _ _ h => h) (Or.inl ⟨rfl, fun w => by go_simp⟩) ?_
                  refine wpAny_take (i := 10) (v := undef) rfl (by kernel_rfl) (by kernel_rfl) (by kernel_rfl) (fun _ _ _ h => h) (Or.inr ⟨rfl, rfl⟩) ?_
                  refine wpAny_take (i := 11) (v := undef) rfl (by kernel_rfl) (by kernel_rfl) (by kernel_rfl) (fun _ _ _ h => h) (Or.inr ⟨rfl, rfl⟩) ?_
                  refine wpAny_take (i := 12) (v := .bool true) rfl (by kernel_rfl) (by kernel_rfl) (by kernel_rfl) (fun _ _ _ h => h) (Or.inl ⟨rfl, fun w => by go_simp⟩) ?_
                  refine wpAny_ready (rs := [13]) (by kernel_rfl) (by simp) ?_
                  refine AllReady.cons rfl (fun K hK => ?_) ?_
                  · go_simp
                    refine (when_any _ _ _).mono ?_
                    rintro e wW ⟨rfl, rfl⟩
                    refine hK _ _ ?_
                    clear hK K
                    refine wpAny_ready (rs := [14]) (by kernel_rfl) (by simp) ?_
                    refine AllReady.cons rfl (fun K hK => ?_) ?_
                    · go_simp
                      refine hK _ _ ?_
                      clear hK K
                      refine wpAny_ready (rs := [15]) (by kernel_rfl) (by simp) ?_
                      refine AllReady.cons rfl (fun K hK => ?_) ?_
                      · go_simp
                        refine (cmpOr_any [limsFault [⟨⟨#[108, 97]⟩, kind, most, per, burst⟩], _, _] _ 3 _ (by exact Blk.new _ _ _) rfl (by omega)).mono ?_
                        rintro e wO ⟨rfl, rfl⟩
                        refine hK _ _ ?_
                        clear hK K
                        refine wpAny_take (i := 16) (v := .int .i64 (orL [limsFault [⟨⟨#[108, 97]⟩, kind, most, per, burst⟩], whenE (kind == 4) 10, whenE true 1])) rfl (by kernel_rfl) (by kernel_rfl) (by kernel_rfl) (fun _ _ _ h => h) (Or.inl ⟨rfl, fun w => by go_simp⟩) ?_
                        refine wpAny_done (by kernel_rfl) ?_ _
                        go_wp2_with fail
                        go_meet
                        refine ⟨by rw [← HFA.out]; simp [whenE, *], BL.mod (S := fun _ => False) (by with_reducible (repeat (first | exact Mod.refl _ _ | refine Mod.drewN ?_ _ | refine Mod.drew ?_ | refine Mod.alloc ?_ _))) (fun h => h), ?_⟩
                        refine ((T6.alloc _).drew.new hmL).new (by with_reducible (repeat (first | exact Mod.refl _ _ | refine Mod.drewN ?_ _ | refine Mod.drew ?_ | refine Mod.alloc ?_ _)))
                      · exact AllReady.nil
                    · exact AllReady.nil
                  · exact AllReady.nil
                · exact AllReady.nil
              · exact AllReady.nil
            · refine AllReady.cons rfl (fun K hK => ?_) ?_
              · go_simp
                refine hK _ _ ?_
                clear hK K
                refine wpAny_take (i := 5) (v := .bool (kind == 4)) rfl (by kernel_rfl) (by kernel_rfl) (by kernel_rfl) (fun _ _ _ h => h) (Or.inl ⟨rfl, fun w => by go_simp⟩) ?_
                refine wpAny_ready (rs := [2]) (by kernel_rfl) (by simp) ?_
                refine AllReady.cons rfl (fun K hK => ?_) ?_
                · go_simp
                  refine (ref_limitsFault [⟨⟨#[108, 97]⟩, kind, most, per, burst⟩] _ 1 _ _ (LimRows.one _ _ (by exact Blk.new _ _ _)) (by omega) (by simp; decide)).mono ?_
                  rintro e wL ⟨rfl, hmL⟩
                  have BL := Blk.mod (Blk.mod (Blk.mod B6 ((Mod.refl (fun _ => False) _).alloc _) (fun h => h)) ((Mod.refl (fun _ => False) _).drew) (fun h => h)) hmL (fun h => h)
                  have kL1 : wL.cell? ⟨w1.heap.size, 1, none⟩ = some (.int .i64 kind) := (BL.cell 1).trans rfl
                  have lL := BL.lt
                  refine hK _ _ ?_
                  clear hK K
                  refine wpAny_ready (rs := [6]) (by kernel_rfl) (by simp) ?_
                  refine AllReady.cons rfl (fun K hK => ?_) ?_
                  · go_simp
                    refine (when_any _ _ _).mono ?_
                    rintro e wW ⟨rfl, rfl⟩
                    refine hK _ _ ?_
                    clear hK K
                    refine wpAny_take (i := 9) (v := .bool true) rfl (by kernel_rfl) (by kernel_rfl) (by kernel_rfl) (fun _ _ _ h => h) (Or.inl ⟨rfl, fun w => by go_simp⟩) ?_
                    refine wpAny_take (i := 10) (v := undef) rfl (by kernel_rfl) (by kernel_rfl) (by kernel_rfl) (fun _ _ _ h => h) (Or.inr ⟨rfl, rfl⟩) ?_
                    refine wpAny_take (i := 11) (v := undef) rfl (by kernel_rfl) (by kernel_rfl) (by kernel_rfl) (fun _ _ _ h => h) (Or.inr ⟨rfl, rfl⟩) ?_
                    refine wpAny_take (i := 12) (v := .bool true) rfl (by kernel_rfl) (by kernel_rfl) (by kernel_rfl) (fun _ _ _ h => h) (Or.inl ⟨rfl, fun w => by go_simp⟩) ?_
                    refine wpAny_ready (rs := [13]) (by kernel_rfl) (by simp) ?_
                    refine AllReady.cons rfl (fun K hK => ?_) ?_
                    · go_simp
                      refine (when_any _ _ _).mono ?_
                      rintro e wW ⟨rfl, rfl⟩
                      refine hK _ _ ?_
                      clear hK K
                      refine wpAny_ready (rs := [14]) (by kernel_rfl) (by simp) ?_
                      refine AllReady.cons rfl (fun K hK => ?_) ?_
                      · go_simp
                        refine hK _ _ ?_
                        clear hK K
                        refine wpAny_ready (rs := [15]) (by kernel_rfl) (by simp) ?_
                        refine AllReady.cons rfl (fun K hK => ?_) ?_
                        · go_simp
                          refine (cmpOr_any [limsFault [⟨⟨#[108, 97]⟩, kind, most, per, burst⟩], _, _] _ 3 _ (by exact Blk.new _ _ _) rfl (by omega)).mono ?_
                          rintro e wO ⟨rfl, rfl⟩
                          refine hK _ _ ?_
                          clear hK K
                          refine wpAny_take (i := 16) (v := .int .i64 (orL [limsFault [⟨⟨#[108, 97]⟩, kind, most, per, burst⟩], whenE (kind == 4) 10, whenE true 1])) rfl (by kernel_rfl) (by kernel_rfl) (by kernel_rfl) (fun _ _ _ h => h) (Or.inl ⟨rfl, fun w => by go_simp⟩) ?_
                          refine wpAny_done (by kernel_rfl) ?_ _
                          go_wp2_with fail
                          go_meet
                          refine ⟨by rw [← HFA.out]; simp [whenE, *], BL.mod (S := fun _ => False) (by with_reducible (repeat (first | exact Mod.refl _ _ | refine Mod.drewN ?_ _ | refine Mod.drew ?_ | refine Mod.alloc ?_ _))) (fun h => h), ?_⟩
                          refine ((T6.alloc _).drew.new hmL).new (by with_reducible (repeat (first | exact Mod.refl _ _ | refine Mod.drewN ?_ _ | refine Mod.drew ?_ | refine Mod.alloc ?_ _)))
                        · exact AllReady.nil
                      · exact AllReady.nil
                    · exact AllReady.nil
                  · exact AllReady.nil
                · exact AllReady.nil
              · exact AllReady.nil
          · refine AllReady.cons rfl (fun K hK => ?_) ?_
            · go_simp
              refine hK _ _ ?_
              clear hK K
              refine wpAny_take (i := 5) (v := .bool (kind == 4)) rfl (by kernel_rfl) (by kernel_rfl) (by kernel_rfl) (fun _ _ _ h => h) (Or.inl ⟨rfl, fun w => by go_simp⟩) ?_
              refine wpAny_ready (rs := [1]) (by kernel_rfl) (by simp) ?_
              refine AllReady.cons rfl (fun K hK => ?_) ?_
              · go_simp
                refine hK _ _ ?_
                clear hK K
                refine wpAny_ready (rs := [2]) (by kernel_rfl) (by simp) ?_
                refine AllReady.cons rfl (fun K hK => ?_) ?_
                · go_simp
                  refine (ref_limitsFault [⟨⟨#[108, 97]⟩, kind, most, per, burst⟩] _ 1 _ _ (LimRows.one _ _ (by exact Blk.new _ _ _)) (by omega) (by simp; decide)).mono ?_
                  rintro e wL ⟨rfl, hmL⟩
                  have BL := Blk.mod (Blk.mod (Blk.mod B6 ((Mod.refl (fun _ => False) _).alloc _) (fun h => h)) ((Mod.refl (fun _ => False) _).drew) (fun h => h)) hmL (fun h => h)
                  have kL1 : wL.cell? ⟨w1.heap.size, 1, none⟩ = some (.int .i64 kind) := (BL.cell 1).trans rfl
                  have lL := BL.lt
                  refine hK _ _ ?_
                  clear hK K
                  refine wpAny_ready (rs := [6]) (by kernel_rfl) (by simp) ?_
                  refine AllReady.cons rfl (fun K hK => ?_) ?_
                  · go_simp
                    refine (when_any _ _ _).mono ?_
                    rintro e wW ⟨rfl, rfl⟩
                    refine hK _ _ ?_
                    clear hK K
                    refine wpAny_take (i := 9) (v := .bool true) rfl (by kernel_rfl) (by kernel_rfl) (by kernel_rfl) (fun _ _ _ h => h) (Or.inl ⟨rfl, fun w => by go_simp⟩) ?_
                    refine wpAny_take (i := 10) (v := undef) rfl (by kernel_rfl) (by kernel_rfl) (by kernel_rfl) (fun _ _ _ h => h) (Or.inr ⟨rfl, rfl⟩) ?_
                    refine wpAny_take (i := 11) (v := undef) rfl (by kernel_rfl) (by kernel_rfl) (by kernel_rfl) (fun _ _ _ h => h) (Or.inr ⟨rfl, rfl⟩) ?_
                    refine wpAny_take (i := 12) (v := .bool true) rfl (by kernel_rfl) (by kernel_rfl) (by kernel_rfl) (fun _ _ _ h => h) (Or.inl ⟨rfl, fun w => by go_simp⟩) ?_
                    refine wpAny_ready (rs := [13]) (by kernel_rfl) (by simp) ?_
                    refine AllReady.cons rfl (fun K hK => ?_) ?_
                    · go_simp
                      refine (when_any _ _ _).mono ?_
                      rintro e wW ⟨rfl, rfl⟩
                      refine hK _ _ ?_
                      clear hK K
                      refine wpAny_ready (rs := [14]) (by kernel_rfl) (by simp) ?_
                      refine AllReady.cons rfl (fun K hK => ?_) ?_
                      · go_simp
                        refine hK _ _ ?_
                        clear hK K
                        refine wpAny_ready (rs := [15]) (by kernel_rfl) (by simp) ?_
                        refine AllReady.cons rfl (fun K hK => ?_) ?_
                        · go_simp
                          refine (cmpOr_any [limsFault [⟨⟨#[108, 97]⟩, kind, most, per, burst⟩], _, _] _ 3 _ (by exact Blk.new _ _ _) rfl (by omega)).mono ?_
                          rintro e wO ⟨rfl, rfl⟩
                          refine hK _ _ ?_
                          clear hK K
                          refine wpAny_take (i := 16) (v := .int .i64 (orL [limsFault [⟨⟨#[108, 97]⟩, kind, most, per, burst⟩], whenE (kind == 4) 10, whenE true 1])) rfl (by kernel_rfl) (by kernel_rfl) (by kernel_rfl) (fun _ _ _ h => h) (Or.inl ⟨rfl, fun w => by go_simp⟩) ?_
                          refine wpAny_done (by kernel_rfl) ?_ _
                          go_wp2_with fail
                          go_meet
                          refine ⟨by rw [← HFA.out]; simp [whenE, *], BL.mod (S := fun _ => False) (by with_reducible (repeat (first | exact Mod.refl _ _ | refine Mod.drewN ?_ _ | refine Mod.drew ?_ | refine Mod.alloc ?_ _))) (fun h => h), ?_⟩
                          refine ((T6.alloc _).drew.new hmL).new (by with_reducible (repeat (first | exact Mod.refl _ _ | refine Mod.drewN ?_ _ | refine Mod.drew ?_ | refine Mod.alloc ?_ _)))
                        · exact AllReady.nil
                      · exact AllReady.nil
                    · exact AllReady.nil
                  · exact AllReady.nil
                · exact AllReady.nil
              · exact AllReady.nil
            · exact AllReady.nil
        · refine AllReady.cons rfl (fun K hK => ?_) ?_
          · go_simp
            refine hK _ _ ?_
            clear hK K
            refine wpAny_take (i := 5) (v := .bool (kind == 4)) rfl (by kernel_rfl) (by kernel_rfl) (by kernel_rfl) (fun _ _ _ h => h) (Or.inl ⟨rfl, fun w => by go_simp⟩) ?_
            refine wpAny_ready (rs := [0]) (by kernel_rfl) (by simp) ?_
            refine AllReady.cons rfl (fun K hK => ?_) ?_
            · go_simp
              refine hK _ _ ?_
              clear hK K
              refine wpAny_ready (rs := [1]) (by kernel_rfl) (by simp) ?_
              refine AllReady.cons rfl (fun K hK => ?_) ?_
              · go_simp
                refine hK _ _ ?_
                clear hK K
                refine wpAny_ready (rs := [2]) (by kernel_rfl) (by simp) ?_
                refine AllReady.cons rfl (fun K hK => ?_) ?_
                · go_simp
                  refine (ref_limitsFault [⟨⟨#[108, 97]⟩, kind, most, per, burst⟩] _ 1 _ _ (LimRows.one _ _ (by exact Blk.new _ _ _)) (by omega) (by simp; decide)).mono ?_
                  rintro e wL ⟨rfl, hmL⟩
                  have BL := Blk.mod (Blk.mod (Blk.mod B6 ((Mod.refl (fun _ => False) _).alloc _) (fun h => h)) ((Mod.refl (fun _ => False) _).drew) (fun h => h)) hmL (fun h => h)
                  have kL1 : wL.cell? ⟨w1.heap.size, 1, none⟩ = some (.int .i64 kind) := (BL.cell 1).trans rfl
                  have lL := BL.lt
                  refine hK _ _ ?_
                  clear hK K
                  refine wpAny_ready (rs := [6]) (by kernel_rfl) (by simp) ?_
                  refine AllReady.cons rfl (fun K hK => ?_) ?_
                  · go_simp
                    refine (when_any _ _ _).mono ?_
                    rintro e wW ⟨rfl, rfl⟩
                    refine hK _ _ ?_
                    clear hK K
                    refine wpAny_take (i := 9) (v := .bool true) rfl (by kernel_rfl) (by kernel_rfl) (by kernel_rfl) (fun _ _ _ h => h) (Or.inl ⟨rfl, fun w => by go_simp⟩) ?_
                    refine wpAny_take (i := 10) (v := undef) rfl (by kernel_rfl) (by kernel_rfl) (by kernel_rfl) (fun _ _ _ h => h) (Or.inr ⟨rfl, rfl⟩) ?_
                    refine wpAny_take (i := 11) (v := undef) rfl (by kernel_rfl) (by kernel_rfl) (by kernel_rfl) (fun _ _ _ h => h) (Or.inr ⟨rfl, rfl⟩) ?_
                    refine wpAny_take (i := 12) (v := .bool true) rfl (by kernel_rfl) (by kernel_rfl) (by kernel_rfl) (fun _ _ _ h => h) (Or.inl ⟨rfl, fun w => by go_simp⟩) ?_
                    refine wpAny_ready (rs := [13]) (by kernel_rfl) (by simp) ?_
                    refine AllReady.cons rfl (fun K hK => ?_) ?_
                    · go_simp
                      refine (when_any _ _ _).mono ?_
                      rintro e wW ⟨rfl, rfl⟩
                      refine hK _ _ ?_
                      clear hK K
                      refine wpAny_ready (rs := [14]) (by kernel_rfl) (by simp) ?_
                      refine AllReady.cons rfl (fun K hK => ?_) ?_
                      · go_simp
                        refine hK _ _ ?_
                        clear hK K
                        refine wpAny_ready (rs := [15]) (by kernel_rfl) (by simp) ?_
                        refine AllReady.cons rfl (fun K hK => ?_) ?_
                        · go_simp
                          refine (cmpOr_any [limsFault [⟨⟨#[108, 97]⟩, kind, most, per, burst⟩], _, _] _ 3 _ (by exact Blk.new _ _ _) rfl (by omega)).mono ?_
                          rintro e wO ⟨rfl, rfl⟩
                          refine hK _ _ ?_
                          clear hK K
                          refine wpAny_take (i := 16) (v := .int .i64 (orL [limsFault [⟨⟨#[108, 97]⟩, kind, most, per, burst⟩], whenE (kind == 4) 10, whenE true 1])) rfl (by kernel_rfl) (by kernel_rfl) (by kernel_rfl) (fun _ _ _ h => h) (Or.inl ⟨rfl, fun w => by go_simp⟩) ?_
                          refine wpAny_done (by kernel_rfl) ?_ _
                          go_wp2_with fail
                          go_meet
                          refine ⟨by rw [← HFA.out]; simp [whenE, *], BL.mod (S := fun _ => False) (by with_reducible (repeat (first | exact Mod.refl _ _ | refine Mod.drewN ?_ _ | refine Mod.drew ?_ | refine Mod.alloc ?_ _))) (fun h => h), ?_⟩
                          refine ((T6.alloc _).drew.new hmL).new (by with_reducible (repeat (first | exact Mod.refl _ _ | refine Mod.drewN ?_ _ | refine Mod.drew ?_ | refine Mod.alloc ?_ _)))
                        · exact AllReady.nil
                      · exact AllReady.nil
                    · exact AllReady.nil
                  · exact AllReady.nil
                · exact AllReady.nil
              · exact AllReady.nil
            · exact AllReady.nil
          · exact AllReady.nil
      · have hd1 : decide (long < 1) = false := by simpa using hlo
        by_cases hhi : 100000 < long
        · go_region_held3 (fun w' => w'.cell? ⟨w1.heap.size, 0, none⟩ = some (.string ⟨#[108, 97]⟩) ∧ w'.cell? ⟨w1.heap.size, 1, none⟩ = some (.int .i64 kind) ∧ w'.cell? ⟨w1.heap.size, 2, none⟩ = some (.int .i64 most) ∧ w'.cell? ⟨w1.heap.size, 3, none⟩ = some (.int .i64 per) ∧ w'.cell? ⟨w1.heap.size, 4, none⟩ = some (.int .i64 burst)) (go_keep)
            (first
              | (go_at_call 11; refine (ref_limitsFault [⟨⟨#[108, 97]⟩, kind, most, per, burst⟩] _ 1 _ _ (LimRows.one _ _ (by exact Blk.new _ _ _)) (by omega) (by simp; decide)).mono ?_; rintro e wL ⟨rfl, hmL⟩; have BL := Blk.mod (Blk.mod (Blk.mod B6 ((Mod.refl (fun _ => False) _).alloc _) (fun h => h)) ((Mod.refl (fun _ => False) _).drew) (fun h => h)) hmL (fun h => h); have kL0 : wL.cell? ⟨w1.heap.size, 0, none⟩ = some (.string ⟨#[108, 97]⟩) := (BL.cell 0).trans rfl; have kL1 : wL.cell? ⟨w1.heap.size, 1, none⟩ = some (.int .i64 kind) := (BL.cell 1).trans rfl; have kL2 : wL.cell? ⟨w1.heap.size, 2, none⟩ = some (.int .i64 most) := (BL.cell 2).trans rfl; have kL3 : wL.cell? ⟨w1.heap.size, 3, none⟩ = some (.int .i64 per) := (BL.cell 3).trans rfl; have kL4 : wL.cell? ⟨w1.heap.size, 4, none⟩ = some (.int .i64 burst) := (BL.cell 4).trans rfl; have lL := BL.lt)
              | (go_at_call 12; refine (when_any _ _ _).mono ?_; rintro e wW ⟨rfl, rfl⟩)
              | (go_at_call 10; refine (cmpOr_any [limsFault [⟨⟨#[108, 97]⟩, kind, most, per, burst⟩], _, _] _ 3 _ (by exact Blk.new _ _ _) rfl (by omega)).mono ?_; rintro e wO ⟨rfl, rfl⟩))
          all_goals go_wp2_with fail
          all_goals go_meet
          all_goals refine ⟨by rw [← HFA.out]; simp [whenE, *], BL.mod (S := fun _ => False) (by with_reducible (repeat (first | exact Mod.refl _ _ | refine Mod.drewN ?_ _ | refine Mod.drew ?_ | refine Mod.alloc ?_ _))) (fun h => h), ?_⟩
          all_goals refine ((T6.alloc _).drew.new hmL).new (by with_reducible (repeat (first | exact Mod.refl _ _ | refine Mod.drewN ?_ _ | refine Mod.drew ?_ | refine Mod.alloc ?_ _)))
        · have hd2 : decide (100000 < long) = false := by simpa using hhi
          go_region_held3 (fun w' => w'.cell? ⟨w1.heap.size, 0, none⟩ = some (.string ⟨#[108, 97]⟩) ∧ w'.cell? ⟨w1.heap.size, 1, none⟩ = some (.int .i64 kind) ∧ w'.cell? ⟨w1.heap.size, 2, none⟩ = some (.int .i64 most) ∧ w'.cell? ⟨w1.heap.size, 3, none⟩ = some (.int .i64 per) ∧ w'.cell? ⟨w1.heap.size, 4, none⟩ = some (.int .i64 burst)) (go_keep)
            (first
              | (go_at_call 11; refine (ref_limitsFault [⟨⟨#[108, 97]⟩, kind, most, per, burst⟩] _ 1 _ _ (LimRows.one _ _ (by exact Blk.new _ _ _)) (by omega) (by simp; decide)).mono ?_; rintro e wL ⟨rfl, hmL⟩; have BL := Blk.mod (Blk.mod (Blk.mod B6 ((Mod.refl (fun _ => False) _).alloc _) (fun h => h)) ((Mod.refl (fun _ => False) _).drew) (fun h => h)) hmL (fun h => h); have kL0 : wL.cell? ⟨w1.heap.size, 0, none⟩ = some (.string ⟨#[108, 97]⟩) := (BL.cell 0).trans rfl; have kL1 : wL.cell? ⟨w1.heap.size, 1, none⟩ = some (.int .i64 kind) := (BL.cell 1).trans rfl; have kL2 : wL.cell? ⟨w1.heap.size, 2, none⟩ = some (.int .i64 most) := (BL.cell 2).trans rfl; have kL3 : wL.cell? ⟨w1.heap.size, 3, none⟩ = some (.int .i64 per) := (BL.cell 3).trans rfl; have kL4 : wL.cell? ⟨w1.heap.size, 4, none⟩ = some (.int .i64 burst) := (BL.cell 4).trans rfl; have lL := BL.lt)
              | (go_at_call 12; refine (when_any _ _ _).mono ?_; rintro e wW ⟨rfl, rfl⟩)
              | (go_at_call 10; refine (cmpOr_any [limsFault [⟨⟨#[108, 97]⟩, kind, most, per, burst⟩], _, _] _ 3 _ (by exact Blk.new _ _ _) rfl (by omega)).mono ?_; rintro e wO ⟨rfl, rfl⟩))
          all_goals go_wp2_with fail
          all_goals go_meet
          all_goals refine ⟨by rw [← HFA.out]; simp [whenE, *], BL.mod (S := fun _ => False) (by with_reducible (repeat (first | exact Mod.refl _ _ | refine Mod.drewN ?_ _ | refine Mod.drew ?_ | refine Mod.alloc ?_ _))) (fun h => h), ?_⟩
          all_goals refine ((T6.alloc _).drew.new hmL).new (by with_reducible (repeat (first | exact Mod.refl _ _ | refine Mod.drewN ?_ _ | refine Mod.drew ?_ | refine Mod.alloc ?_ _)))
    case rest =>
      clear hx0 hx1 hx2 hx3 hx4 T6 B6 HFA
      obtain ⟨rfl, B7, T7⟩ := hcut
      have hx0 := B7.cell 0
      have hx1 := B7.cell 1
      have hx2 := B7.cell 2
      have hx3 := B7.cell 3
      have hx4 := B7.cell 4
      simp at hx0 hx1 hx2 hx3 hx4
      go_upto_region 8 with (fail)
      go_cut [65] (fun s wx => s = .bool false ∧ SStep w.heap.size W0 wx 10)
      case first =>
        have hsp : roomSpec ⟨⟨#[108, 97]⟩, kind, most, per, burst⟩ long = roomSpec ⟨⟨#[108, 97]⟩, kind, most, per, burst⟩ long := rfl
        by_cases hf : (roomSpec ⟨⟨#[108, 97]⟩, kind, most, per, burst⟩ long).2 = 0
        · have hf' : ((roomSpec ⟨⟨#[108, 97]⟩, kind, most, per, burst⟩ long).2 == 0) = true := by simpa using hf
          have HR := Lib.hid (roomSpec_ok hf)
          generalize roomSpec ⟨⟨#[108, 97]⟩, kind, most, per, burst⟩ long = rs at *
          obtain ⟨r1, r2⟩ := rs
          simp only at hf
          subst hf
          obtain ⟨nl, rfl⟩ := Int.eq_ofNat_of_zero_le hlong.1
          go_wp2_with fail
          refine (ref_roomOf ⟨⟨#[108, 97]⟩, kind, most, per, burst⟩ nl _ HR.out.1 HR.out.2.1 (by have := HR.out.2.2.1; omega) (by have := HR.out.2.2.1; omega)).mono ?_
          rintro e w8 ⟨rfl, m8⟩
          have hr : roomOf ⟨⟨#[108, 97]⟩, kind, most, per, burst⟩ nl = r1 := by have := HR.out.2.2.2; simpa using this.symm
          rw [hr]
          go_wp2_with fail
          go_meet
          exact ⟨by simp, T7.new m8⟩
        · have hf' : ((roomSpec ⟨⟨#[108, 97]⟩, kind, most, per, burst⟩ long).2 == 0) = false := by simpa using hf
          go_wp2_with fail
          go_meet
          exact ⟨by simp, T7⟩
      case rest =>
        clear hx0 hx1 hx2 hx3 hx4 T7 B7
        obtain ⟨rfl, T8⟩ := hcut
        go_wp2_with fail
        refine (pick_any [0, 1, 7, 10, 30, 100, 1000000000, -1] _ 10 _ 8 _ (T8.alloc _).inv (by omega) (Blk.new _ _ _) rfl (by omega) (by omega)).mono ?_
        rintro e w9 ⟨mst, rfl, -, h9⟩
        have T9 := (T8.alloc _).trans h9
        clear T8 h9
        go_wp2_with fail
        refine (next_any _ _ _ _ T9.inv (by omega) (by omega) (by omega)).mono ?_
        rintro e w10 ⟨nn, rfl, hnn0, hnn1, h10⟩
        obtain ⟨nn, rfl⟩ := Int.eq_ofNat_of_zero_le hnn0
        have T10 := T9.trans h10
        clear T9 h10 hnn0
        go_wp2_with fail
        go_loopw [10, 11, 71] (fun s10 s11 i wr => ∃ (k : Nat) (A1 A2 : Option Addr) (c1 c2 : Nat) (xs ys : List Int), k ≤ nn ∧ i = .int .i64 k ∧ s10 = .slice A1 k c1 ∧ s11 = .slice A2 k c2 ∧
          IntOwn wr W0.heap.size A1 k c1 xs ∧ IntOwn wr W0.heap.size A2 k c2 ys ∧ (∀ g, blkOf A1 = some g → ¬ blkOf A2 = some g) ∧ SStep w.heap.size W0 wr (12 + 2 * k)) (fun _ _ i _ => nn - (intOf i).toNat)
        case atStart => exact ⟨0, none, none, 0, 0, [], [], Nat.zero_le _, rfl, rfl, rfl, Own.nil, Own.nil, (fun g h => by cases h), T10⟩
        case round =>
          clear T10
          obtain ⟨k, A1, A2, c1, c2, xs, ys, hk, rfl, rfl, rfl, ho1, ho2, hdis, TK⟩ := hrel
          have HDIS := Lib.hid hdis
          clear hdis
          by_cases hlt : k < nn
          · go_wp2_with fail
            refine (pick_any [0, 1, 3, 9, 20, 1000000000] _ (12 + 2 * k) _ 6 _ (TK.alloc _).inv (by omega) (Blk.new _ _ _) rfl (by omega) (by omega)).mono ?_
            rintro e w11 ⟨x, rfl, -, h11⟩
            have T11 := (TK.alloc _).trans h11
            have hN11 : Only w.heap.size wr w11 := h11.only.pre.1
            have hb0 : w.heap.size < W0.heap.size := by rw [HW0s.out]; omega
            have ho1 := ho1.mod hN11 (fun g hg e => by have := ho1.far g hg; omega)
            have ho2 := ho2.mod hN11 (fun g hg e => by have := ho2.far g hg; omega)
            have hsz11 := T11.only.size
            have HF2 := Lib.hid ho2.far
            clear TK h11 hN11
            go_wp2_with (first | (at_builtin; refine wpList_push rfl (.tmp 73) _ _ rfl 8 Try.underlying22 einfo_int rfl (ho1.alloc _) x w11.heap.size rfl (Blk.new _ _ _) (fun _ _ => rfl) (by omega) (by omega) (by simp; omega) ?_; intro g1 cap1 w12 ho3 hm12 hat1 hlt1))
            have T12 := (T11.alloc _).mod hm12 (fun i hi => (ho1.far i hi).1)
            have ho2 := (ho2.alloc _).mod hm12 (fun g hg e => HDIS.out g e hg)
            have hdis2 : ∀ g, some g1 = some g → ¬ blkOf A2 = some g := by
              intro g e hg
              injection e with e
              subst e
              rcases hat1 with hat | hat
              · exact HDIS.out _ hat hg
              · have := (HF2.out _ hg).2
                simp at hat
                omega
            have hsz12 := T12.only.size
            refine (pick_any [1, 1, 2, 5, 1000] _ (12 + 2 * k + 1) _ 5 _ (T12.alloc _).inv (by omega) (Blk.new _ _ _) rfl (by omega) (by omega)).mono ?_
            rintro e w13 ⟨y, rfl, -, h13⟩
            have T13 := (T12.alloc _).trans h13
            have hN13 : Only w.heap.size w12 w13 := h13.only.pre.1
            have ho3 := ho3.mod hN13 (fun g hg e => by have := ho3.far g hg; omega)
            have ho2 := ho2.mod hN13 (fun g hg e => by have := ho2.far g hg; omega)
            have hsz13 := T13.only.size
            have hlt1 : g1 < w13.heap.size := Nat.lt_of_lt_of_le hlt1 hN13.size
            clear h13 hN13 T12 T11 hm12
            go_wp2_with (first | (at_builtin; refine wpList_push rfl (.tmp 79) _ _ rfl 8 Try.underlying22 einfo_int rfl (ho2.alloc _) y w13.heap.size rfl (Blk.new _ _ _) (fun _ _ => rfl) (by omega) (by omega) (by simp; omega) ?_; intro g2 cap2 w14 ho4 hm14 hat2 hlt2))
            have T14 := (T13.alloc _).mod hm14 (fun i hi => (ho2.far i hi).1)
            have ho3' := (ho3.alloc _).mod hm14 (fun g hg e => hdis2 g hg e)
            refine ⟨⟨k + 1, some ⟨g1, 0, none⟩, some ⟨g2, 0, none⟩, cap1, cap2, xs ++ [x], ys ++ [y], by omega, by go_num, rfl, rfl, ho3', ho4, ?_, T14.more (by omega)⟩, by simp [intOf]; omega⟩
            intro g e1 e2
            injection e1 with e1
            injection e2 with e2
            simp only at e1 e2
            subst e1
            rcases hat2 with hat | hat
            · exact hdis2 _ rfl (by rw [hat, e2])
            · simp at hat; omega
          · obtain rfl : k = nn := by omega
            clear hlt hk
            go_upto_region 16 with (fail)
            go_cut [92] (fun s wx => ∃ bb : Bool, s = .bool bb ∧ (bb = true → 0 < k) ∧ IntOwn wx W0.heap.size A1 k c1 xs ∧ IntOwn wx W0.heap.size A2 k c2 ys ∧ SStep w.heap.size W0 wx 30)
            case first =>
              rcases Nat.eq_zero_or_pos k with rfl | hk0
              · go_wp2_with fail
                go_meet
                exact ⟨false, by simp, (fun h => by cases h), ho1, ho2, TK.more (by omega)⟩
              · have hk1 : (0 : Int) < k := by omega
                go_wp2_with fail
                refine (flip_any _ _ _ _ TK.inv (by omega) (by omega) (by omega)).mono ?_
                rintro e w15 ⟨m15, rfl, h15⟩
                have hb0 : w.heap.size < W0.heap.size := by rw [HW0s.out]; omega
                have ho1 := ho1.mod h15.only (fun g hg e => by have := ho1.far g hg; omega)
                have ho2 := ho2.mod h15.only (fun g hg e => by have := ho2.far g hg; omega)
                have T15 := TK.trans h15
                go_wp2_with fail
                go_meet
                exact ⟨m15, by simp, (fun _ => hk0), ho1, ho2, T15.more (by omega)⟩
            case rest =>
              clear ho1 ho2 TK
              obtain ⟨bb, rfl, hbb, ho1, ho2, TK⟩ := hcut
              have HBB := Lib.hid hbb
              clear hbb
              go_upto_if 92 with (fail)
              go_cut [] (fun wx => ∃ xs ys : List Int, IntOwn wx W0.heap.size A1 k c1 xs ∧ IntOwn wx W0.heap.size A2 k c2 ys ∧ SStep w.heap.size W0 wx 34)
              case first =>
                cases bb
                · go_wp2_with fail
                  go_meet
                  exact ⟨xs, ys, ho1, ho2, TK.more (by omega)⟩
                · have hk0 := HBB.out rfl
                  have hk1 : (0 : Int) < k := by omega
                  have hb0 : w.heap.size < W0.heap.size := by rw [HW0s.out]; omega
                  go_wp2_with fail
                  refine (odd_any _ _ _ _ _ TK.inv (by omega) (by omega) (by omega) (by omega)).mono ?_
                  rintro e w16 ⟨x0, rfl, -, -, h16⟩
                  have ho1 := ho1.mod h16.only (fun g hg e => by have := ho1.far g hg; omega)
                  have ho2 := ho2.mod h16.only (fun g hg e => by have := ho2.far g hg; omega)
                  have T16 := TK.trans h16
                  clear TK h16
                  go_wp2_with fail
                  refine (odd_any _ _ _ _ _ T16.inv (by omega) (by omega) (by omega) (by omega)).mono ?_
                  rintro e w17 ⟨y0, rfl, -, -, h17⟩
                  have ho1 := ho1.mod h17.only (fun g hg e => by have := ho1.far g hg; omega)
                  have ho2 := ho2.mod h17.only (fun g hg e => by have := ho2.far g hg; omega)
                  have T17 := T16.trans h17
                  clear T16 h17
                  obtain ⟨g1, rfl, hB1, ht1, hc1⟩ := ho1.form hk0
                  obtain ⟨g2, rfl, hB2, ht2, hc2⟩ := ho2.form hk0
                  have hne : g1 ≠ g2 := by
                    intro e
                    exact HDIS.out g1 rfl (by rw [e]; rfl)
                  obtain ⟨v1, hv1⟩ : ∃ v, w17.cell? ⟨g1, 0, none⟩ = some v := by
                    obtain ⟨g', o', hA, -, hc⟩ := ho1.sl.2 hk0
                    injection hA with hA
                    injection hA with hA1 hA2
                    subst hA1 hA2
                    exact ⟨_, by simpa using hc 0 (by have := ho1.1; omega) 0 (by omega)⟩
                  obtain ⟨v2, hv2⟩ : ∃ v, w17.cell? ⟨g2, 0, none⟩ = some v := by
                    obtain ⟨g', o', hA, -, hc⟩ := ho2.sl.2 hk0
                    injection hA with hA
                    injection hA with hA1 hA2
                    subst hA1 hA2
                    exact ⟨_, by simpa using hc 0 (by have := ho2.1; omega) 0 (by omega)⟩
                  have f1 := ho1.2.frozenAt 0
                  have f2 := ho2.2.frozenAt 0
                  have hne' : g2 ≠ g1 := fun e => hne e.symm
                  go_wp2_with fail
                  go_meet
                  refine ⟨xs.set 0 x0, ys.set 0 y0, ?_, ?_, ?_⟩
                  · exact (IntOwn.set ho1 0 x0).mod (S := fun i => i = g2) ((Mod.refl (fun i => i = g2) _).setCell (.inl rfl) _) (fun g hg e => by injection hg with hg; simp only at hg; omega)
                  · exact IntOwn.set (ho2.mod (S := fun i => i = g1) ((Mod.refl (fun i => i = g1) _).setCell (.inl rfl) _) (fun g hg e => by injection hg with hg; simp only at hg; omega)) 0 y0
                  · exact ((T17.more (by omega)).set (p := ⟨g1, 0, none⟩) hB1 _).set (p := ⟨g2, 0, none⟩) hB2 _
              case rest =>
                clear ho1 ho2 TK
                obtain ⟨xs, ys, ho1, ho2, TK⟩ := hcut
                go_upto_if 102 with (first | (go_at_call 6; refine (flip_any _ _ _ _ TK.inv (by omega) (by omega) (by omega)).mono ?_; rintro e w18 ⟨m18, rfl, h18⟩))
                have hb0 : w.heap.size < W0.heap.size := by rw [HW0s.out]; omega
                have ho1 := ho1.mod h18.only (fun g hg e => by have := ho1.far g hg; omega)
                have ho2 := ho2.mod h18.only (fun g hg e => by have := ho2.far g hg; omega)
                have T18 := TK.trans h18
                have hsz18 := T18.only.size
                clear TK h18
                go_cut [10] (fun s wx => ∃ (A1 : Option Addr) (n1 c1 : Nat) (xs : List Int), s = .slice A1 n1 c1 ∧ n1 ≤ 10 ∧ IntOwn wx W0.heap.size A1 n1 c1 xs ∧ IntOwn wx W0.heap.size A2 k c2 ys ∧ SStep w.heap.size W0 wx 40)
                case first =>
                  cases m18
                  · go_wp2_with fail
                    go_meet
                    exact ⟨A1, k, c1, xs, rfl, by omega, ho1, ho2, T18.more (by omega)⟩
                  · go_wp2_with (first | (at_builtin; refine wpList_push rfl _ _ _ rfl 8 Try.underlying22 einfo_int rfl (ho1.alloc _) 1 w18.heap.size rfl (Blk.new _ _ _) (fun _ _ => rfl) (by omega) (by omega) (by simp; omega) ?_; intro g3 cap3 w19 ho3 hm19 hat3 hlt3))
                    go_meet
                    exact ⟨some ⟨g3, 0, none⟩, k + 1, cap3, xs ++ [1], rfl, by omega, ho3, (ho2.alloc _).mod hm19 (fun g hg e => HDIS.out g e hg), ((T18.alloc _).mod hm19 (fun i hi => (ho1.far i hi).1)).more (by omega)⟩
                case rest =>
                  clear ho1 ho2 T18
                  obtain ⟨A1, n1, c1, xs, rfl, hn1, hoA, hoB, TK⟩ := hcut
                  have hl1 := hoA.1
                  have hl2 := hoB.1
                  by_cases hf : fairFault mst xs ys = 0
                  · have hgood := (Good.of hf).1
                    obtain rfl : n1 = k := by have := hgood.1; omega
                    have HF := Lib.hid hf
                    clear hf
                    go_wp2_with fail
                    refine (limit_fair_yes mst xs ys A1 A2 n1 c1 c2 _ hoA.sl hoB.sl (by omega) HF.out).mono ?_
                    rintro e w20 ⟨A3, c3, rfl, ho3, m20⟩
                    have hoA := hoA.new m20
                    have hoB := hoB.new m20
                    have T20 := TK.new m20
                    clear TK m20
                    go_wp2_with fail
                    refine (ref_fairFault mst xs ys A1 A2 n1 c1 n1 c2 _ hoA.sl hoB.sl (by omega) (by omega)).mono ?_
                    rintro e w21 ⟨rfl, rfl⟩
                    rw [HF.out]
                    go_wp2_with fail
                    refine (ref_fairOf mst xs ys A1 A2 n1 c1 c2 _ hoA.sl hoB.sl (by omega) HF.out).mono ?_
                    rintro e w22 ⟨A4, c4, rfl, ho4, m22⟩
                    have ho3 := ho3.new m22
                    have T22 := T20.new m22
                    clear T20 m22
                    go_wp2_with fail
                    refine (equal_ints (fairL mst xs ys) A3 A4 n1 c3 c4 _ ho3.sl ho4.sl (by omega)).mono ?_
                    rintro e w23 ⟨rfl, q, rfl⟩
                    go_wp2_with fail
                    refine (limited_true _).mono ?_
                    rintro e w24 ⟨rfl, m24⟩
                    go_wp2_with fail
                    go_ret
                    exact ⟨rfl, (HN.out _ _ ((T22.drewN q).new m24))⟩
                  · have hf1 : (fairFault mst xs ys != 0) = true := by simpa using hf
                    have HF := Lib.hid hf
                    clear hf
                    go_wp2_with fail
                    refine (limit_fair_no mst xs ys A1 A2 n1 c1 k c2 _ hoA.sl hoB.sl (by omega) (by omega) HF.out).mono ?_
                    rintro e w20 ⟨rfl, rfl⟩
                    go_wp2_with fail
                    refine (ref_fairFault mst xs ys A1 A2 n1 c1 k c2 _ hoA.sl hoB.sl (by omega) (by omega)).mono ?_
                    rintro e w21 ⟨rfl, rfl⟩
                    go_wp2_with fail
                    refine (limited_true _).mono ?_
                    rintro e w24 ⟨rfl, m24⟩
                    go_wp2_with fail
                    go_ret
                    exact ⟨rfl, HN.out _ _ (TK.new m24)⟩

end Go.Proofs.Ytinnckbffblecaa
