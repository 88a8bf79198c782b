/- slices.SortFunc of a nil row of members does nothing. No conditions. -/
import Derived.Test.YtjmnkdkdjnmejaaGreatDoorRvMemGrp
namespace Go.Proofs.YtjmnkdkdjnmejaaGreatDoor
open Go.RowKit
set_option linter.unusedVariables false
set_option linter.unusedSimpArgs false

section
set_option maxHeartbeats 400000
theorem insSort_nil (F : Nat) (w : World) : Calls Tryz.prog 105 #[.slice none 0 0, .int .i64 0, .int .i64 0, .func (.func F) #[] #[]] w fun e w' => e = .returned (.tuple #[]) ∧ New w w' := by
  go_enter Tryz.func105, Tryz.ntmps105
  go_wp2
  refine wp_loop_rounds 1 ?_
  rw [rounds_succ]
  go_wp2_with fail
  go_end0
  exact ⟨rfl, (by with_reducible (repeat (first | exact Mod.refl _ _ | refine Mod.drewN ?_ _ | refine Mod.drew ?_ | refine Mod.alloc ?_ _)))⟩
theorem pdq_nil (F : Nat) (w : World) : Calls Tryz.prog 78 #[.slice none 0 0, .int .i64 0, .int .i64 0, .int .i64 0, .func (.func F) #[] #[]] w fun e w' => e = .returned (.tuple #[]) ∧ New w w' := by
  have hi := fun W => insSort_nil F W
  go_enter Tryz.func78, Tryz.ntmps78
  go_wp2
  refine wp_loop_rounds 1 ?_
  rw [rounds_succ]
  go_wp2_with fail
  refine (hi _).mono ?_
  clear hi
  rintro e w2 ⟨rfl, h1⟩
  have H1 := hId h1
  clear h1
  go_wp2_with fail
  (try simp only [Exit.inBlock, Exit.then])
  refine bodyPost_ret (results_none rfl _ _ _) rfl ?_
  exact ⟨rfl, H1.out⟩
theorem sort_nil (F : Nat) (w : World) : Calls Tryz.prog 45 #[.slice none 0 0, .func (.func F) #[] #[]] w fun e w' => e = .returned (.tuple #[]) ∧ New w w' := by
  have hi := fun W => pdq_nil F W
  have hb := Tryz.bits_Len (0 : Int) w (by omega) (by omega)
  go_enter Tryz.func45, Tryz.ntmps45
  go_wp2_with fail
  refine hb.mono ?_
  clear hb
  rintro e w2 ⟨rfl, rfl⟩
  go_wp2_with fail
  refine (hi _).mono ?_
  clear hi
  rintro e w3 ⟨rfl, h1⟩
  have H1 := hId h1
  clear h1
  go_wp2_with fail
  go_end0
  exact ⟨rfl, H1.out⟩
end
/-- a row of members is sorted, nil or not -/
theorem sort_any {F : Nat} {w : World} {B n c : Nat} {A : Option Addr} {ms : List MA} (ho : Own w B 60 7 MA.enc A n c ms)
    (h : ∀ g, A = some ⟨g, 0, none⟩ → Calls Tryz.prog 45 #[.slice (some ⟨g, 0, none⟩) n c, .func (.func F) #[] #[]] w fun e w' => e = .returned (.tuple #[]) ∧ (∃ ys : List MA, ys.Perm ms ∧ (ys.Pairwise fun a b => ¬ cmpB b.name a.name < 0) ∧ Own w' B 60 7 MA.enc (some ⟨g, 0, none⟩) n c ys) ∧ Only g w w') :
    Calls Tryz.prog 45 #[.slice A n c, .func (.func F) #[] #[]] w fun e w' => e = .returned (.tuple #[]) ∧ (∃ ys : List MA, ys.Perm ms ∧ (ys.Pairwise fun a b => ¬ cmpB b.name a.name < 0) ∧ Own w' B 60 7 MA.enc A n c ys) ∧ Mod (fun k => blkOf A = some k) w w' := by
  rcases ho.blk with ⟨rfl, rfl, rfl⟩ | ⟨g, rfl, -, -⟩
  · refine (sort_nil F w).mono ?_
    rintro e w' ⟨rfl, hm⟩
    have : ms = [] := List.eq_nil_of_length_eq_zero ho.1
    subst this
    exact ⟨rfl, ⟨[], List.Perm.refl _, List.Pairwise.nil, Own.nil⟩, hm.mono (fun _ _ e => e.elim)⟩
  · refine (h g rfl).mono ?_
    rintro e w' ⟨rfl, h1, h2⟩
    exact ⟨rfl, h1, h2.mono (fun k _ e => by subst e; rfl)⟩
end Go.Proofs.YtjmnkdkdjnmejaaGreatDoor
