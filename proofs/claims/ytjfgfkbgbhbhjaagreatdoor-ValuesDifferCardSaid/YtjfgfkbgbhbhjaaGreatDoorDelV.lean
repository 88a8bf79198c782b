/- slices.Delete of one value, of one member, from a row that the call owns. (printed by mkdel.py) Conditions: at most 1000000 of them. -/
import Derived.Test.YtjfgfkbgbhbhjaaGreatDoorVal1Grp
import Derived.Test.YtjfgfkbgbhbhjaaGreatDoorRowGrp
import Derived.Test.YtjfgfkbgbhbhjaaGreatDoorQuietTail
namespace Go.Proofs.YtjfgfkbgbhbhjaaGreatDoor
open Go.RowKit Go.MapKept
set_option linter.unusedVariables false
set_option linter.unusedSimpArgs false


theorem zero_ma (w : World) : (zeroValue 54).run Tryz.prog w = .ok (.agg #[.string ⟨#[]⟩, .int .i64 0, .bool false, .int .i64 0, .string ⟨#[]⟩, .slice none 0 0, .slice none 0 0]) w := by kernel_rfl
def RCut_ma (w : World) (B g c : Nat) (xs : List MA) (e : Ending) (w' : World) : Prop :=
  e = .returned (.slice (some ⟨g, 0, none⟩) xs.length c) ∧ Own w' B 54 7 MA.enc (some ⟨g, 0, none⟩) xs.length c xs ∧ Only g w w'

set_option maxRecDepth 100000 in
set_option maxHeartbeats 1000000 in
theorem delete_ma (w : World) (B g n c k : Nat) (xs : List MA) (h : Own w B 54 7 MA.enc (some ⟨g, 0, none⟩) n c xs) (hk : k < n) (hn : n ≤ 1000000) :
    Calls Tryz.prog 65 #[.slice (some ⟨g, 0, none⟩) n c, .int .i64 k, .int .i64 (k + 1)] w (RCut_ma w B g c (xs.eraseIdx k)) := by
  have hlen := h.1
  obtain ⟨cur, hcur, hBg, hnc, hcm, hcs, hct⟩ := h.row
  unfold maxLen at hcm
  have hb1 : (0 : Int) ≤ k := by omega
  have hb2 : (k : Int) < n := by omega
  have hb3 : (k : Int) + 1 ≤ n := by omega
  have hke : ((k : Int) == (k : Int) + 1) = false := by simp; omega
  have hone : ∀ x ∈ xs, ∀ j, j < 7 → (MA.enc x j).oneCell' = true := fun x _ j hj => MA.one x j hj
  have HH := Lib.hid h
  have HON := Lib.hid hone
  have HLN := Lib.hid hlen
  clear h hone hct hcs hlen hcur
  have hel : (xs.eraseIdx k).length = n - 1 := by rw [List.length_eraseIdx, HLN.out, if_pos hk]
  have htk : List.take (n - 1) (xs.eraseIdx k ++ List.drop (n - 1) xs) = xs.eraseIdx k := by rw [← hel, List.take_left']; rfl
  have HEL := Lib.hid hel
  have HTK := Lib.hid htk
  clear hel htk
  by_cases hcap : k + 1 = c
  · obtain rfl : n = k + 1 := by omega
    subst hcap
    go_enter Tryz.func65, Tryz.ntmps65
    go_wp2_with fail
    refine wp_region_quiet_tail 6 (by kernel_rfl) (by kernel_rfl) ?_
    simp only [List.take_succ_cons, List.take_zero, List.drop_succ_cons, List.drop_zero]
    repeat (go_big_quiet_step (fail))
    refine wpQuiet_nil ?_
    intro _ hw'
    obtain ⟨nr, hw''⟩ := hw'
    subst hw''
    obtain ⟨w1, hap, hown1, ho1⟩ := (HH.out.drewN nr).delete (P := Tryz.prog) (ts := 27) Tryz.underlying27 einfo_mem HON.out k hk 0 0 0 (.inl rfl) (by omega) ⟨g, 0, none⟩ (.inl rfl)
    obtain ⟨w2, hcl, hown2, ho2, hz2⟩ := hown1.clear_tail (P := Tryz.prog) (ts := 27) Tryz.underlying27 (zero_ma w1) (by simp [Value.cells]; decide) rfl (by omega) k (k * 7) 1 (by omega) rfl
    have HO2 := Lib.hid hown2
    have HM2 : Hid (Only g w w2) := Lib.hid ((((Mod.refl _ w).drewN nr).trans ho1).trans ho2)
    rw [show k + 1 - k = 1 by omega] at hcl
    rw [show k + 1 - 1 = k by omega] at hap
    clear hown1 hown2 ho1 ho2
    have HAP := Lib.hid hap
    clear hap
    go_wp2_with (at_builtin; refine wpList_append_by rfl _ _ _ rfl rfl rfl HAP.out ?_)
    go_ret
    have ho := HO2.out
    have htk := HTK.out
    rw [show k + 1 - 1 = k by omega] at htk
    rw [show k + 1 - 1 = k by omega] at ho
    rw [htk] at ho
    have hel := HEL.out
    rw [show k + 1 - 1 = k by omega] at hel
    exact ⟨by rw [hel]; rfl, by rw [hel]; exact ho, HM2.out⟩
  · go_enter Tryz.func65, Tryz.ntmps65
    go_wp2_with fail
    refine wp_region_quiet_tail 6 (by kernel_rfl) (by kernel_rfl) ?_
    simp only [List.take_succ_cons, List.take_zero, List.drop_succ_cons, List.drop_zero]
    repeat (go_big_quiet_step (fail))
    refine wpQuiet_nil ?_
    intro _ hw'
    obtain ⟨nr, hw''⟩ := hw'
    subst hw''
    obtain ⟨w1, hap, hown1, ho1⟩ := (HH.out.drewN nr).delete (P := Tryz.prog) (ts := 27) Tryz.underlying27 einfo_mem HON.out k hk ((k + 1) * 7) (n - (k + 1)) (c - (k + 1)) (.inr rfl) rfl ⟨g, (k + 1) * 7, none⟩ (.inr rfl)
    obtain ⟨w2, hcl, hown2, ho2, hz2⟩ := hown1.clear_tail (P := Tryz.prog) (ts := 27) Tryz.underlying27 (zero_ma w1) (by simp [Value.cells]; decide) rfl (by omega) (n - 1) ((n - 1) * 7) (c - (n - 1)) (by omega) rfl
    have HO2 := Lib.hid hown2
    have HM2 : Hid (Only g w w2) := Lib.hid ((((Mod.refl _ w).drewN nr).trans ho1).trans ho2)
    clear hown1 hown2 ho1 ho2
    have HAP := Lib.hid hap
    clear hap
    go_wp2_with (at_builtin; refine wpList_append_by rfl _ _ _ rfl rfl rfl HAP.out ?_)
    go_ret
    have ho := HO2.out
    rw [HTK.out] at ho
    exact ⟨by rw [HEL.out]; rfl, by rw [HEL.out]; exact ho, HM2.out⟩

end Go.Proofs.YtjfgfkbgbhbhjaaGreatDoor
