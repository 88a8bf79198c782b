/- Several texts in one. (1) A path with one more step (value.behindPath, value.named). No conditions but a path of modest length. (2) The reference: the closure of DifferOf that puts a step behind the path. (printed by mkdto.py) Conditions: a path of at most 1000 steps. -/
import Derived.Test.YtjfgfkbgbhbhjaaGreatDoorChgMemGrp
import Derived.Test.YtjfgfkbgbhbhjaaGreatDoorHeldGrp
import Derived.Test.YtjfgfkbgbhbhjaaGreatDoorValK
import Derived.Test.YtjfgfkbgbhbhjaaGreatDoorRowGrp

namespace Go.Proofs.YtjfgfkbgbhbhjaaGreatDoor
open Go.RowKit
set_option linter.unusedVariables false
set_option linter.unusedSimpArgs false

set_option maxHeartbeats 400000 in
theorem val_named (s : ByteArray) (w : World) : Calls Tryz.prog 87 #[.string s] w fun e w' => e = .returned (.agg #[.bool true, .string s, .int .i64 0]) ∧ New w w' := by
  have hR := Blk.new w 76 #[.bool false, .string ⟨#[]⟩, .int .i64 0]
  have hm1 : New w (w.alloc (.cells #[.bool false, .string ⟨#[]⟩, .int .i64 0] 76)) := (Mod.refl _ _).alloc _
  go_enter Tryz.func87, Tryz.ntmps87
  go_upto_region 1 with fail
  generalize w.alloc (.cells #[.bool false, .string ⟨#[]⟩, .int .i64 0] 76) = w1 at *
  generalize hrb : w.heap.size = rb at *
  have R := Lib.hid hR
  have HM := Lib.hid hm1
  have hcR := hR.cell
  have hfR := hR.frozen
  have rlt := hR.lt
  clear hR hm1
  have HMF := Lib.hid (fun (v0 v1 v2 : Value) => (Mod.setCell (S := fun k => k = rb) (p := ⟨rb, 2, none⟩) (Mod.setCell (S := fun k => k = rb) (p := ⟨rb, 1, none⟩) (Mod.setCell (S := fun k => k = rb) (p := ⟨rb, 0, none⟩) (Mod.refl _ w1) (.inl rfl) v0) (.inl rfl) v1) (.inl rfl) v2))
  go_wp2_with fail
  refine bodyPost_ret (v := .agg #[.bool true, .string s, .int .i64 0]) (by simp [results, Tryz.results87, go_sem, hcR, hfR, rlt]) rfl ?_
  exact ⟨rfl, HM.out.step (HMF.out _ _ _) (fun i hi e => by omega)⟩
def RBehind (w : World) (n : Nat) (ps : List St) (e : Ending) (w' : World) : Prop := ∃ A' c', e = .returned (.slice A' (n + 1) c') ∧ Own w' w.heap.size 76 3 St.enc A' (n + 1) c' ps ∧ New w w'
set_option maxRecDepth 100000 in
set_option maxHeartbeats 700000 in
theorem val_behindPath (A : Option Addr) (n c : Nat) (ps : List St) (st : St) (w : World) (hs : Sl w 76 3 St.enc A n ps) (hn : n ≤ 1000) :
    Calls Tryz.prog 86 #[.slice A n c, st.val] w (RBehind w n (ps ++ [st]) ) := by
  obtain ⟨nm, sn, at_⟩ := st
  have hx := Blk.new w 76 #[.bool nm, .string sn, .int .i64 at_]
  have hm1 : New w (w.alloc (.cells #[.bool nm, .string sn, .int .i64 at_] 76)) := (Mod.refl _ _).alloc _
  have hcl := fun W (h : New w W) => cloneS ps A n c W (hs.new h) (by omega)
  have HCL := Lib.hid hcl
  clear hs hcl
  unfold St.val
  simp only
  go_enter Tryz.func86, Tryz.ntmps86
  go_upto_region 1 with fail
  generalize w.alloc (.cells #[.bool nm, .string sn, .int .i64 at_] 76) = w1 at *
  have hwz : w.heap.size < w1.heap.size := hx.lt
  have hwz2 : w.heap.size ≤ w.heap.size := Nat.le_refl _
  generalize hxb : w.heap.size = xb at *
  have HX := Lib.hid hx
  have HM1 := Lib.hid hm1
  have HSL : Hid (∀ W, New w1 W → W.cell? ⟨xb, 0, none⟩ = some (.bool nm) ∧ W.cell? ⟨xb, 1, none⟩ = some (.string sn) ∧ W.cell? ⟨xb, 2, none⟩ = some (.int .i64 at_) ∧ xb < W.heap.size) := Lib.hid (fun W hW => by
    have h := HX.out.mod hW (fun e => e)
    exact ⟨(h.cell 0).trans rfl, (h.cell 1).trans rfl, (h.cell 2).trans rfl, h.lt⟩)
  clear hx hm1
  refine wp_region_held_tree (New w1) 5 (by kernel_rfl) (by kernel_rfl) ?_
  have hn1 : New w1 w1.drew := (Mod.refl _ _).drew
  refine headW_take 0 _ ?_ (fun _ _ d _ _ h => by cases d <;> exact h) (by kernel_rfl) rfl (by kernel_rfl) hn1 (by rfl) (fun W hSw => ?_) ?_
  rotate_left
  · (have hq := HSL.out W hSw); (try simp only [List.getElem_toArray, List.getElem_cons_zero, List.getElem_cons_succ]); go_simp; any_goals (with_reducible rfl)
  simp only [Act.put, List.getElem_toArray, List.getElem_cons_zero, List.getElem_cons_succ, List.setIfInBounds_toArray, List.set_cons_zero, List.set_cons_succ]
  refine headW_take 2 _ ?_ (fun _ _ d _ _ h => by cases d <;> exact h) (by kernel_rfl) rfl (by kernel_rfl) hn1 (by rfl) (fun W hSw => ?_) ?_
  rotate_left
  · (have hq := HSL.out W hSw); (try simp only [List.getElem_toArray, List.getElem_cons_zero, List.getElem_cons_succ]); go_simp; any_goals (with_reducible rfl)
  simp only [Act.put, List.getElem_toArray, List.getElem_cons_zero, List.getElem_cons_succ, List.setIfInBounds_toArray, List.set_cons_zero, List.set_cons_succ]
  refine headW_ready [1, 3] (by kernel_rfl) (by rfl) ?_
  refine eachW_step rfl rfl (fun K hK => ?_) (eachW_step rfl rfl (fun K hK => ?_) eachW_nil)
  · have hcl := HCL.out _ (HM1.out.trans hn1)
    (try simp only [List.getElem_toArray, List.getElem_cons_zero, List.getElem_cons_succ])
    go_simp
    refine hcl.mono ?_
    clear hcl
    rintro e w6 ⟨A6, c6, rfl, own6, m6⟩
    have HN6 := Lib.hid (hn1.trans m6)
    have HOW6 : Hid (Own w6 w1.heap.size 76 3 St.enc A6 n c6 ps) := Lib.hid own6
    clear own6 m6
    go_wp2_with fail
    refine hK.out _ _ HN6.out (fun _ => ?_)
    clear hK K
    (try simp only [Act.put, List.getElem_toArray, List.getElem_cons_zero, List.getElem_cons_succ, List.setIfInBounds_toArray, List.set_cons_zero, List.set_cons_succ])
    refine headW_ready [3] (by kernel_rfl) (by rfl) ?_
    refine eachW_step rfl rfl (fun K hK => ?_) eachW_nil
    have HBL : Hid (Blk (w6.alloc (.cells #[.bool nm, .string sn, .int .i64 at_] 76)) w6.heap.size 76 (encL 3 St.enc (⟨nm, sn, at_⟩ : St)).toArray) := Lib.hid (Blk.new _ _ _)
    have HMA : Hid (New w6 (w6.alloc (.cells #[.bool nm, .string sn, .int .i64 at_] 76))) := Lib.hid ((Mod.refl _ _).alloc _)
    (try simp only [List.getElem_toArray, List.getElem_cons_zero, List.getElem_cons_succ])
    go_simp
    have HOW := Lib.hid (HOW6.out.new HMA.out)
    have HN := Lib.hid (HN6.out.trans HMA.out)
    refine hK.out _ _ HN.out (fun _ => ?_)
    clear hK K HOW6 HN6 HMA
    (try simp only [Act.put, List.getElem_toArray, List.getElem_cons_zero, List.getElem_cons_succ, List.setIfInBounds_toArray, List.set_cons_zero, List.set_cons_succ])
    generalize w6.alloc (.cells #[.bool nm, .string sn, .int .i64 at_] 76) = wa at *
    generalize w6.heap.size = bi at *
    refine headW_ready [4] (by kernel_rfl) (by rfl) ?_
    refine eachW_step rfl rfl (fun K hK => ?_) eachW_nil
    have how := HOW.out
    have hblp := HBL.out
    have hszp := HN.out.size
    refine wp_push (.tmp 6) (.tmp 8) _ rfl 32 Tryz.underlying63 einfo_step rfl (by exact how) (⟨nm, sn, at_⟩ : St) bi rfl (by exact hblp) (fun j hj => St.one _ j hj) (by omega) (by omega) (by omega) ?_
    intro g8 cap8 w8 own8 hm8 hat8 hlt8
    have HN8 := Lib.hid (HN.out.step hm8 (fun i hi e => by have := (HOW.out.far' i e).1; omega))
    refine hK.out _ _ HN8.out (fun _ => ?_)
    clear hK K hblp hat8 hlt8 hm8 how
    (try simp only [Act.put, List.getElem_toArray, List.getElem_cons_zero, List.getElem_cons_succ, List.setIfInBounds_toArray, List.set_cons_zero, List.set_cons_succ])
    have HO8 := Lib.hid own8
    clear own8
    refine headW_done (by kernel_rfl) ?_
    go_wp2_with fail
    go_ret
    exact ⟨some ⟨g8, 0, none⟩, cap8, rfl, HO8.out.less (by omega), HM1.out.trans HN8.out⟩
  · have HB0 : Blk (w1.alloc (.cells #[.bool nm, .string sn, .int .i64 at_] 76)) w1.heap.size 76 (encL 3 St.enc (⟨nm, sn, at_⟩ : St)).toArray := Blk.new _ _ _
    have HNa : Hid (New w1 (World.drew (w1.alloc (.cells #[.bool nm, .string sn, .int .i64 at_] 76)))) := Lib.hid (((Mod.refl _ _).alloc _).drew)
    have HBL0 : Hid (Blk (World.drew (w1.alloc (.cells #[.bool nm, .string sn, .int .i64 at_] 76))) w1.heap.size 76 (encL 3 St.enc (⟨nm, sn, at_⟩ : St)).toArray) := Lib.hid (HB0.mod (Mod.drew (Mod.refl (fun _ => False) _)) (fun e => e))
    clear HB0
    have hbi : w1.heap.size < (World.drew (w1.alloc (.cells #[.bool nm, .string sn, .int .i64 at_] 76))).heap.size := HBL0.out.lt
    (try simp only [List.getElem_toArray, List.getElem_cons_zero, List.getElem_cons_succ])
    go_simp
    refine hK.out _ _ HNa.out (fun _ => ?_)
    clear hK K
    (try simp only [Act.put, List.getElem_toArray, List.getElem_cons_zero, List.getElem_cons_succ, List.setIfInBounds_toArray, List.set_cons_zero, List.set_cons_succ])
    generalize World.drew (w1.alloc (.cells #[.bool nm, .string sn, .int .i64 at_] 76)) = wa at *
    refine headW_ready [1] (by kernel_rfl) (by rfl) ?_
    refine eachW_step rfl rfl (fun K hK => ?_) eachW_nil
    have hcl := HCL.out _ (HM1.out.trans HNa.out)
    (try simp only [List.getElem_toArray, List.getElem_cons_zero, List.getElem_cons_succ])
    go_simp
    refine hcl.mono ?_
    clear hcl
    rintro e w6 ⟨A6, c6, rfl, own6, m6⟩
    have HN := Lib.hid (HNa.out.trans m6)
    have HOW : Hid (Own w6 w1.heap.size 76 3 St.enc A6 n c6 ps) := Lib.hid (own6.less (Nat.le_of_lt hbi))
    have HBL := Lib.hid (HBL0.out.mod m6 (fun e => e))
    clear own6 m6
    go_wp2_with fail
    refine hK.out _ _ HN.out (fun _ => ?_)
    clear hK K
    (try simp only [Act.put, List.getElem_toArray, List.getElem_cons_zero, List.getElem_cons_succ, List.setIfInBounds_toArray, List.set_cons_zero, List.set_cons_succ])
    refine headW_ready [4] (by kernel_rfl) (by rfl) ?_
    refine eachW_step rfl rfl (fun K hK => ?_) eachW_nil
    have how := HOW.out
    have hblp := HBL.out
    have hszp := HN.out.size
    refine wp_push (.tmp 6) (.tmp 8) _ rfl 32 Tryz.underlying63 einfo_step rfl (by exact how) (⟨nm, sn, at_⟩ : St) w1.heap.size rfl (by exact hblp) (fun j hj => St.one _ j hj) (by omega) (by omega) (by omega) ?_
    intro g8 cap8 w8 own8 hm8 hat8 hlt8
    have HN8 := Lib.hid (HN.out.step hm8 (fun i hi e => by have := (HOW.out.far' i e).1; omega))
    refine hK.out _ _ HN8.out (fun _ => ?_)
    clear hK K hblp hat8 hlt8 hm8 how
    (try simp only [Act.put, List.getElem_toArray, List.getElem_cons_zero, List.getElem_cons_succ, List.setIfInBounds_toArray, List.set_cons_zero, List.set_cons_succ])
    have HO8 := Lib.hid own8
    clear own8
    refine headW_done (by kernel_rfl) ?_
    go_wp2_with fail
    go_ret
    exact ⟨some ⟨g8, 0, none⟩, cap8, rfl, HO8.out.less (by omega), HM1.out.trans HN8.out⟩

end Go.Proofs.YtjfgfkbgbhbhjaaGreatDoor

namespace Go.Proofs.YtjfgfkbgbhbhjaaGreatDoor
open Go.RowKit
set_option linter.unusedVariables false
set_option linter.unusedSimpArgs false

set_option maxRecDepth 100000 in
set_option maxHeartbeats 700000 in
theorem ref_to (pb : Nat) (A : Option Addr) (n c : Nat) (ps : List St) (st : St) (w : World) (hp : Blk w pb 63 #[.slice A n c]) (hs : Sl w 76 3 St.enc A n ps) (hn : n ≤ 1000) :
    Calls Tryz.prog 38 #[st.val, .pointer (some ⟨pb, 0, none⟩)] w (RBehind w n (ps ++ [st]) ) := by
  obtain ⟨nm, sn, at_⟩ := st
  have HP := Lib.hid hp
  have hx := Blk.new w 76 #[.bool nm, .string sn, .int .i64 at_]
  have hm1 : New w (w.alloc (.cells #[.bool nm, .string sn, .int .i64 at_] 76)) := (Mod.refl _ _).alloc _
  have hcl := fun W (h : New w W) => cloneS ps A n c W (hs.new h) (by omega)
  have HCL := Lib.hid hcl
  clear hs hcl hp
  unfold St.val
  simp only
  go_enter Tryz.func38, Tryz.ntmps38
  go_upto_region 1 with fail
  generalize w.alloc (.cells #[.bool nm, .string sn, .int .i64 at_] 76) = w1 at *
  have hwz : w.heap.size < w1.heap.size := hx.lt
  have hwz2 : w.heap.size ≤ w.heap.size := Nat.le_refl _
  generalize hxb : w.heap.size = xb at *
  have HX := Lib.hid hx
  have HM1 := Lib.hid hm1
  have HSL : Hid (∀ W, New w1 W → W.cell? ⟨xb, 0, none⟩ = some (.bool nm) ∧ W.cell? ⟨xb, 1, none⟩ = some (.string sn) ∧ W.cell? ⟨xb, 2, none⟩ = some (.int .i64 at_) ∧ xb < W.heap.size ∧ W.cell? ⟨pb, 0, none⟩ = some (.slice A n c) ∧ pb < W.heap.size) := Lib.hid (fun W hW => by
    have h := HX.out.mod hW (fun e => e)
    have h2 := (HP.out.mod HM1.out (fun e => e)).mod hW (fun e => e)
    exact ⟨(h.cell 0).trans rfl, (h.cell 1).trans rfl, (h.cell 2).trans rfl, h.lt, (h2.cell 0).trans rfl, h2.lt⟩)
  clear hx hm1
  refine wp_region_held_tree (New w1) 5 (by kernel_rfl) (by kernel_rfl) ?_
  have hn1 : New w1 w1.drew := (Mod.refl _ _).drew
  refine headW_take 0 _ ?_ (fun _ _ d _ _ h => by cases d <;> exact h) (by kernel_rfl) rfl (by kernel_rfl) hn1 (by rfl) (fun W hSw => ?_) ?_
  rotate_left
  · (have hq := HSL.out W hSw); (try simp only [List.getElem_toArray, List.getElem_cons_zero, List.getElem_cons_succ]); go_simp; any_goals (with_reducible rfl)
  simp only [Act.put, List.getElem_toArray, List.getElem_cons_zero, List.getElem_cons_succ, List.setIfInBounds_toArray, List.set_cons_zero, List.set_cons_succ]
  refine headW_take 2 _ ?_ (fun _ _ d _ _ h => by cases d <;> exact h) (by kernel_rfl) rfl (by kernel_rfl) hn1 (by rfl) (fun W hSw => ?_) ?_
  rotate_left
  · (have hq := HSL.out W hSw); (try simp only [List.getElem_toArray, List.getElem_cons_zero, List.getElem_cons_succ]); go_simp; any_goals (with_reducible rfl)
  simp only [Act.put, List.getElem_toArray, List.getElem_cons_zero, List.getElem_cons_succ, List.setIfInBounds_toArray, List.set_cons_zero, List.set_cons_succ]
  refine headW_ready [1, 3] (by kernel_rfl) (by rfl) ?_
  refine eachW_step rfl rfl (fun K hK => ?_) (eachW_step rfl rfl (fun K hK => ?_) eachW_nil)
  · have hcl := HCL.out _ (HM1.out.trans hn1)
    (try simp only [List.getElem_toArray, List.getElem_cons_zero, List.getElem_cons_succ])
    go_simp
    refine hcl.mono ?_
    clear hcl
    rintro e w6 ⟨A6, c6, rfl, own6, m6⟩
    have HN6 := Lib.hid (hn1.trans m6)
    have HOW6 : Hid (Own w6 w1.heap.size 76 3 St.enc A6 n c6 ps) := Lib.hid own6
    clear own6 m6
    go_wp2_with fail
    refine hK.out _ _ HN6.out (fun _ => ?_)
    clear hK K
    (try simp only [Act.put, List.getElem_toArray, List.getElem_cons_zero, List.getElem_cons_succ, List.setIfInBounds_toArray, List.set_cons_zero, List.set_cons_succ])
    refine headW_ready [3] (by kernel_rfl) (by rfl) ?_
    refine eachW_step rfl rfl (fun K hK => ?_) eachW_nil
    have HBL : Hid (Blk (w6.alloc (.cells #[.bool nm, .string sn, .int .i64 at_] 76)) w6.heap.size 76 (encL 3 St.enc (⟨nm, sn, at_⟩ : St)).toArray) := Lib.hid (Blk.new _ _ _)
    have HMA : Hid (New w6 (w6.alloc (.cells #[.bool nm, .string sn, .int .i64 at_] 76))) := Lib.hid ((Mod.refl _ _).alloc _)
    (try simp only [List.getElem_toArray, List.getElem_cons_zero, List.getElem_cons_succ])
    go_simp
    have HOW := Lib.hid (HOW6.out.new HMA.out)
    have HN := Lib.hid (HN6.out.trans HMA.out)
    refine hK.out _ _ HN.out (fun _ => ?_)
    clear hK K HOW6 HN6 HMA
    (try simp only [Act.put, List.getElem_toArray, List.getElem_cons_zero, List.getElem_cons_succ, List.setIfInBounds_toArray, List.set_cons_zero, List.set_cons_succ])
    generalize w6.alloc (.cells #[.bool nm, .string sn, .int .i64 at_] 76) = wa at *
    generalize w6.heap.size = bi at *
    refine headW_ready [4] (by kernel_rfl) (by rfl) ?_
    refine eachW_step rfl rfl (fun K hK => ?_) eachW_nil
    have how := HOW.out
    have hblp := HBL.out
    have hszp := HN.out.size
    refine wp_push (.tmp 5) (.tmp 7) _ rfl 32 Tryz.underlying63 einfo_step rfl (by exact how) (⟨nm, sn, at_⟩ : St) bi rfl (by exact hblp) (fun j hj => St.one _ j hj) (by omega) (by omega) (by omega) ?_
    intro g8 cap8 w8 own8 hm8 hat8 hlt8
    have HN8 := Lib.hid (HN.out.step hm8 (fun i hi e => by have := (HOW.out.far' i e).1; omega))
    refine hK.out _ _ HN8.out (fun _ => ?_)
    clear hK K hblp hat8 hlt8 hm8 how
    (try simp only [Act.put, List.getElem_toArray, List.getElem_cons_zero, List.getElem_cons_succ, List.setIfInBounds_toArray, List.set_cons_zero, List.set_cons_succ])
    have HO8 := Lib.hid own8
    clear own8
    refine headW_done (by kernel_rfl) ?_
    go_wp2_with fail
    go_ret
    exact ⟨some ⟨g8, 0, none⟩, cap8, rfl, HO8.out.less (by omega), HM1.out.trans HN8.out⟩
  · have HB0 : Blk (w1.alloc (.cells #[.bool nm, .string sn, .int .i64 at_] 76)) w1.heap.size 76 (encL 3 St.enc (⟨nm, sn, at_⟩ : St)).toArray := Blk.new _ _ _
    have HNa : Hid (New w1 (World.drew (w1.alloc (.cells #[.bool nm, .string sn, .int .i64 at_] 76)))) := Lib.hid (((Mod.refl _ _).alloc _).drew)
    have HBL0 : Hid (Blk (World.drew (w1.alloc (.cells #[.bool nm, .string sn, .int .i64 at_] 76))) w1.heap.size 76 (encL 3 St.enc (⟨nm, sn, at_⟩ : St)).toArray) := Lib.hid (HB0.mod (Mod.drew (Mod.refl (fun _ => False) _)) (fun e => e))
    clear HB0
    have hbi : w1.heap.size < (World.drew (w1.alloc (.cells #[.bool nm, .string sn, .int .i64 at_] 76))).heap.size := HBL0.out.lt
    (try simp only [List.getElem_toArray, List.getElem_cons_zero, List.getElem_cons_succ])
    go_simp
    refine hK.out _ _ HNa.out (fun _ => ?_)
    clear hK K
    (try simp only [Act.put, List.getElem_toArray, List.getElem_cons_zero, List.getElem_cons_succ, List.setIfInBounds_toArray, List.set_cons_zero, List.set_cons_succ])
    generalize World.drew (w1.alloc (.cells #[.bool nm, .string sn, .int .i64 at_] 76)) = wa at *
    refine headW_ready [1] (by kernel_rfl) (by rfl) ?_
    refine eachW_step rfl rfl (fun K hK => ?_) eachW_nil
    have hcl := HCL.out _ (HM1.out.trans HNa.out)
    (try simp only [List.getElem_toArray, List.getElem_cons_zero, List.getElem_cons_succ])
    go_simp
    refine hcl.mono ?_
    clear hcl
    rintro e w6 ⟨A6, c6, rfl, own6, m6⟩
    have HN := Lib.hid (HNa.out.trans m6)
    have HOW : Hid (Own w6 w1.heap.size 76 3 St.enc A6 n c6 ps) := Lib.hid (own6.less (Nat.le_of_lt hbi))
    have HBL := Lib.hid (HBL0.out.mod m6 (fun e => e))
    clear own6 m6
    go_wp2_with fail
    refine hK.out _ _ HN.out (fun _ => ?_)
    clear hK K
    (try simp only [Act.put, List.getElem_toArray, List.getElem_cons_zero, List.getElem_cons_succ, List.setIfInBounds_toArray, List.set_cons_zero, List.set_cons_succ])
    refine headW_ready [4] (by kernel_rfl) (by rfl) ?_
    refine eachW_step rfl rfl (fun K hK => ?_) eachW_nil
    have how := HOW.out
    have hblp := HBL.out
    have hszp := HN.out.size
    refine wp_push (.tmp 5) (.tmp 7) _ rfl 32 Tryz.underlying63 einfo_step rfl (by exact how) (⟨nm, sn, at_⟩ : St) w1.heap.size rfl (by exact hblp) (fun j hj => St.one _ j hj) (by omega) (by omega) (by omega) ?_
    intro g8 cap8 w8 own8 hm8 hat8 hlt8
    have HN8 := Lib.hid (HN.out.step hm8 (fun i hi e => by have := (HOW.out.far' i e).1; omega))
    refine hK.out _ _ HN8.out (fun _ => ?_)
    clear hK K hblp hat8 hlt8 hm8 how
    (try simp only [Act.put, List.getElem_toArray, List.getElem_cons_zero, List.getElem_cons_succ, List.setIfInBounds_toArray, List.set_cons_zero, List.set_cons_succ])
    have HO8 := Lib.hid own8
    clear own8
    refine headW_done (by kernel_rfl) ?_
    go_wp2_with fail
    go_ret
    exact ⟨some ⟨g8, 0, none⟩, cap8, rfl, HO8.out.less (by omega), HM1.out.trans HN8.out⟩

end Go.Proofs.YtjfgfkbgbhbhjaaGreatDoor
