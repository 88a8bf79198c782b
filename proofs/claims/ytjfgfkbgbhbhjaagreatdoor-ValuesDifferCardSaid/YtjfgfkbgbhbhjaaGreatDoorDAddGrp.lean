/- Several texts in one. (1) The program: differ.add, one change more. Conditions: a path of at most 1000 steps, rows of at most 1000, fewer than 500000 changes. (2) The program: differ.lists, the changes of two lists, given those of two values one level down. Conditions: values that fit, at most 400000 changes. -/
import Derived.Test.YtjfgfkbgbhbhjaaGreatDoorChgMemGrp
import Derived.Test.YtjfgfkbgbhbhjaaGreatDoorClone
import Derived.Test.YtjfgfkbgbhbhjaaGreatDoorHeldGrp
import Derived.Test.YtjfgfkbgbhbhjaaGreatDoorDifLawGrp
import Derived.Test.YtjfgfkbgbhbhjaaGreatDoorBehGrp

namespace Go.Proofs.YtjfgfkbgbhbhjaaGreatDoor
open Go.RowKit
set_option linter.unusedVariables false
set_option linter.unusedSimpArgs false

theorem einfo_chg : EInfo Tryz.prog 65 8 120 := EInfo.of (z := .agg #[.int .i64 0, .slice none 0 0, .int .i64 0, .bool false, .int .i64 0, .string ⟨#[]⟩, .slice none 0 0, .slice none 0 0]) (by kernel_rfl) rfl (by decide)
theorem ChT.mod {w w' : World} {S : Nat → Prop} {D : Nat} {c : CA} {x : ChD} (h : ChT w D c x) (hm : Mod S w w') (hs : ∀ g, TB w g 76 ∨ TB w g 29 ∨ TB w g 54 → ¬ S g) : ChT w' D c x :=
  ⟨h.kind, h.path.mod hm (fun g ht => hs g (.inl ht)), Tree.mod hm (fun g _ ht => hs g (.inr ht)) _ _ _ h.tree⟩
theorem Own.tbO {α : Type} {w : World} {B : Nat} {t : TypeId} {sz : Nat} {enc : α → Nat → Value} {A : Option Addr} {n c : Nat} {xs : List α} (h : Own w B t sz enc A n c xs) (g : Nat) (e : blkOf A = some g) : TB w g t ∧ B ≤ g := by
  rcases h.blk with ⟨rfl, _, _⟩ | ⟨g', rfl, hB, ht⟩
  · cases e
  · injection e with e
    subst e
    exact ⟨ht, hB⟩
/-- the changes that a differ has collected so far -/
structure DfAt (w : World) (B db D : Nat) (A : Option Addr) (n c : Nat) (L : List ChD) : Prop where
  blk : Blk w db 60 #[.slice A n c]
  row : ∃ qs : List CA, Own w B 65 8 CA.enc A n c qs ∧ Al (ChT w D) qs L
  lt : db < B
  le : B ≤ w.heap.size
theorem DfAt.len {w : World} {B db D : Nat} {A : Option Addr} {n c : Nat} {L : List ChD} (h : DfAt w B db D A n c L) : n = L.length := by
  obtain ⟨qs, h1, h2⟩ := h.row
  rw [← h2.len, h1.1]
/-- what a differ may turn -/
abbrev DfMod (db : Nat) (A : Option Addr) : Nat → Prop := fun k => k = db ∨ blkOf A = some k
/-- blocks that a differ never turns: those of other types -/
theorem DfAt.far {w : World} {B db D : Nat} {A : Option Addr} {n c : Nat} {L : List ChD} (h : DfAt w B db D A n c L) {g : Nat} {t : TypeId} (ht : TB w g t) (h1 : t ≠ 60) (h2 : t ≠ 65) : ¬ DfMod db A g := by
  rintro (e | e)
  · subst e; exact (ht.ne h.blk.tb h1) rfl
  · obtain ⟨qs, ho, -⟩ := h.row
    exact (ht.ne (ho.tbO g e).1 h2) rfl
theorem DfAt.new {w w' : World} {B db D : Nat} {A : Option Addr} {n c : Nat} {L : List ChD} (h : DfAt w B db D A n c L) (hm : New w w') : DfAt w' B db D A n c L := by
  obtain ⟨qs, h1, h2⟩ := h.row
  exact ⟨h.blk.mod hm (fun e => e), ⟨qs, h1.new hm, Al.imp (fun _ _ q => q.new hm) h2⟩, h.lt, Nat.le_trans h.le hm.size⟩
def RDf (w : World) (B db D : Nat) (A0 : Option Addr) (L : List ChD) (e : Ending) (w' : World) : Prop :=
  e = .returned (.tuple #[]) ∧ ∃ A n c, DfAt w' B db D A n c L ∧ Mod (DfMod db A0) w w' ∧ (∀ g, blkOf A = some g → blkOf A0 = some g ∨ w.heap.size ≤ g)
/-- one after another -/
theorem Mod.df {a b c : World} {db : Nat} {A0 A1 : Option Addr} (h : Mod (DfMod db A0) a b) (k : Mod (DfMod db A1) b c) (hf : ∀ g, blkOf A1 = some g → blkOf A0 = some g ∨ a.heap.size ≤ g) : Mod (DfMod db A0) a c :=
  h.step k (fun i hi e => by
    rcases e with e | e
    · exact .inl e
    · rcases hf i e with h | h
      · exact .inr h
      · omega)
set_option maxRecDepth 100000 in
set_option maxHeartbeats 700000 in
theorem df_add (D d : Nat) (k : Int) (pa : Option Addr) (pn pc : Nat) (ps : List St) (x : VA) (v : VT) (A0 : Option Addr) (n0 c0 : Nat) (L : List ChD) (B db : Nat) (w : World) (hD : DfAt w B db D A0 n0 c0 L) (hp : Sl w 76 3 St.enc pa pn ps) (ht : Tree w (fun _ => True) d x v) (hw : Wide 1000 d v) (hd : d ≤ D) (hpn : pn ≤ 1000) (hn : L.length ≤ 500000) :
    Calls Tryz.prog 62 #[.pointer (some ⟨db, 0, none⟩), .int .i64 k, .slice pa pn pc, x.val] w (RDf w B db D A0 (L ++ [⟨k, ps, v⟩])) := by
  have hn0 : n0 ≤ 500000 := by have := hD.len; omega
  have HCL := Lib.hid (fun W (h : New w W) => cloneS ps pa pn pc W (hp.new h) (by omega))
  have HCV := Lib.hid (fun W (h : New w W) => clone_v d x v W (ht.new h) hw)
  have HD := Lib.hid hD
  clear hD hp ht hw
  obtain ⟨xk, xf, xn, xw, xla, xln, xlc, xma, xmn, xmc⟩ := x
  have hx := Blk.new w 29 #[.int .i64 xk, .bool xf, .int .i64 xn, .string xw, .slice xla xln xlc, .slice xma xmn xmc]
  have m1 : New w (w.alloc (.cells #[.int .i64 xk, .bool xf, .int .i64 xn, .string xw, .slice xla xln xlc, .slice xma xmn xmc] 29)) := (Mod.refl _ _).alloc _
  go_enter Tryz.func62, Tryz.ntmps62
  go_upto_region 1 with (fail)
  generalize w.alloc (.cells #[.int .i64 xk, .bool xf, .int .i64 xn, .string xw, .slice xla xln xlc, .slice xma xmn xmc] 29) = w1 at *
  generalize hxb : w.heap.size = xb at *
  have HX := Lib.hid hx
  have HM := Lib.hid m1
  clear hx m1
  have HD1 := Lib.hid (HD.out.new HM.out)
  have HDN : Hid (¬ blkOf A0 = some db) := Lib.hid (fun e => by
    obtain ⟨qs, hoq, -⟩ := HD.out.row
    have h1 := (hoq.tbO db e).2
    have := HD.out.lt
    omega)
  have HXN : Hid (¬ blkOf A0 = some xb) := Lib.hid (fun e => HD1.out.far HX.out.tb (by decide) (by decide) (.inr e))
  have HSL : Hid (∀ W, Mod (fun i => blkOf A0 = some i) w1 W → W.cell? ⟨xb, 0, none⟩ = some (.int .i64 xk) ∧ W.cell? ⟨xb, 1, none⟩ = some (.bool xf) ∧ W.cell? ⟨xb, 2, none⟩ = some (.int .i64 xn) ∧ W.cell? ⟨xb, 3, none⟩ = some (.string xw) ∧ W.cell? ⟨xb, 4, none⟩ = some (.slice xla xln xlc) ∧ W.cell? ⟨xb, 5, none⟩ = some (.slice xma xmn xmc) ∧ W.cell? ⟨db, 0, none⟩ = some (.slice A0 n0 c0) ∧ xb < W.heap.size ∧ db < W.heap.size) := Lib.hid (fun W hW => by
    have h1 := HX.out.mod hW HXN.out
    have h2 := HD1.out.blk.mod hW HDN.out
    exact ⟨(h1.cell 0).trans rfl, (h1.cell 1).trans rfl, (h1.cell 2).trans rfl, (h1.cell 3).trans rfl, (h1.cell 4).trans rfl, (h1.cell 5).trans rfl, (h2.cell 0).trans rfl, h1.lt, h2.lt⟩)
  refine wp_region_held_tree (Mod (fun i => blkOf A0 = some i) w1) 13 (by kernel_rfl) (by kernel_rfl) ?_
  have hn1 : New w1 w1.drew := (Mod.refl _ _).drew
  have hs1 : Mod (fun i => blkOf A0 = some i) w1 w1.drew := (Mod.refl _ _).drew
  refine headW_take 0 _ ?_ (fun _ _ d _ _ h => by cases d <;> exact h) (by kernel_rfl) rfl (by kernel_rfl) hs1 (by rfl) (fun W hSw => ?_) ?_
  rotate_left
  · (have hq := HSL.out W hSw); (try simp only [List.getElem_toArray, List.getElem_cons_zero, List.getElem_cons_succ]); go_simp; any_goals (with_reducible rfl)
  simp only [Act.put, List.getElem_toArray, List.getElem_cons_zero, List.getElem_cons_succ, List.setIfInBounds_toArray, List.set_cons_zero, List.set_cons_succ]
  refine headW_take 1 _ ?_ (fun _ _ d _ _ h => by cases d <;> exact h) (by kernel_rfl) rfl (by kernel_rfl) hs1 (by rfl) (fun W hSw => ?_) ?_
  rotate_left
  · (have hq := HSL.out W hSw); (try simp only [List.getElem_toArray, List.getElem_cons_zero, List.getElem_cons_succ]); go_simp; any_goals (with_reducible rfl)
  simp only [Act.put, List.getElem_toArray, List.getElem_cons_zero, List.getElem_cons_succ, List.setIfInBounds_toArray, List.set_cons_zero, List.set_cons_succ]
  refine headW_take 2 _ ?_ (fun _ _ d _ _ h => by cases d <;> exact h) (by kernel_rfl) rfl (by kernel_rfl) hs1 (by rfl) (fun W hSw => ?_) ?_
  rotate_left
  · (have hq := HSL.out W hSw); (try simp only [List.getElem_toArray, List.getElem_cons_zero, List.getElem_cons_succ]); go_simp; any_goals (with_reducible rfl)
  simp only [Act.put, List.getElem_toArray, List.getElem_cons_zero, List.getElem_cons_succ, List.setIfInBounds_toArray, List.set_cons_zero, List.set_cons_succ]
  refine headW_take 3 _ ?_ (fun _ _ d _ _ h => by cases d <;> exact h) (by kernel_rfl) rfl (by kernel_rfl) hs1 (by rfl) (fun W hSw => ?_) ?_
  rotate_left
  · (have hq := HSL.out W hSw); (try simp only [List.getElem_toArray, List.getElem_cons_zero, List.getElem_cons_succ]); go_simp; any_goals (with_reducible rfl)
  simp only [Act.put, List.getElem_toArray, List.getElem_cons_zero, List.getElem_cons_succ, List.setIfInBounds_toArray, List.set_cons_zero, List.set_cons_succ]
  refine headW_take 4 _ ?_ (fun _ _ d _ _ h => by cases d <;> exact h) (by kernel_rfl) rfl (by kernel_rfl) hs1 (by rfl) (fun W hSw => ?_) ?_
  rotate_left
  · (have hq := HSL.out W hSw); (try simp only [List.getElem_toArray, List.getElem_cons_zero, List.getElem_cons_succ]); go_simp; any_goals (with_reducible rfl)
  simp only [Act.put, List.getElem_toArray, List.getElem_cons_zero, List.getElem_cons_succ, List.setIfInBounds_toArray, List.set_cons_zero, List.set_cons_succ]
  refine headW_take 5 _ ?_ (fun _ _ d _ _ h => by cases d <;> exact h) (by kernel_rfl) rfl (by kernel_rfl) hs1 (by rfl) (fun W hSw => ?_) ?_
  rotate_left
  · (have hq := HSL.out W hSw); (try simp only [List.getElem_toArray, List.getElem_cons_zero, List.getElem_cons_succ]); go_simp; any_goals (with_reducible rfl)
  simp only [Act.put, List.getElem_toArray, List.getElem_cons_zero, List.getElem_cons_succ, List.setIfInBounds_toArray, List.set_cons_zero, List.set_cons_succ]
  refine headW_take 6 _ ?_ (fun _ _ d _ _ h => by cases d <;> exact h) (by kernel_rfl) rfl (by kernel_rfl) hs1 (by rfl) (fun W hSw => ?_) ?_
  rotate_left
  · (have hq := HSL.out W hSw); (try simp only [List.getElem_toArray, List.getElem_cons_zero, List.getElem_cons_succ]); go_simp; any_goals (with_reducible rfl)
  simp only [Act.put, List.getElem_toArray, List.getElem_cons_zero, List.getElem_cons_succ, List.setIfInBounds_toArray, List.set_cons_zero, List.set_cons_succ]
  refine headW_take 8 _ ?_ (fun _ _ d _ _ h => by cases d <;> exact h) (by kernel_rfl) rfl (by kernel_rfl) hs1 (by rfl) (fun W hSw => ?_) ?_
  rotate_left
  · (have hq := HSL.out W hSw); (try simp only [List.getElem_toArray, List.getElem_cons_zero, List.getElem_cons_succ]); go_simp; any_goals (with_reducible rfl)
  simp only [Act.put, List.getElem_toArray, List.getElem_cons_zero, List.getElem_cons_succ, List.setIfInBounds_toArray, List.set_cons_zero, List.set_cons_succ]
  refine headW_ready [7] (by kernel_rfl) (by rfl) ?_
  refine eachW_step rfl rfl (fun K hK => ?_) eachW_nil
  have hcl := HCL.out _ (HM.out.trans hn1)
  (try simp only [List.getElem_toArray, List.getElem_cons_zero, List.getElem_cons_succ])
  go_simp
  refine hcl.mono ?_
  clear hcl
  rintro e w5 ⟨A5, c5, rfl, own5, m5⟩
  have HN5 := Lib.hid (hn1.trans m5)
  have HS5 := Lib.hid own5.sl
  clear own5 m5
  go_wp2_with fail
  refine hK.out _ _ (HN5.out.mono (fun _ _ e => e.elim)) (fun _ => ?_)
  clear hK K
  (try simp only [Act.put, List.getElem_toArray, List.getElem_cons_zero, List.getElem_cons_succ, List.setIfInBounds_toArray, List.set_cons_zero, List.set_cons_succ])
  refine headW_ready [9] (by kernel_rfl) (by rfl) ?_
  refine eachW_step rfl rfl (fun K hK => ?_) eachW_nil
  have hcv := HCV.out _ (HM.out.trans HN5.out)
  (try simp only [List.getElem_toArray, List.getElem_cons_zero, List.getElem_cons_succ])
  go_simp
  refine hcv.mono ?_
  clear hcv
  rintro e w6 ⟨⟨yk, yf, yn, yw, yla, yln, ylc, yma, ymn, ymc⟩, rfl, ty, m6⟩
  have HN6 := Lib.hid (HN5.out.trans m6)
  have HS6 := Lib.hid (HS5.out.new m6)
  have HT6 := Lib.hid (Tree.upto hd ty.any)
  clear ty m6 HS5 HN5
  go_wp2_with fail
  refine hK.out _ _ (HN6.out.mono (fun _ _ e => e.elim)) (fun _ => ?_)
  clear hK K
  (try simp only [Act.put, List.getElem_toArray, List.getElem_cons_zero, List.getElem_cons_succ, List.setIfInBounds_toArray, List.set_cons_zero, List.set_cons_succ])
  have hs6 : Mod (fun i => blkOf A0 = some i) w1 w6 := HN6.out.mono (fun _ _ e => e.elim)
  refine headW_take 10 _ ?_ (fun _ _ d _ _ h => by cases d <;> exact h) (by kernel_rfl) rfl (by kernel_rfl) hs6 (by rfl) (fun W hSw => ?_) ?_
  rotate_left
  · (have hq := HSL.out W hSw); (try simp only [List.getElem_toArray, List.getElem_cons_zero, List.getElem_cons_succ]); go_simp; any_goals (with_reducible rfl)
  simp only [Act.put, List.getElem_toArray, List.getElem_cons_zero, List.getElem_cons_succ, List.setIfInBounds_toArray, List.set_cons_zero, List.set_cons_succ]
  refine headW_ready [11] (by kernel_rfl) (by rfl) ?_
  refine eachW_step rfl rfl (fun K hK => ?_) eachW_nil
  have m7 : New w6 (w6.alloc (.cells #[.int .i64 k, .slice A5 pn c5, .int .i64 yk, .bool yf, .int .i64 yn, .string yw, .slice yla yln ylc, .slice yma ymn ymc] 65)) := (Mod.refl _ _).alloc _
  have b7 : Blk (w6.alloc (.cells #[.int .i64 k, .slice A5 pn c5, .int .i64 yk, .bool yf, .int .i64 yn, .string yw, .slice yla yln ylc, .slice yma ymn ymc] 65)) w6.heap.size 65 (encL 8 CA.enc ⟨k, A5, pn, c5, ⟨yk, yf, yn, yw, yla, yln, ylc, yma, ymn, ymc⟩⟩).toArray := Blk.new _ _ _
  have z7 : xb < w6.heap.size := (HX.out.mod HN6.out (fun e => e)).lt
  have HN7 := Lib.hid (HN6.out.trans m7)
  have HS7 := Lib.hid (HS6.out.new m7)
  have HT7 := Lib.hid (HT6.out.new m7)
  have HB7 := Lib.hid b7
  clear m7 b7 HS6 HT6 HN6
  (try simp only [List.getElem_toArray, List.getElem_cons_zero, List.getElem_cons_succ])
  go_simp
  refine hK.out _ _ (HN7.out.mono (fun _ _ e => e.elim)) (fun _ => ?_)
  clear hK K
  (try simp only [Act.put, List.getElem_toArray, List.getElem_cons_zero, List.getElem_cons_succ, List.setIfInBounds_toArray, List.set_cons_zero, List.set_cons_succ])
  generalize w6.alloc (.cells #[.int .i64 k, .slice A5 pn c5, .int .i64 yk, .bool yf, .int .i64 yn, .string yw, .slice yla yln ylc, .slice yma ymn ymc] 65) = w7 at *
  generalize w6.heap.size = cb at *
  have HD7 := Lib.hid (HD1.out.new HN7.out)
  obtain ⟨qs, hoq, hal⟩ := HD7.out.row
  have HAL := Lib.hid hal
  have HFAR := Lib.hid (fun g (e : TB w7 g 76 ∨ TB w7 g 29 ∨ TB w7 g 54) => (by
    rcases e with e | e | e
    · exact fun q => HD7.out.far e (by decide) (by decide) (.inr q)
    · exact fun q => HD7.out.far e (by decide) (by decide) (.inr q)
    · exact fun q => HD7.out.far e (by decide) (by decide) (.inr q) : ¬ blkOf A0 = some g))
  have hb7 := HB7.out
  have hle7 := HD7.out.le
  clear hal
  refine headW_ready [12] (by kernel_rfl) (by rfl) ?_
  refine eachW_step rfl rfl (fun K hK => ?_) eachW_nil
  refine wp_push (.tmp 12) (.tmp 19) _ rfl 120 Tryz.underlying33 einfo_chg rfl (by exact hoq) (⟨k, A5, pn, c5, ⟨yk, yf, yn, yw, yla, yln, ylc, yma, ymn, ymc⟩⟩ : CA) cb rfl (by exact hb7) (fun j hj => CA.one _ j hj) (by omega) (by omega) hle7 ?_
  intro g8 cap8 w8 own8 hm8 hat8 hlt8
  have HO8 := Lib.hid own8
  have HM8 := Lib.hid hm8
  have HAT := Lib.hid hat8
  have HDB := Lib.hid (HD7.out.blk.mod hm8 HDN.out)
  refine hK.out _ _ ((HN7.out.mono (fun _ _ e => e.elim)).trans hm8) (fun _ => ?_)
  clear hK K
  (try simp only [Act.put, List.getElem_toArray, List.getElem_cons_zero, List.getElem_cons_succ, List.setIfInBounds_toArray, List.set_cons_zero, List.set_cons_succ])
  refine headW_done (by kernel_rfl) ?_
  have e0 := HDB.out.cell 0
  have ef := HDB.out.frozen
  have el := HDB.out.lt
  simp only [List.getElem?_toArray, List.getElem?_cons_zero] at e0
  clear own8 hm8 hat8 hoq hb7
  go_wp2_with fail
  go_end0
  have HDX := HDB.out.set 0 (.slice (some ⟨g8, 0, none⟩) (n0 + 1) cap8)
  simp only [Array.setIfInBounds, List.size_toArray, List.length_cons, List.length_nil, Nat.reduceAdd, Nat.reduceLT, ↓reduceDIte, List.set_toArray, List.set_cons_zero] at HDX
  have hg8 : g8 ≠ db := fun e => by
    subst e
    rcases HAT.out with h | h
    · exact HDN.out h
    · have := HD7.out.blk.lt; omega
  have HS : Only db w8 (w8.setCell ⟨db, 0, none⟩ (.slice (some ⟨g8, 0, none⟩) (n0 + 1) cap8)) := Only.set (Mod.refl _ _) _ _
  have hT8 : ∀ y z, ChT w7 D y z → ChT w8 D y z := fun y z h => h.mod HM8.out HFAR.out
  have hdt : ∀ g, TB w8 g 76 ∨ TB w8 g 29 ∨ TB w8 g 54 → ¬ g = db := fun g e q => by
    subst q
    rcases e with e | e | e
    · exact (e.ne HDB.out.tb (by decide)) rfl
    · exact (e.ne HDB.out.tb (by decide)) rfl
    · exact (e.ne HDB.out.tb (by decide)) rfl
  have hsz := HN7.out.size
  have hsm := HM.out.size
  have hs8 := HM8.out.size
  refine ⟨rfl, _, _, _, ⟨HDX, ⟨_, HO8.out.mod HS (fun g e => by injection e with e; exact fun q => hg8 (by rw [← q]; exact e)), ?_⟩, HD.out.lt, ?_⟩, ?_, ?_⟩
  · refine Al.imp (fun _ _ h => h.mod HS hdt) (Al.append (Al.imp hT8 HAL.out) (Al.one ?_))
    exact hT8 _ _ ⟨rfl, HS7.out, HT7.out⟩
  · have h1 := HS.size
    have h2 := HD7.out.le
    omega
  · refine ((HM.out.trans HN7.out).mono (fun _ _ e => e.elim)).trans ?_
    exact (HM8.out.mono (fun _ _ e => .inr e)).trans (HS.mono (fun _ _ e => .inl e))
  · intro g e
    injection e with e
    have e : g8 = g := e
    subst e
    rcases HAT.out with h | h
    · exact .inl h
    · right; omega
end Go.Proofs.YtjfgfkbgbhbhjaaGreatDoor

namespace Go.Proofs.YtjfgfkbgbhbhjaaGreatDoor
open Go.RowKit
set_option linter.unusedVariables false
set_option linter.unusedSimpArgs false

def VSpec (D d : Nat) : Prop := ∀ (x y : VA) (a b : VT) (A : Option Addr) (n c : Nat) (ps : List St) (A0 : Option Addr) (n0 c0 : Nat) (L : List ChD) (B db : Nat) (w : World),
  DfAt w B db D A0 n0 c0 L → Tree w (fun _ => True) d x a → Tree w (fun _ => True) d y b → Good d a → Good d b → Fit d a → Fit d b → Sl w 76 3 St.enc A n ps → n + d ≤ 900 → d ≤ D → L.length + (difF d a b ps).length ≤ 400000 →
  Calls Tryz.prog 26 #[.pointer (some ⟨db, 0, none⟩), x.val, y.val, .slice A n c] w (RDf w B db D A0 (L ++ difF d a b ps))
/-- what the loops keep: two boxes, the differ -/
structure DfI (w : World) (xb : Nat) (xc yc : Array Value) (B db D : Nat) (A0 : Option Addr) (L : List ChD) (A : Option Addr) (n c : Nat) (wr : World) : Prop where
  bx : Blk wr xb 29 xc
  by_ : Blk wr (xb + 1) 29 yc
  df : DfAt wr B db D A n c L
  mod : Mod (DfMod db A0) w wr
  far : ∀ g, blkOf A = some g → blkOf A0 = some g ∨ w.heap.size ≤ g
theorem DfI.new {w wr w' : World} {xb : Nat} {xc yc : Array Value} {B db D : Nat} {A0 : Option Addr} {L : List ChD} {A : Option Addr} {n c : Nat} (h : DfI w xb xc yc B db D A0 L A n c wr) (hm : New wr w') : DfI w xb xc yc B db D A0 L A n c w' :=
  ⟨h.bx.mod hm (fun e => e), h.by_.mod hm (fun e => e), h.df.new hm, h.mod.trans (hm.mono (fun _ _ e => e.elim)), h.far⟩
/-- behind a call that has added changes -/
theorem DfI.next {w wr w' : World} {xb : Nat} {xc yc : Array Value} {B db D : Nat} {A0 : Option Addr} {L L' : List ChD} {A : Option Addr} {n c : Nat} (h : DfI w xb xc yc B db D A0 L A n c wr) {e : Ending} (hr : RDf wr B db D A L' e w') :
    e = .returned (.tuple #[]) ∧ ∃ A' n' c', DfI w xb xc yc B db D A0 L' A' n' c' w' := by
  obtain ⟨he, A', n', c', h1, h2, h3⟩ := hr
  refine ⟨he, A', n', c', h.bx.mod h2 (h.df.far h.bx.tb (by decide) (by decide)), h.by_.mod h2 (h.df.far h.by_.tb (by decide) (by decide)), h1, h.mod.df h2 h.far, fun g e => ?_⟩
  rcases h3 g e with q | q
  · exact h.far g q
  · right; have := h.mod.size; omega
/-- the same behind calls that have made memory alone -/
theorem RDf.pre {w w1 w' : World} {B db D : Nat} {A0 : Option Addr} {L : List ChD} {e : Ending} (h : New w w1) (hr : RDf w1 B db D A0 L e w') : RDf w B db D A0 L e w' := by
  obtain ⟨he, A', n', c', h1, h2, h3⟩ := hr
  refine ⟨he, A', n', c', h1, (h.mono (fun _ _ e => e.elim)).trans h2, fun g e => ?_⟩
  rcases h3 g e with q | q
  · exact .inl q
  · right; have := h.size; omega
set_option maxRecDepth 100000 in
set_option maxHeartbeats 700000 in
theorem df_lists (D d : Nat) (IH : VSpec D d) (x y : VA) (a b : VT) (A : Option Addr) (n c : Nat) (ps : List St) (A0 : Option Addr) (n0 c0 : Nat) (L : List ChD) (B db : Nat) (w : World)
    (hD : DfAt w B db D A0 n0 c0 L) (htx : Tree w (fun _ => True) (d + 1) x a) (hty : Tree w (fun _ => True) (d + 1) y b) (hga : Good (d + 1) a) (hgb : Good (d + 1) b) (hfa : Fit (d + 1) a) (hfb : Fit (d + 1) b) (hs : Sl w 76 3 St.enc A n ps) (hn : n + d ≤ 899) (hd : d + 1 ≤ D)
    (hL : L.length + ((bothD d a b ps (min a.list.length b.list.length)).length + ((a.list.length - b.list.length) + (b.list.length - a.list.length))) ≤ 400000) :
    Calls Tryz.prog 61 #[.pointer (some ⟨db, 0, none⟩), x.val, y.val, .slice A n c] w (RDf w B db D A0 (L ++ (bothD d a b ps (min a.list.length b.list.length) ++ takeD a.list.length ps (a.list.length - b.list.length) ++ putD a.list.length b.list ps (b.list.length - a.list.length)))) := by
  obtain ⟨xs, xm, h1, h2, -, -⟩ := htx.als
  obtain ⟨ys, ym, h3, h4, -, -⟩ := hty.als
  obtain ⟨-, -, -, -, f5, -⟩ := htx.fields
  obtain ⟨-, -, -, -, g5, -⟩ := hty.fields
  have HKT : Hid (∀ W k z u, Mod (DfMod db A0) w W → Tree w (fun _ => True) k z u → Tree W (fun _ => True) k z u) := Lib.hid (fun W k z u h ht => Tree.mod h (fun g _ hg => by
    rcases hg with hg | hg
    · exact (hD).far hg (by decide) (by decide)
    · exact (hD).far hg (by decide) (by decide)) _ _ _ ht)
  have HKS : Hid (∀ W, Mod (DfMod db A0) w W → Sl W 76 3 St.enc A n ps) := Lib.hid (fun W h => (hs).mod h (fun g ht => (hD).far ht (by decide) (by decide)))
  have HKV : Hid (∀ W A' n' xs, Mod (DfMod db A0) w W → Row w (fun _ => True) 29 6 VA.enc A' n' xs → Row W (fun _ => True) 29 6 VA.enc A' n' xs) := Lib.hid (fun W A' n' xs h hr => hr.mod h (fun g _ ht => (hD).far ht (by decide) (by decide)))
  have HKM : Hid (∀ W A' n' xs, Mod (DfMod db A0) w W → Row w (fun _ => True) 54 7 MA.enc A' n' xs → Row W (fun _ => True) 54 7 MA.enc A' n' xs) := Lib.hid (fun W A' n' xs h hr => hr.mod h (fun g _ ht => (hD).far ht (by decide) (by decide)))
  have HL1 := Lib.hid h1
  have HL2 := Lib.hid h2
  have HL3 := Lib.hid h3
  have HL4 := Lib.hid h4
  have HGA := Lib.hid hga
  have HGB := Lib.hid hgb
  have HFA := Lib.hid hfa
  have HFB := Lib.hid hfb
  have hp1 := hfa.parts.1
  have hp2 := hfb.parts.1
  obtain ⟨xk, xf, xn, xw, xla, xln, xlc, xma, xmn, xmc⟩ := x
  obtain ⟨yk, yf, yn, yw, yla, yln, ylc, yma, ymn, ymc⟩ := y
  simp only at f5 g5 HL1 HL3
  have HF5 := Lib.hid f5
  have HG5 := Lib.hid g5
  rw [f5, g5] at hL ⊢
  have hxln : xln ≤ 1000 := by omega
  have hyln : yln ≤ 1000 := by omega
  clear htx hty hga hgb hfa hfb hs h1 h2 h3 h4 f5 g5 hp1 hp2
  obtain ⟨m, hm⟩ : ∃ m, min xln yln = m := ⟨_, rfl⟩
  rw [hm] at hL ⊢
  have hmx : m ≤ xln := by omega
  have hmy : m ≤ yln := by omega
  have hmin : min (xln : Int) (yln : Int) = (m : Int) := by omega
  have HMM : Hid (m = xln ∨ m = yln) := Lib.hid (by omega)
  have HMN : Hid (xln - yln = xln - m ∧ yln - xln = yln - m) := Lib.hid (by omega)
  rw [HMN.out.1, HMN.out.2] at hL ⊢
  have HBL := Lib.hid (fun k (h : k ≤ m) => bothD_le d a b ps h)
  clear hm
  have hx := Blk.new w 29 #[.int .i64 xk, .bool xf, .int .i64 xn, .string xw, .slice xla xln xlc, .slice xma xmn xmc]
  have hm1 : New w (w.alloc (.cells #[.int .i64 xk, .bool xf, .int .i64 xn, .string xw, .slice xla xln xlc, .slice xma xmn xmc] 29)) := (Mod.refl _ _).alloc _
  have z1 : (w.alloc (.cells #[.int .i64 xk, .bool xf, .int .i64 xn, .string xw, .slice xla xln xlc, .slice xma xmn xmc] 29)).heap.size = w.heap.size + 1 := by simp
  go_enter Tryz.func61, Tryz.ntmps61
  go_upto_region 1 with (fail)
  generalize w.alloc (.cells #[.int .i64 xk, .bool xf, .int .i64 xn, .string xw, .slice xla xln xlc, .slice xma xmn xmc] 29) = w1 at *
  have hy := Blk.new w1 29 #[.int .i64 yk, .bool yf, .int .i64 yn, .string yw, .slice yla yln ylc, .slice yma ymn ymc]
  have hm2 : New w1 (w1.alloc (.cells #[.int .i64 yk, .bool yf, .int .i64 yn, .string yw, .slice yla yln ylc, .slice yma ymn ymc] 29)) := (Mod.refl _ _).alloc _
  rw [z1] at hy
  generalize w1.alloc (.cells #[.int .i64 yk, .bool yf, .int .i64 yn, .string yw, .slice yla yln ylc, .slice yma ymn ymc] 29) = w2 at *
  have hxx := hx.mod hm2 (fun e => e)
  generalize hxb : w.heap.size = xb at *
  have HNW := Lib.hid (hm1.trans hm2)
  have HI : Hid (DfI w xb #[.int .i64 xk, .bool xf, .int .i64 xn, .string xw, .slice xla xln xlc, .slice xma xmn xmc] #[.int .i64 yk, .bool yf, .int .i64 yn, .string yw, .slice yla yln ylc, .slice yma ymn ymc] B db D A0 L A0 n0 c0 w2) := Lib.hid ⟨hxx, hy, hD.new (hm1.trans hm2), (hm1.trans hm2).mono (fun _ _ e => e.elim), fun g e => .inl e⟩
  clear hx hxx hy hm1 hm2 z1 hD
  have hxx := (HI.out).bx
  have hyy := (HI.out).by_
  have e0 := hxx.cell 0
  have e1 := hxx.cell 1
  have e2 := hxx.cell 2
  have e3 := hxx.cell 3
  have e4 := hxx.cell 4
  have e5 := hxx.cell 5
  have el := hxx.lt
  have f0 := hyy.cell 0
  have f1 := hyy.cell 1
  have f2 := hyy.cell 2
  have f3 := hyy.cell 3
  have f4 := hyy.cell 4
  have f5 := hyy.cell 5
  have fl := hyy.lt
  simp only [List.getElem?_toArray, List.getElem?_cons_zero, List.getElem?_cons_succ] at e0 e1 e2 e3 e4 e5 f0 f1 f2 f3 f4 f5
  clear hxx hyy
  go_wp2_with fail
  clear e0 e1 e2 e3 e4 e5 el f0 f1 f2 f3 f4 f5 fl
  go_loopw [20, 9] (fun i _ wr => ∃ (k : Nat) (A1 : Option Addr) (n1 c1 : Nat), k ≤ m ∧ i = .int .i64 k ∧ Hid (DfI w xb #[.int .i64 xk, .bool xf, .int .i64 xn, .string xw, .slice xla xln xlc, .slice xma xmn xmc] #[.int .i64 yk, .bool yf, .int .i64 yn, .string yw, .slice yla yln ylc, .slice yma ymn ymc] B db D A0 (L ++ bothD d a b ps k) A1 n1 c1 wr)) (fun i _ _ => m - (intOf i).toNat)
  case atStart => exact ⟨0, _, _, _, Nat.zero_le _, rfl, Lib.hid (by rw [show bothD d a b ps 0 = [] from rfl, List.append_nil]; exact HI.out)⟩
  clear HI
  case round =>
    rename World => wr
    obtain ⟨k, A1, n1, c1, hk, rfl, HI⟩ := hrel
    by_cases hlt : k < m
    · have hkx : k < xs.length := by have := HL1.out.1; omega
      have hky : k < ys.length := by have := HL3.out.1; omega
      have hka : k < a.list.length := by have := HF5.out; omega
      have hkb : k < b.list.length := by have := HG5.out; omega
      obtain ⟨g2, o2, hA2, htb2, hc2⟩ := (HKV.out wr _ _ _ HI.out.mod HL1.out).sl.2 (by omega)
      obtain ⟨g3, o3, hA3, htb3, hc3⟩ := (HKV.out wr _ _ _ HI.out.mod HL3.out).sl.2 (by omega)
      subst hA2 hA3
      have HC2 : Hid (∀ W, New wr W → ∀ j, j < 6 → W.cell? ⟨g2, o2 + k * 6 + j, none⟩ = some (VA.enc xs[k] j)) := Lib.hid (fun W h j hj => (h.cell (p := ⟨g2, o2 + k * 6 + j, none⟩) htb2.lt (fun e => e)).trans (hc2 k hkx j hj))
      have HC3 : Hid (∀ W, New wr W → ∀ j, j < 6 → W.cell? ⟨g3, o3 + k * 6 + j, none⟩ = some (VA.enc ys[k] j)) := Lib.hid (fun W h j hj => (h.cell (p := ⟨g3, o3 + k * 6 + j, none⟩) htb3.lt (fun e => e)).trans (hc3 k hky j hj))
      have HG2 : Hid (∀ W, New wr W → g2 < W.heap.size ∧ g3 < W.heap.size) := Lib.hid (fun W h => ⟨Nat.lt_of_lt_of_le htb2.lt h.size, Nat.lt_of_lt_of_le htb3.lt h.size⟩)
      have ht1 := HL2.out.get k hkx hka
      have ht2 := HL4.out.get k hky hkb
      have HNX : Hid (L ++ bothD d a b ps (k + 1) = (L ++ bothD d a b ps k) ++ difF d a.list[k] b.list[k] (ps ++ [⟨false, ⟨#[]⟩, (k : Int)⟩])) := Lib.hid (by rw [bothD_next d ps hka hkb, List.append_assoc])
      have hlen : (L ++ bothD d a b ps k).length + (difF d a.list[k] b.list[k] (ps ++ [⟨false, ⟨#[]⟩, (k : Int)⟩])).length ≤ 400000 := by
        have h1 := HBL.out (k + 1) (by omega)
        rw [bothD_next d ps hka hkb] at h1
        simp only [List.length_append] at h1 ⊢
        omega
      have HIH := Lib.hid (fun A2 n2 c2 W (h : New wr W) hss hnn => IH xs[k] ys[k] a.list[k] b.list[k] A2 n2 c2 (ps ++ [⟨false, ⟨#[]⟩, (k : Int)⟩]) A1 n1 c1 (L ++ bothD d a b ps k) B db W (HI.out.df.new h) ((HKT.out wr _ _ _ HI.out.mod ht1).new h) ((HKT.out wr _ _ _ HI.out.mod ht2).new h) (HGA.out.2.1 _ (List.getElem_mem hka)) (HGB.out.2.1 _ (List.getElem_mem hkb)) (HFA.out.item hka) (HFB.out.item hkb) hss hnn (by omega) hlen)
      have HSS := Lib.hid (HKS.out wr HI.out.mod)
      have HB := Lib.hid HI.out.bx
      have HB2 := Lib.hid HI.out.by_
      clear hc2 hc3 ht1 ht2 hlen htb2 htb3
      generalize xs[k] = z at *
      generalize ys[k] = u at *
      obtain ⟨zk, zf, zn, zw, zla, zln, zlc, zma, zmn, zmc⟩ := z
      obtain ⟨uk, uf, un, uw, ula, uln, ulc, uma, umn, umc⟩ := u
      have HSL : Hid (∀ W, New wr W → W.cell? ⟨xb, 4, none⟩ = some (.slice (some ⟨g2, o2, none⟩) xln xlc) ∧ W.cell? ⟨xb + 1, 4, none⟩ = some (.slice (some ⟨g3, o3, none⟩) yln ylc) ∧
        W.cell? ⟨g2, o2 + k * 6, none⟩ = some (.int .i64 zk) ∧ W.cell? ⟨g2, o2 + k * 6 + 1, none⟩ = some (.bool zf) ∧ W.cell? ⟨g2, o2 + k * 6 + 2, none⟩ = some (.int .i64 zn) ∧ W.cell? ⟨g2, o2 + k * 6 + 3, none⟩ = some (.string zw) ∧ W.cell? ⟨g2, o2 + k * 6 + 4, none⟩ = some (.slice zla zln zlc) ∧ W.cell? ⟨g2, o2 + k * 6 + 5, none⟩ = some (.slice zma zmn zmc) ∧
        W.cell? ⟨g3, o3 + k * 6, none⟩ = some (.int .i64 uk) ∧ W.cell? ⟨g3, o3 + k * 6 + 1, none⟩ = some (.bool uf) ∧ W.cell? ⟨g3, o3 + k * 6 + 2, none⟩ = some (.int .i64 un) ∧ W.cell? ⟨g3, o3 + k * 6 + 3, none⟩ = some (.string uw) ∧ W.cell? ⟨g3, o3 + k * 6 + 4, none⟩ = some (.slice ula uln ulc) ∧ W.cell? ⟨g3, o3 + k * 6 + 5, none⟩ = some (.slice uma umn umc) ∧
        xb < W.heap.size ∧ xb + 1 < W.heap.size ∧ g2 < W.heap.size ∧ g3 < W.heap.size) := Lib.hid (fun W hW => by
        have h1 := HB.out.mod hW (fun e => e)
        have h2 := HB2.out.mod hW (fun e => e)
        have h3 := HC2.out W hW
        have h4 := HC3.out W hW
        have h5 := HG2.out W hW
        exact ⟨(h1.cell 4).trans rfl, (h2.cell 4).trans rfl, h3 0 (by omega), h3 1 (by omega), h3 2 (by omega), h3 3 (by omega), h3 4 (by omega), h3 5 (by omega), h4 0 (by omega), h4 1 (by omega), h4 2 (by omega), h4 3 (by omega), h4 4 (by omega), h4 5 (by omega), h1.lt, h2.lt, h5.1, h5.2⟩)
      have hb1 : (k : Int) < m := by omega
      have hb2 : (0 : Int) ≤ k := by omega
      have hb3 : (k : Int) < xln := by omega
      have hb4 : (k : Int) < yln := by omega
      have hb5 : k < xln := by omega
      have hb6 : k < yln := by omega
      clear HC2 HC3 HG2 HB HB2
      go_upto_region 5 with (fail)
      refine wp_region_held_tree (New wr) 15 (by kernel_rfl) (by kernel_rfl) ?_
      have hn1 : New wr wr.drew := (Mod.refl _ _).drew
      refine headW_take 0 _ ?_ (fun _ _ d _ _ h => by cases d <;> exact h) (by kernel_rfl) rfl (by kernel_rfl) hn1 (by rfl) (fun W hSw => ?_) ?_
      rotate_left
      · (have hq := HSL.out W hSw); (try simp only [List.getElem_toArray, List.getElem_cons_zero, List.getElem_cons_succ]); go_simp; any_goals (with_reducible rfl)
      simp only [Act.put, List.getElem_toArray, List.getElem_cons_zero, List.getElem_cons_succ, List.setIfInBounds_toArray, List.set_cons_zero, List.set_cons_succ]
      refine headW_take 1 _ ?_ (fun _ _ d _ _ h => by cases d <;> exact h) (by kernel_rfl) rfl (by kernel_rfl) hn1 (by rfl) (fun W hSw => ?_) ?_
      rotate_left
      · (have hq := HSL.out W hSw); (try simp only [List.getElem_toArray, List.getElem_cons_zero, List.getElem_cons_succ]); go_simp; any_goals (with_reducible rfl)
      simp only [Act.put, List.getElem_toArray, List.getElem_cons_zero, List.getElem_cons_succ, List.setIfInBounds_toArray, List.set_cons_zero, List.set_cons_succ]
      refine headW_take 2 _ ?_ (fun _ _ d _ _ h => by cases d <;> exact h) (by kernel_rfl) rfl (by kernel_rfl) hn1 (by rfl) (fun W hSw => ?_) ?_
      rotate_left
      · (have hq := HSL.out W hSw); (try simp only [List.getElem_toArray, List.getElem_cons_zero, List.getElem_cons_succ]); go_simp; any_goals (with_reducible rfl)
      simp only [Act.put, List.getElem_toArray, List.getElem_cons_zero, List.getElem_cons_succ, List.setIfInBounds_toArray, List.set_cons_zero, List.set_cons_succ]
      refine headW_take 3 _ ?_ (fun _ _ d _ _ h => by cases d <;> exact h) (by kernel_rfl) rfl (by kernel_rfl) hn1 (by rfl) (fun W hSw => ?_) ?_
      rotate_left
      · (have hq := HSL.out W hSw); (try simp only [List.getElem_toArray, List.getElem_cons_zero, List.getElem_cons_succ]); go_simp; any_goals (with_reducible rfl)
      simp only [Act.put, List.getElem_toArray, List.getElem_cons_zero, List.getElem_cons_succ, List.setIfInBounds_toArray, List.set_cons_zero, List.set_cons_succ]
      refine headW_take 4 _ ?_ (fun _ _ d _ _ h => by cases d <;> exact h) (by kernel_rfl) rfl (by kernel_rfl) hn1 (by rfl) (fun W hSw => ?_) ?_
      rotate_left
      · (have hq := HSL.out W hSw); (try simp only [List.getElem_toArray, List.getElem_cons_zero, List.getElem_cons_succ]); go_simp; any_goals (with_reducible rfl)
      simp only [Act.put, List.getElem_toArray, List.getElem_cons_zero, List.getElem_cons_succ, List.setIfInBounds_toArray, List.set_cons_zero, List.set_cons_succ]
      refine headW_take 5 _ ?_ (fun _ _ d _ _ h => by cases d <;> exact h) (by kernel_rfl) rfl (by kernel_rfl) hn1 (by rfl) (fun W hSw => ?_) ?_
      rotate_left
      · (have hq := HSL.out W hSw); (try simp only [List.getElem_toArray, List.getElem_cons_zero, List.getElem_cons_succ]); go_simp; any_goals (with_reducible rfl)
      simp only [Act.put, List.getElem_toArray, List.getElem_cons_zero, List.getElem_cons_succ, List.setIfInBounds_toArray, List.set_cons_zero, List.set_cons_succ]
      refine headW_take 6 _ ?_ (fun _ _ d _ _ h => by cases d <;> exact h) (by kernel_rfl) rfl (by kernel_rfl) hn1 (by rfl) (fun W hSw => ?_) ?_
      rotate_left
      · (have hq := HSL.out W hSw); (try simp only [List.getElem_toArray, List.getElem_cons_zero, List.getElem_cons_succ]); go_simp; any_goals (with_reducible rfl)
      simp only [Act.put, List.getElem_toArray, List.getElem_cons_zero, List.getElem_cons_succ, List.setIfInBounds_toArray, List.set_cons_zero, List.set_cons_succ]
      refine headW_take 7 _ ?_ (fun _ _ d _ _ h => by cases d <;> exact h) (by kernel_rfl) rfl (by kernel_rfl) hn1 (by rfl) (fun W hSw => ?_) ?_
      rotate_left
      · (have hq := HSL.out W hSw); (try simp only [List.getElem_toArray, List.getElem_cons_zero, List.getElem_cons_succ]); go_simp; any_goals (with_reducible rfl)
      simp only [Act.put, List.getElem_toArray, List.getElem_cons_zero, List.getElem_cons_succ, List.setIfInBounds_toArray, List.set_cons_zero, List.set_cons_succ]
      refine headW_take 8 _ ?_ (fun _ _ d _ _ h => by cases d <;> exact h) (by kernel_rfl) rfl (by kernel_rfl) hn1 (by rfl) (fun W hSw => ?_) ?_
      rotate_left
      · (have hq := HSL.out W hSw); (try simp only [List.getElem_toArray, List.getElem_cons_zero, List.getElem_cons_succ]); go_simp; any_goals (with_reducible rfl)
      simp only [Act.put, List.getElem_toArray, List.getElem_cons_zero, List.getElem_cons_succ, List.setIfInBounds_toArray, List.set_cons_zero, List.set_cons_succ]
      refine headW_take 9 _ ?_ (fun _ _ d _ _ h => by cases d <;> exact h) (by kernel_rfl) rfl (by kernel_rfl) hn1 (by rfl) (fun W hSw => ?_) ?_
      rotate_left
      · (have hq := HSL.out W hSw); (try simp only [List.getElem_toArray, List.getElem_cons_zero, List.getElem_cons_succ]); go_simp; any_goals (with_reducible rfl)
      simp only [Act.put, List.getElem_toArray, List.getElem_cons_zero, List.getElem_cons_succ, List.setIfInBounds_toArray, List.set_cons_zero, List.set_cons_succ]
      refine headW_take 10 _ ?_ (fun _ _ d _ _ h => by cases d <;> exact h) (by kernel_rfl) rfl (by kernel_rfl) hn1 (by rfl) (fun W hSw => ?_) ?_
      rotate_left
      · (have hq := HSL.out W hSw); (try simp only [List.getElem_toArray, List.getElem_cons_zero, List.getElem_cons_succ]); go_simp; any_goals (with_reducible rfl)
      simp only [Act.put, List.getElem_toArray, List.getElem_cons_zero, List.getElem_cons_succ, List.setIfInBounds_toArray, List.set_cons_zero, List.set_cons_succ]
      refine headW_take 11 _ ?_ (fun _ _ d _ _ h => by cases d <;> exact h) (by kernel_rfl) rfl (by kernel_rfl) hn1 (by rfl) (fun W hSw => ?_) ?_
      rotate_left
      · (have hq := HSL.out W hSw); (try simp only [List.getElem_toArray, List.getElem_cons_zero, List.getElem_cons_succ]); go_simp; any_goals (with_reducible rfl)
      simp only [Act.put, List.getElem_toArray, List.getElem_cons_zero, List.getElem_cons_succ, List.setIfInBounds_toArray, List.set_cons_zero, List.set_cons_succ]
      refine headW_take 12 _ ?_ (fun _ _ d _ _ h => by cases d <;> exact h) (by kernel_rfl) rfl (by kernel_rfl) hn1 (by rfl) (fun W hSw => ?_) ?_
      rotate_left
      · (have hq := HSL.out W hSw); (try simp only [List.getElem_toArray, List.getElem_cons_zero, List.getElem_cons_succ]); go_simp; any_goals (with_reducible rfl)
      simp only [Act.put, List.getElem_toArray, List.getElem_cons_zero, List.getElem_cons_succ, List.setIfInBounds_toArray, List.set_cons_zero, List.set_cons_succ]
      refine headW_take 13 _ ?_ (fun _ _ d _ _ h => by cases d <;> exact h) (by kernel_rfl) rfl (by kernel_rfl) hn1 (by rfl) (fun W hSw => ?_) ?_
      rotate_left
      · (have hq := HSL.out W hSw); (try simp only [List.getElem_toArray, List.getElem_cons_zero, List.getElem_cons_succ]); go_simp; any_goals (with_reducible rfl)
      simp only [Act.put, List.getElem_toArray, List.getElem_cons_zero, List.getElem_cons_succ, List.setIfInBounds_toArray, List.set_cons_zero, List.set_cons_succ]
      refine headW_ready [14] (by kernel_rfl) (by rfl) ?_
      refine eachW_step rfl rfl (fun K hK => ?_) eachW_nil
      have hbp := val_behindPath A n c ps ⟨false, ⟨#[]⟩, (k : Int)⟩ wr.drew (HSS.out.new hn1) (by omega)
      unfold St.val at hbp
      simp only at hbp
      (try simp only [List.getElem_toArray, List.getElem_cons_zero, List.getElem_cons_succ])
      go_simp
      refine hbp.mono ?_
      clear hbp
      rintro e w7 ⟨A7, c7, rfl, own7, m7⟩
      have HN7 := Lib.hid (hn1.trans m7)
      have HS7 := Lib.hid own7.sl
      clear own7 m7
      go_wp2_with fail
      refine hK.out _ _ HN7.out (fun _ => ?_)
      clear hK K
      (try simp only [Act.put, List.getElem_toArray, List.getElem_cons_zero, List.getElem_cons_succ, List.setIfInBounds_toArray, List.set_cons_zero, List.set_cons_succ])
      refine headW_done (by kernel_rfl) ?_
      have hih := HIH.out A7 (n + 1) c7 w7 HN7.out HS7.out (by omega)
      clear HIH
      go_wp2_with fail
      refine hih.mono ?_
      clear hih
      intro e w9 hr
      obtain ⟨rfl, A9, n9, c9, hi9⟩ := (HI.out.new HN7.out).next hr
      have HI9 := Lib.hid hi9
      clear hi9 hr
      go_wp2_with fail
      go_roundw
      case rel => exact ⟨k + 1, A9, n9, c9, by omega, by go_num, Lib.hid (by rw [HNX.out]; exact HI9.out)⟩
      case measure => simp [intOf]; omega
    · obtain rfl : m = k := by omega
      have hxx := (HI.out).bx
      have hyy := (HI.out).by_
      have e0 := hxx.cell 0
      have e1 := hxx.cell 1
      have e2 := hxx.cell 2
      have e3 := hxx.cell 3
      have e4 := hxx.cell 4
      have e5 := hxx.cell 5
      have el := hxx.lt
      have f0 := hyy.cell 0
      have f1 := hyy.cell 1
      have f2 := hyy.cell 2
      have f3 := hyy.cell 3
      have f4 := hyy.cell 4
      have f5 := hyy.cell 5
      have fl := hyy.lt
      simp only [List.getElem?_toArray, List.getElem?_cons_zero, List.getElem?_cons_succ] at e0 e1 e2 e3 e4 e5 f0 f1 f2 f3 f4 f5
      clear hxx hyy
      go_wp2_with fail
      clear e0 e1 e2 e3 e4 e5 el f0 f1 f2 f3 f4 f5 fl
      go_loopw [10] (fun i wr => ∃ (k : Nat) (z : Int) (A1 : Option Addr) (n1 c1 : Nat), k ≤ xln - m ∧ z = (xln : Int) - 1 - k ∧ i = .int .i64 z ∧ Hid (DfI w xb #[.int .i64 xk, .bool xf, .int .i64 xn, .string xw, .slice xla xln xlc, .slice xma xmn xmc] #[.int .i64 yk, .bool yf, .int .i64 yn, .string yw, .slice yla yln ylc, .slice yma ymn ymc] B db D A0 (L ++ (bothD d a b ps m ++ takeD xln ps k)) A1 n1 c1 wr)) (fun i _ => (intOf i + 1).toNat)
      case atStart => exact ⟨0, _, _, _, _, Nat.zero_le _, rfl, by go_num, Lib.hid (by rw [show takeD xln ps 0 = [] from rfl, List.append_nil]; exact HI.out)⟩
      clear HI
      case round =>
        rename World => wr
        obtain ⟨k, z, A1, n1, c1, hk, hz, rfl, HI⟩ := hrel
        by_cases hge : (m : Int) ≤ z
        · obtain ⟨j, rfl⟩ : ∃ j : Nat, z = (j : Int) := ⟨z.toNat, by omega⟩
          have HJ : Hid (j = xln - 1 - k) := Lib.hid (by omega)
          have hj9 : j ≤ 1000 := by omega
          have hkm : k < xln - m := by omega
          have HNX : Hid (L ++ (bothD d a b ps m ++ takeD xln ps (k + 1)) = (L ++ (bothD d a b ps m ++ takeD xln ps k)) ++ [⟨3, ps ++ [⟨false, ⟨#[]⟩, (j : Int)⟩], nilV⟩]) := Lib.hid (by
            rw [takeD_next, HJ.out]
            simp only [List.append_assoc])
          have hlen : (L ++ (bothD d a b ps m ++ takeD xln ps k)).length ≤ 500000 := by
            simp only [List.length_append, takeD_len]
            omega
          have HSS := Lib.hid (HKS.out wr HI.out.mod)
          have hbp := val_behindPath A n c ps ⟨false, ⟨#[]⟩, (j : Int)⟩ wr HSS.out (by omega)
          unfold St.val at hbp
          simp only at hbp
          clear hz
          go_wp2_with fail
          refine hbp.mono ?_
          clear hbp
          rintro e w7 ⟨A7, c7, rfl, own7, m7⟩
          have hadd := df_add D 1 3 A7 (n + 1) c7 (ps ++ [⟨false, ⟨#[]⟩, (j : Int)⟩]) nilVA nilV A1 n1 c1 _ B db w7 (HI.out.df.new m7) own7.sl (nil_tree _ _ 0) (wide_nil _ _) (by omega) (by omega) hlen
          have HIN := Lib.hid (HI.out.new m7)
          clear own7 m7
          go_wp2_with fail
          refine hadd.mono ?_
          clear hadd
          intro e w9 hr
          obtain ⟨rfl, A9, n9, c9, hi9⟩ := HIN.out.next hr
          have HI9 := Lib.hid hi9
          clear hi9 hr
          go_wp2_with fail
          go_roundw
          case rel => exact ⟨k + 1, (j : Int) - 1, A9, n9, c9, by omega, by have := HJ.out; omega, by go_num, Lib.hid (by rw [HNX.out]; exact HI9.out)⟩
          case measure => first | (simp [intOf]; done) | (simp [intOf]; omega)
        · have HK : Hid (k = xln - m) := Lib.hid (by omega)
          rw [HK.out] at HI
          clear HK hz hk
          have hxx := (HI.out).bx
          have hyy := (HI.out).by_
          have e0 := hxx.cell 0
          have e1 := hxx.cell 1
          have e2 := hxx.cell 2
          have e3 := hxx.cell 3
          have e4 := hxx.cell 4
          have e5 := hxx.cell 5
          have el := hxx.lt
          have f0 := hyy.cell 0
          have f1 := hyy.cell 1
          have f2 := hyy.cell 2
          have f3 := hyy.cell 3
          have f4 := hyy.cell 4
          have f5 := hyy.cell 5
          have fl := hyy.lt
          simp only [List.getElem?_toArray, List.getElem?_cons_zero, List.getElem?_cons_succ] at e0 e1 e2 e3 e4 e5 f0 f1 f2 f3 f4 f5
          clear hxx hyy
          go_wp2_with fail
          clear e0 e1 e2 e3 e4 e5 el f0 f1 f2 f3 f4 f5 fl
          go_loopw [11] (fun i wr => ∃ (k : Nat) (A1 : Option Addr) (n1 c1 : Nat), m + k ≤ yln ∧ i = .int .i64 ((m + k : Nat) : Int) ∧ Hid (DfI w xb #[.int .i64 xk, .bool xf, .int .i64 xn, .string xw, .slice xla xln xlc, .slice xma xmn xmc] #[.int .i64 yk, .bool yf, .int .i64 yn, .string yw, .slice yla yln ylc, .slice yma ymn ymc] B db D A0 (L ++ (bothD d a b ps m ++ takeD xln ps (xln - m) ++ putD xln b.list ps k)) A1 n1 c1 wr)) (fun i _ => yln - (intOf i).toNat)
          case atStart => exact ⟨0, _, _, _, hmy, rfl, Lib.hid (by rw [show putD xln b.list ps 0 = [] from rfl, List.append_nil]; exact HI.out)⟩
          clear HI
          case round =>
            rename World => wr
            obtain ⟨k, A1, n1, c1, hk, rfl, HI⟩ := hrel
            obtain ⟨j, hj⟩ : ∃ j, m + k = j := ⟨_, rfl⟩
            rw [hj] at hk ⊢
            have HJ := Lib.hid hj
            clear hj
            by_cases hlt : j < yln
            · have hkx : j < ys.length := by have := HL3.out.1; omega
              have hka : j < b.list.length := by have := HG5.out; omega
              have HJX : Hid (m = xln) := Lib.hid (by have := HMM.out; have := HJ.out; omega)
              obtain ⟨g3, o3, hA3, htb3, hc3⟩ := (HKV.out wr _ _ _ HI.out.mod HL3.out).sl.2 (by omega)
              subst hA3
              have HC3 : Hid (∀ W, New wr W → ∀ q, q < 6 → W.cell? ⟨g3, o3 + j * 6 + q, none⟩ = some (VA.enc ys[j] q)) := Lib.hid (fun W h q hq => (h.cell (p := ⟨g3, o3 + j * 6 + q, none⟩) htb3.lt (fun e => e)).trans (hc3 j hkx q hq))
              have HG2 : Hid (∀ W, New wr W → g3 < W.heap.size) := Lib.hid (fun W h => Nat.lt_of_lt_of_le htb3.lt h.size)
              have ht1 := HL4.out.get j hkx hka
              have HNX : Hid (L ++ (bothD d a b ps m ++ takeD xln ps (xln - m) ++ putD xln b.list ps (k + 1)) = (L ++ (bothD d a b ps m ++ takeD xln ps (xln - m) ++ putD xln b.list ps k)) ++ [⟨1, ps ++ [⟨false, ⟨#[]⟩, (j : Int)⟩], b.list[j]⟩]) := Lib.hid (by
                have e : xln + k = j := by have := HJX.out; have := HJ.out; omega
                rw [putD_next xln ps (k := k) (by omega)]
                simp only [e, List.append_assoc])
              have hlen : (L ++ (bothD d a b ps m ++ takeD xln ps (xln - m) ++ putD xln b.list ps k)).length ≤ 500000 := by
                have := HJ.out
                simp only [List.length_append, takeD_len, putD_len]
                omega
              have HADD := Lib.hid (fun A2 n2 c2 W (h : New wr W) hss hnn => df_add D d 1 A2 n2 c2 (ps ++ [⟨false, ⟨#[]⟩, (j : Int)⟩]) ys[j] b.list[j] A1 n1 c1 _ B db W (HI.out.df.new h) hss ((HKT.out wr _ _ _ HI.out.mod ht1).new h) (HFB.out.item hka).2 (by omega) hnn hlen)
              have HSS := Lib.hid (HKS.out wr HI.out.mod)
              have HB2 := Lib.hid HI.out.by_
              clear hc3 ht1 hlen htb3
              generalize ys[j] = u at *
              obtain ⟨uk, uf, un, uw, ula, uln, ulc, uma, umn, umc⟩ := u
              have HSL : Hid (∀ W, New wr W → W.cell? ⟨xb + 1, 4, none⟩ = some (.slice (some ⟨g3, o3, none⟩) yln ylc) ∧
                W.cell? ⟨g3, o3 + j * 6, none⟩ = some (.int .i64 uk) ∧ W.cell? ⟨g3, o3 + j * 6 + 1, none⟩ = some (.bool uf) ∧ W.cell? ⟨g3, o3 + j * 6 + 2, none⟩ = some (.int .i64 un) ∧ W.cell? ⟨g3, o3 + j * 6 + 3, none⟩ = some (.string uw) ∧ W.cell? ⟨g3, o3 + j * 6 + 4, none⟩ = some (.slice ula uln ulc) ∧ W.cell? ⟨g3, o3 + j * 6 + 5, none⟩ = some (.slice uma umn umc) ∧
                xb + 1 < W.heap.size ∧ g3 < W.heap.size) := Lib.hid (fun W hW => by
                have h2 := HB2.out.mod hW (fun e => e)
                have h4 := HC3.out W hW
                exact ⟨(h2.cell 4).trans rfl, h4 0 (by omega), h4 1 (by omega), h4 2 (by omega), h4 3 (by omega), h4 4 (by omega), h4 5 (by omega), h2.lt, HG2.out W hW⟩)
              have hb1 : (j : Int) < yln := by omega
              have hb2 : (0 : Int) ≤ j := by omega
              have hb5 : j ≤ 1000 := by omega
              have f4 := (HSL.out wr (Mod.refl _ _)).1
              have fl := (HSL.out wr (Mod.refl _ _)).2.2.2.2.2.2.2.1
              clear HC3 HG2 HB2
              go_upto_region 14 with (fail)
              clear f4 fl
              refine wp_region_held_tree (New wr) 10 (by kernel_rfl) (by kernel_rfl) ?_
              have hn1 : New wr wr.drew := (Mod.refl _ _).drew
              refine headW_take 0 _ ?_ (fun _ _ d _ _ h => by cases d <;> exact h) (by kernel_rfl) rfl (by kernel_rfl) hn1 (by rfl) (fun W hSw => ?_) ?_
              rotate_left
              · (have hq := HSL.out W hSw); (try simp only [List.getElem_toArray, List.getElem_cons_zero, List.getElem_cons_succ]); go_simp; any_goals (with_reducible rfl)
              simp only [Act.put, List.getElem_toArray, List.getElem_cons_zero, List.getElem_cons_succ, List.setIfInBounds_toArray, List.set_cons_zero, List.set_cons_succ]
              refine headW_take 1 _ ?_ (fun _ _ d _ _ h => by cases d <;> exact h) (by kernel_rfl) rfl (by kernel_rfl) hn1 (by rfl) (fun W hSw => ?_) ?_
              rotate_left
              · (have hq := HSL.out W hSw); (try simp only [List.getElem_toArray, List.getElem_cons_zero, List.getElem_cons_succ]); go_simp; any_goals (with_reducible rfl)
              simp only [Act.put, List.getElem_toArray, List.getElem_cons_zero, List.getElem_cons_succ, List.setIfInBounds_toArray, List.set_cons_zero, List.set_cons_succ]
              refine headW_take 2 _ ?_ (fun _ _ d _ _ h => by cases d <;> exact h) (by kernel_rfl) rfl (by kernel_rfl) hn1 (by rfl) (fun W hSw => ?_) ?_
              rotate_left
              · (have hq := HSL.out W hSw); (try simp only [List.getElem_toArray, List.getElem_cons_zero, List.getElem_cons_succ]); go_simp; any_goals (with_reducible rfl)
              simp only [Act.put, List.getElem_toArray, List.getElem_cons_zero, List.getElem_cons_succ, List.setIfInBounds_toArray, List.set_cons_zero, List.set_cons_succ]
              refine headW_take 3 _ ?_ (fun _ _ d _ _ h => by cases d <;> exact h) (by kernel_rfl) rfl (by kernel_rfl) hn1 (by rfl) (fun W hSw => ?_) ?_
              rotate_left
              · (have hq := HSL.out W hSw); (try simp only [List.getElem_toArray, List.getElem_cons_zero, List.getElem_cons_succ]); go_simp; any_goals (with_reducible rfl)
              simp only [Act.put, List.getElem_toArray, List.getElem_cons_zero, List.getElem_cons_succ, List.setIfInBounds_toArray, List.set_cons_zero, List.set_cons_succ]
              refine headW_take 5 _ ?_ (fun _ _ d _ _ h => by cases d <;> exact h) (by kernel_rfl) rfl (by kernel_rfl) hn1 (by rfl) (fun W hSw => ?_) ?_
              rotate_left
              · (have hq := HSL.out W hSw); (try simp only [List.getElem_toArray, List.getElem_cons_zero, List.getElem_cons_succ]); go_simp; any_goals (with_reducible rfl)
              simp only [Act.put, List.getElem_toArray, List.getElem_cons_zero, List.getElem_cons_succ, List.setIfInBounds_toArray, List.set_cons_zero, List.set_cons_succ]
              refine headW_take 6 _ ?_ (fun _ _ d _ _ h => by cases d <;> exact h) (by kernel_rfl) rfl (by kernel_rfl) hn1 (by rfl) (fun W hSw => ?_) ?_
              rotate_left
              · (have hq := HSL.out W hSw); (try simp only [List.getElem_toArray, List.getElem_cons_zero, List.getElem_cons_succ]); go_simp; any_goals (with_reducible rfl)
              simp only [Act.put, List.getElem_toArray, List.getElem_cons_zero, List.getElem_cons_succ, List.setIfInBounds_toArray, List.set_cons_zero, List.set_cons_succ]
              refine headW_take 7 _ ?_ (fun _ _ d _ _ h => by cases d <;> exact h) (by kernel_rfl) rfl (by kernel_rfl) hn1 (by rfl) (fun W hSw => ?_) ?_
              rotate_left
              · (have hq := HSL.out W hSw); (try simp only [List.getElem_toArray, List.getElem_cons_zero, List.getElem_cons_succ]); go_simp; any_goals (with_reducible rfl)
              simp only [Act.put, List.getElem_toArray, List.getElem_cons_zero, List.getElem_cons_succ, List.setIfInBounds_toArray, List.set_cons_zero, List.set_cons_succ]
              refine headW_take 8 _ ?_ (fun _ _ d _ _ h => by cases d <;> exact h) (by kernel_rfl) rfl (by kernel_rfl) hn1 (by rfl) (fun W hSw => ?_) ?_
              rotate_left
              · (have hq := HSL.out W hSw); (try simp only [List.getElem_toArray, List.getElem_cons_zero, List.getElem_cons_succ]); go_simp; any_goals (with_reducible rfl)
              simp only [Act.put, List.getElem_toArray, List.getElem_cons_zero, List.getElem_cons_succ, List.setIfInBounds_toArray, List.set_cons_zero, List.set_cons_succ]
              refine headW_take 9 _ ?_ (fun _ _ d _ _ h => by cases d <;> exact h) (by kernel_rfl) rfl (by kernel_rfl) hn1 (by rfl) (fun W hSw => ?_) ?_
              rotate_left
              · (have hq := HSL.out W hSw); (try simp only [List.getElem_toArray, List.getElem_cons_zero, List.getElem_cons_succ]); go_simp; any_goals (with_reducible rfl)
              simp only [Act.put, List.getElem_toArray, List.getElem_cons_zero, List.getElem_cons_succ, List.setIfInBounds_toArray, List.set_cons_zero, List.set_cons_succ]
              refine headW_ready [4] (by kernel_rfl) (by rfl) ?_
              refine eachW_step rfl rfl (fun K hK => ?_) eachW_nil
              have hbp := val_behindPath A n c ps ⟨false, ⟨#[]⟩, (j : Int)⟩ wr.drew (HSS.out.new hn1) (by omega)
              unfold St.val at hbp
              simp only at hbp
              (try simp only [List.getElem_toArray, List.getElem_cons_zero, List.getElem_cons_succ])
              go_simp
              refine hbp.mono ?_
              clear hbp
              rintro e w7 ⟨A7, c7, rfl, own7, m7⟩
              have HN7 := Lib.hid (hn1.trans m7)
              have HS7 := Lib.hid own7.sl
              clear own7 m7
              go_wp2_with fail
              refine hK.out _ _ HN7.out (fun _ => ?_)
              clear hK K
              (try simp only [Act.put, List.getElem_toArray, List.getElem_cons_zero, List.getElem_cons_succ, List.setIfInBounds_toArray, List.set_cons_zero, List.set_cons_succ])
              refine headW_done (by kernel_rfl) ?_
              have hadd := HADD.out A7 (n + 1) c7 w7 HN7.out HS7.out (by omega)
              clear HADD
              go_wp2_with fail
              refine hadd.mono ?_
              clear hadd
              intro e w9 hr
              obtain ⟨rfl, A9, n9, c9, hi9⟩ := (HI.out.new HN7.out).next hr
              have HI9 := Lib.hid hi9
              clear hi9 hr
              go_wp2_with fail
              go_roundw
              case rel => exact ⟨k + 1, A9, n9, c9, by have := HJ.out; omega, by rw [show m + (k + 1) = j + 1 by have := HJ.out; omega]; go_num, Lib.hid (by rw [HNX.out]; exact HI9.out)⟩
              case measure => simp [intOf]; omega
            · have HK : Hid (k = yln - m) := Lib.hid (by have := HJ.out; omega)
              rw [HK.out] at HI
              have hjj : ¬ (j : Int) < yln := by omega
              clear HK hlt
              have hxx := (HI.out).bx
              have hyy := (HI.out).by_
              have e0 := hxx.cell 0
              have e1 := hxx.cell 1
              have e2 := hxx.cell 2
              have e3 := hxx.cell 3
              have e4 := hxx.cell 4
              have e5 := hxx.cell 5
              have el := hxx.lt
              have f0 := hyy.cell 0
              have f1 := hyy.cell 1
              have f2 := hyy.cell 2
              have f3 := hyy.cell 3
              have f4 := hyy.cell 4
              have f5 := hyy.cell 5
              have fl := hyy.lt
              simp only [List.getElem?_toArray, List.getElem?_cons_zero, List.getElem?_cons_succ] at e0 e1 e2 e3 e4 e5 f0 f1 f2 f3 f4 f5
              clear hxx hyy
              go_wp2_with fail
              clear e0 e1 e2 e3 e4 e5 el f0 f1 f2 f3 f4 f5 fl
              go_end0
              exact ⟨rfl, A1, n1, c1, (by have h := HI.out.df; simp only [List.append_assoc] at h ⊢; exact h), HI.out.mod, HI.out.far⟩
end Go.Proofs.YtjfgfkbgbhbhjaaGreatDoor
