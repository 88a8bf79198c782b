/- The program's verdict over all limits of one subject. Conditions: limits and ask were checked, counters with modest numbers. -/
import Derived.Test.YtinnckbffblecaaGreatCtr3
namespace Go.Proofs.YtinnckbffblecaaGreat
open Go.RowKit
set_option linter.unusedVariables false
set_option linter.unusedSimpArgs false


theorem limit_greatest (l : Lim) (w : World) : Calls Tryz.prog 87 #[l.val] w fun e w' => e = .returned (.int .i64 (greatest l)) ∧ New w w' := by
  obtain ⟨key, kind, most, per, burst⟩ := l
  simp only [Lim.val]
  by_cases h : kind = 3
  · subst h
    go_enter Tryz.func87, Tryz.ntmps87
    go_wp2_with fail
    go_ret
    exact ⟨rfl, (by with_reducible (repeat (first | exact Mod.refl _ _ | refine Mod.drewN ?_ _ | refine Mod.drew ?_ | refine Mod.alloc ?_ _)))⟩
  · have h' : (kind == 3) = false := by simpa using h
    go_enter Tryz.func87, Tryz.ntmps87
    go_wp2_with fail
    go_ret
    exact ⟨ret_int (by unfold greatest; rw [if_neg h]), (by with_reducible (repeat (first | exact Mod.refl _ _ | refine Mod.drewN ?_ _ | refine Mod.drew ?_ | refine Mod.alloc ?_ _)))⟩

def Vd.cells (v : Vd) : Array Value := #[.bool v.ok, .string v.by_, .int .i64 v.wait]
def Vd.val (v : Vd) : Value := .agg #[.bool v.ok, .string v.by_, .int .i64 v.wait]

/-- the counters of one subject, in the order of the limits, each in blocks of its own -/
structure CtrsAt (w : World) (B : Nat) (ls : List Lim) (ds : List CtrD) : Prop where
  len : ds.length = ls.length
  each : ∀ i (h1 : i < ls.length) (h2 : i < ds.length), ds[i].At w B ls[i]
  apart : ∀ i j (hi : i < ds.length) (hj : j < ds.length), i ≠ j → ∀ x, ds[i].F x → ¬ ds[j].F x
theorem CtrsAt.mod {S : Nat → Prop} {w w' : World} {B : Nat} {ls : List Lim} {ds : List CtrD} (h : CtrsAt w B ls ds) (hm : Mod S w w') (hs : ∀ d ∈ ds, ∀ x, d.F x → ¬ S x) : CtrsAt w' B ls ds :=
  ⟨h.len, fun i h1 h2 => (h.each i h1 h2).mod hm (hs _ (List.getElem_mem h2)), h.apart⟩
theorem CtrsAt.new {w w' : World} {B : Nat} {ls : List Lim} {ds : List CtrD} (h : CtrsAt w B ls ds) (hm : New w w') : CtrsAt w' B ls ds := h.mod hm (fun _ _ _ _ e => e)
theorem Blk.new'' {w w' : World} {g : Nat} {t : TypeId} {cs : Array Value} (h : Blk w g t cs) (hm : New w w') : Blk w' g t cs := h.mod hm (fun e => e)
def CtrsOk (ls : List Lim) (τ : Int) (k : Nat) (ds : List CtrD) : Prop := ∀ i (h1 : i < ls.length) (h2 : i < ds.length), CtrOk ls[i] τ k ds[i].c
abbrev CtrSl (w : World) (A : Option Addr) (n : Nat) (ds : List CtrD) : Prop := Sl w 118 1 valEnc A n (ds.map CtrD.val)

set_option maxRecDepth 100000 in
set_option maxHeartbeats 2000000 in
theorem meter_verdict (gm B : Nat) (Al A : Option Addr) (n cl c : Nat) (v1 v2 : Value) (ls : List Lim) (ds : List CtrD) (τ : Int) (k : Nat) (a : AskD) (w : World)
    (hb : Blk w gm 113 #[.slice Al n cl, v1, v2]) (hl : LimRows w Al n ls) (hsl : CtrSl w A n ds) (hds : CtrsAt w B ls ds) (hok : CtrsOk ls τ k ds) (hk : k ≤ 1000000) (hR : ∀ l ∈ ls, RLim' l) (ha : RAskD a) (hτ : τ ≤ a.at_) (hn : n ≤ 1000) :
    Calls Tryz.prog 70 #[.pointer (some ⟨gm, 0, none⟩), .slice A n c, a.val] w fun e w' => e = .returned (verdC ls (ds.map CtrD.c) a vd0).val ∧ New w w' := by
  have hlen := hl.1
  have hdl := hds.len
  obtain ⟨at_, who, cost, long⟩ := a
  obtain ⟨⟨a1, a2⟩, ⟨a3, a4⟩, -⟩ := ha
  simp only at a1 a2 a3 a4 hτ
  simp only [AskD.val]
  have HB := Lib.hid hb
  have HL := Lib.hid hl
  have HSL := Lib.hid hsl
  have HDS := Lib.hid hds
  have HOK := Lib.hid hok
  have HR := Lib.hid hR
  have HLEN := Lib.hid hlen
  have HDL := Lib.hid hdl
  clear hb hl hsl hds hok hR hlen hdl
  go_enter Tryz.func70, Tryz.ntmps70
  go_wp2_with fail
  have hN : New w (((w.alloc (.cells #[.int .i64 at_, .string who, .int .i64 cost, .int .i64 long] 70)).alloc (.cells #[.bool false, .string ⟨#[]⟩, .int .i64 0] 57)).alloc (.cells #[.bool true, .string ⟨#[]⟩, .int .i64 0] 57)) := (by with_reducible (repeat (first | exact Mod.refl _ _ | refine Mod.drewN ?_ _ | refine Mod.drew ?_ | refine Mod.alloc ?_ _)))
  have b0 : Blk (((w.alloc (.cells #[.int .i64 at_, .string who, .int .i64 cost, .int .i64 long] 70)).alloc (.cells #[.bool false, .string ⟨#[]⟩, .int .i64 0] 57)).alloc (.cells #[.bool true, .string ⟨#[]⟩, .int .i64 0] 57)) w.heap.size 70 #[.int .i64 at_, .string who, .int .i64 cost, .int .i64 long] := ((Blk.new _ _ _).mod ((Mod.refl (fun _ => False) _).alloc _) (fun h => h)).mod ((Mod.refl (fun _ => False) _).alloc _) (fun h => h)
  have b1 : Blk (((w.alloc (.cells #[.int .i64 at_, .string who, .int .i64 cost, .int .i64 long] 70)).alloc (.cells #[.bool false, .string ⟨#[]⟩, .int .i64 0] 57)).alloc (.cells #[.bool true, .string ⟨#[]⟩, .int .i64 0] 57)) (w.heap.size + 1) 57 #[.bool false, .string ⟨#[]⟩, .int .i64 0] := (Blk.new' _ _ (by simp)).mod ((Mod.refl (fun _ => False) _).alloc _) (fun h => h)
  have b2 : Blk (((w.alloc (.cells #[.int .i64 at_, .string who, .int .i64 cost, .int .i64 long] 70)).alloc (.cells #[.bool false, .string ⟨#[]⟩, .int .i64 0] 57)).alloc (.cells #[.bool true, .string ⟨#[]⟩, .int .i64 0] 57)) (w.heap.size + 1 + 1) 57 #[.bool true, .string ⟨#[]⟩, .int .i64 0] := Blk.new' _ _ (by simp)
  have hz0 : w.heap.size ≤ w.heap.size := Nat.le_refl _
  generalize ((w.alloc (.cells #[.int .i64 at_, .string who, .int .i64 cost, .int .i64 long] 70)).alloc (.cells #[.bool false, .string ⟨#[]⟩, .int .i64 0] 57)).alloc (.cells #[.bool true, .string ⟨#[]⟩, .int .i64 0] 57) = W at *
  have hx1 : w.heap.size + 1 ≠ w.heap.size + 1 + 1 := by omega
  have hx0 : w.heap.size ≠ w.heap.size + 1 + 1 := by omega
  have hxw : ∀ x, x < w.heap.size → x ≠ w.heap.size + 1 + 1 := fun x hx => by omega
  have hxz : w.heap.size ≤ w.heap.size + 1 + 1 := by omega
  have HN := Lib.hid hN
  have HB0 := Lib.hid b0
  have HB1 := Lib.hid b1
  have HB2 := Lib.hid b2
  have HXW := Lib.hid hxw
  clear hN b0 b1 b2 hxw hz0
  go_loopw [8, 9, 10, 14] (fun _ _ _ i wr => ∃ (j : Nat) (v : Vd), j ≤ n ∧ i = .int .i64 j ∧ Hid (Only (w.heap.size + 1 + 1) W wr) ∧ Hid (Blk wr (w.heap.size + 1 + 1) 57 v.cells) ∧ Hid (verdC ls (ds.map CtrD.c) ⟨at_, who, cost, long⟩ vd0 = verdC (ls.drop j) ((ds.map CtrD.c).drop j) ⟨at_, who, cost, long⟩ v)) (fun _ _ _ i _ => n - (intOf i).toNat)
  case atStart => exact ⟨0, vd0, Nat.zero_le _, rfl, Lib.hid (Mod.refl _ _), HB2, Lib.hid rfl⟩
  case round =>
    rename World => wr
    obtain ⟨j, v, hj, rfl, HM, HV, HE⟩ := hrel
    by_cases hlt : j < n
    · have hjl : j < ls.length := by have := HLEN.out; omega
      have hjd : j < ds.length := by have := HDL.out; omega
      obtain ⟨g2, o2, hA, ht2, hc2⟩ := ((HSL.out.new HN.out).mod HM.out (fun g htb e => htb.ne HB2.out.tb (by decide) e)).2 (by omega)
      have d0 := hc2 j (by simpa using hjd) 0 (by omega)
      simp only [List.getElem_map, Nat.add_zero, Nat.mul_one, valEnc] at d0
      subst hA
      have hat := HDS.out.each j hjl hjd
      have hck := HOK.out j hjl hjd
      have hrl := HR.out ls[j] (List.getElem_mem _)
      have hatr : ds[j].At wr B ls[j] := (hat.new HN.out).mod HM.out (fun x hx e => HXW.out x (hat.lt x hx) e)
      have hstep := verdC_drop (ls := ls) (cs := ds.map CtrD.c) (k := j) hjl (by simpa using hjd) ⟨at_, who, cost, long⟩ v
      simp only [List.getElem_map] at hstep
      have HST := Lib.hid (HE.out.trans hstep)
      obtain ⟨gl, ol, hAl, htl, hcl⟩ := ((HL.out.new HN.out).mod HM.out (fun g htb e => htb.ne HB2.out.tb (by decide) e)).2 (by omega)
      subst hAl
      have l0 := hcl j hjl 0 (by omega)
      have l1 := hcl j hjl 1 (by omega)
      have l2 := hcl j hjl 2 (by omega)
      have l3 := hcl j hjl 3 (by omega)
      have l4 := hcl j hjl 4 (by omega)
      simp only [Lim.enc, Nat.add_zero] at l0 l1 l2 l3 l4
      have hm0 := ((HB.out.new'' HN.out).mod HM.out (fun e => by have := HXW.out gm HB.out.lt; omega)).cell 0
      have hgml : gm < wr.heap.size := by have := HB.out.lt; have := HN.out.size; have := HM.out.size; omega
      simp at hm0
      have hbr := HB0.out.mod HM.out hx0
      have x0 := hbr.cell 0
      have x2 := hbr.cell 2
      simp at x0 x2
      have hbxl := hbr.lt
      have hgl2 := ht2.lt
      have hgll := htl.lt
      have hb1 : (0 : Int) ≤ j := by omega
      have hb2 : (j : Int) < n := by omega
      clear hc2 hcl hstep hat
      generalize ds[j] = d at *
      generalize ls[j] = l at *
      obtain ⟨fm, mm, hmost⟩ := ctr_most l d wr B hatr hrl (t := at_) hck hk hτ a1 (by omega)
      obtain ⟨mm1, mm2, mm3⟩ := mm
      have HMO := Lib.hid hmost
      have HAT := Lib.hid hatr
      have HCK := Lib.hid hck
      have HRL := Lib.hid hrl
      simp only [CtrD.val] at d0
      clear hmost hatr hck hrl
      go_wp2_with fail
      refine wp_region_held_ord (fun w' => w'.cell? ⟨w.heap.size, 0, none⟩ = some (.int .i64 at_) ∧ w'.cell? ⟨w.heap.size, 2, none⟩ = some (.int .i64 cost) ∧ w.heap.size < w'.heap.size) [5] [0, 1, 2, 3, 4, 5] (by kernel_rfl) (by kernel_rfl) (fun _ _ d _ _ h => by cases d <;> exact h) ?_ (fun hHeld => ?_)
      · exact ⟨x0, x2, hbxl⟩
      simp only [List.length_cons, List.length_nil, List.drop_succ_cons, List.drop_zero]
      refine heldO_take ?_ (by rfl) (by rfl) (by rfl) (fun w hSw => ?_) ?_
      rotate_left
      · (try dsimp only at hSw); go_simp; any_goals (with_reducible rfl)
      simp only [Act.put, List.setIfInBounds_toArray, List.set_cons_zero, List.set_cons_succ]
      refine heldO_take ?_ (by rfl) (by rfl) (by rfl) (fun w hSw => ?_) ?_
      rotate_left
      · (try dsimp only at hSw); go_simp; any_goals (with_reducible rfl)
      simp only [Act.put, List.setIfInBounds_toArray, List.set_cons_zero, List.set_cons_succ]
      refine heldO_take ?_ (by rfl) (by rfl) (by rfl) (fun w hSw => ?_) ?_
      rotate_left
      · (try dsimp only at hSw); go_simp; any_goals (with_reducible rfl)
      simp only [Act.put, List.setIfInBounds_toArray, List.set_cons_zero, List.set_cons_succ]
      refine heldO_take ?_ (by rfl) (by rfl) (by rfl) (fun w hSw => ?_) ?_
      rotate_left
      · (try dsimp only at hSw); go_simp; any_goals (with_reducible rfl)
      simp only [Act.put, List.setIfInBounds_toArray, List.set_cons_zero, List.set_cons_succ]
      refine heldO_take ?_ (by rfl) (by rfl) (by rfl) (fun w hSw => ?_) ?_
      rotate_left
      · (try dsimp only at hSw); go_simp; any_goals (with_reducible rfl)
      simp only [Act.put, List.setIfInBounds_toArray, List.set_cons_zero, List.set_cons_succ]
      have hcall := HMO.out (wr.drewN 1) ((Mod.refl _ wr).drewN 1)
      refine heldO_step (by rfl) (by rfl) (by rfl) (fun K hK => ?_)
      go_simp
      refine hcall.mono ?_
      clear hcall
      rintro e w2 ⟨rfl, hm2⟩
      have hm12 : New wr w2 := ((Mod.refl _ wr).drewN 1).trans hm2
      have k0 := (hm12.cell (p := ⟨w.heap.size, 0, none⟩) hbxl (fun e => e)).trans x0
      have k2 := (hm12.cell (p := ⟨w.heap.size, 2, none⟩) hbxl (fun e => e)).trans x2
      have kl : w.heap.size < w2.heap.size := by have := hm12.size; omega
      clear mm1 mm2 mm3
      go_wp2_with fail
      refine hK.out _ _ ⟨k0, k2, kl⟩ (fun hHeld => ?_)
      clear hK K
      try simp only [Act.put, List.setIfInBounds_toArray, List.set_cons_zero, List.set_cons_succ]
      refine heldO_nil ?_
      clear x0 x2 hbxl hHeld
      by_cases hle : cost ≤ mostC l d.c at_
      · have hd : decide (cost ≤ mostC l d.c at_) = true := by simpa using hle
        have hst : stepC l d.c ⟨at_, who, cost, long⟩ v = v := by unfold stepC; rw [if_pos hle]
        rw [hst] at HST
        clear hst
        generalize mostC l d.c at_ = M at *
        obtain ⟨ok, by_, wt⟩ := v
        go_wp2_with fail
        refine ⟨⟨j + 1, ⟨ok, by_, wt⟩, by omega, by go_num, Lib.hid (HM.out.step hm12 (fun _ _ e => e.elim)), Lib.hid (HV.out.mod hm12 (fun e => e)), Lib.hid ?_⟩, by simp [intOf]; omega⟩
        exact HST.out
      · have hd : decide (cost ≤ mostC l d.c at_) = false := by simpa using hle
        have hwait := fun hg => ctr_wait l d wr B HAT.out HRL.out (t := at_) (cost := cost) HCK.out hk hτ a1 (by omega) a3 hg hle
        have hst : stepC l d.c ⟨at_, who, cost, long⟩ v = if v.ok = true ∨ (v.wait ≠ -1 ∧ ((if cost ≤ greatest l then waitC l d.c at_ cost else -1) = -1 ∨ v.wait < (if cost ≤ greatest l then waitC l d.c at_ cost else -1))) then ⟨false, l.key, if cost ≤ greatest l then waitC l d.c at_ cost else -1⟩ else v := by unfold stepC; rw [if_neg hle]
        rw [hst] at HST
        have HW := Lib.hid hwait
        clear hst hwait hle
        generalize mostC l d.c at_ = M at *
        obtain ⟨ok, by_, wt⟩ := v
        simp only at HST
        have hm0 := (hm12.cell (p := ⟨gm, 0, none⟩) hgml (fun e => e)).trans hm0
        have l0 := (hm12.cell (p := ⟨gl, ol + j * 5, none⟩) hgll (fun e => e)).trans l0
        have l1 := (hm12.cell (p := ⟨gl, ol + j * 5 + 1, none⟩) hgll (fun e => e)).trans l1
        have l2 := (hm12.cell (p := ⟨gl, ol + j * 5 + 2, none⟩) hgll (fun e => e)).trans l2
        have l3 := (hm12.cell (p := ⟨gl, ol + j * 5 + 3, none⟩) hgll (fun e => e)).trans l3
        have l4 := (hm12.cell (p := ⟨gl, ol + j * 5 + 4, none⟩) hgll (fun e => e)).trans l4
        have hgml2 : gm < w2.heap.size := by have := hm12.size; omega
        have hgll2 : gl < w2.heap.size := by have := hm12.size; omega
        have y0 := (HV.out.mod hm12 (fun e => e)).cell 0
        have y2 := (HV.out.mod hm12 (fun e => e)).cell 2
        simp [Vd.cells] at y0 y2
        go_wp2_with fail
        refine wp_region_held_ord (fun w' => w'.cell? ⟨w.heap.size, 2, none⟩ = some (.int .i64 cost) ∧ w'.cell? ⟨gm, 0, none⟩ = some (.slice (some ⟨gl, ol, none⟩) n cl) ∧ w'.cell? ⟨gl, ol + j * 5, none⟩ = some (.string l.key) ∧ w'.cell? ⟨gl, ol + j * 5 + 1, none⟩ = some (.int .i64 l.kind) ∧ w'.cell? ⟨gl, ol + j * 5 + 2, none⟩ = some (.int .i64 l.most) ∧ w'.cell? ⟨gl, ol + j * 5 + 3, none⟩ = some (.int .i64 l.per) ∧ w'.cell? ⟨gl, ol + j * 5 + 4, none⟩ = some (.int .i64 l.burst) ∧ gm < w'.heap.size ∧ gl < w'.heap.size) [9] [0, 1, 2, 3, 4, 5, 6, 7, 8, 9] (by kernel_rfl) (by kernel_rfl) (fun _ _ d _ _ h => by cases d <;> exact h) ?_ (fun hHeld => ?_)
        · exact ⟨k2, hm0, l0, l1, l2, l3, l4, hgml2, hgll2⟩
        simp only [List.length_cons, List.length_nil, List.drop_succ_cons, List.drop_zero]
        refine heldO_take ?_ (by rfl) (by rfl) (by rfl) (fun w hSw => ?_) ?_
        rotate_left
        · (try dsimp only at hSw); go_simp; any_goals (with_reducible rfl)
        simp only [Act.put, List.setIfInBounds_toArray, List.set_cons_zero, List.set_cons_succ]
        refine heldO_take ?_ (by rfl) (by rfl) (by rfl) (fun w hSw => ?_) ?_
        rotate_left
        · (try dsimp only at hSw); go_simp; any_goals (with_reducible rfl)
        simp only [Act.put, List.setIfInBounds_toArray, List.set_cons_zero, List.set_cons_succ]
        refine heldO_take ?_ (by rfl) (by rfl) (by rfl) (fun w hSw => ?_) ?_
        rotate_left
        · (try dsimp only at hSw); go_simp; any_goals (with_reducible rfl)
        simp only [Act.put, List.setIfInBounds_toArray, List.set_cons_zero, List.set_cons_succ]
        refine heldO_take ?_ (by rfl) (by rfl) (by rfl) (fun w hSw => ?_) ?_
        rotate_left
        · (try dsimp only at hSw); go_simp; any_goals (with_reducible rfl)
        simp only [Act.put, List.setIfInBounds_toArray, List.set_cons_zero, List.set_cons_succ]
        refine heldO_take ?_ (by rfl) (by rfl) (by rfl) (fun w hSw => ?_) ?_
        rotate_left
        · (try dsimp only at hSw); go_simp; any_goals (with_reducible rfl)
        simp only [Act.put, List.setIfInBounds_toArray, List.set_cons_zero, List.set_cons_succ]
        refine heldO_take ?_ (by rfl) (by rfl) (by rfl) (fun w hSw => ?_) ?_
        rotate_left
        · (try dsimp only at hSw); go_simp; any_goals (with_reducible rfl)
        simp only [Act.put, List.setIfInBounds_toArray, List.set_cons_zero, List.set_cons_succ]
        refine heldO_take ?_ (by rfl) (by rfl) (by rfl) (fun w hSw => ?_) ?_
        rotate_left
        · (try dsimp only at hSw); go_simp; any_goals (with_reducible rfl)
        simp only [Act.put, List.setIfInBounds_toArray, List.set_cons_zero, List.set_cons_succ]
        refine heldO_take ?_ (by rfl) (by rfl) (by rfl) (fun w hSw => ?_) ?_
        rotate_left
        · (try dsimp only at hSw); go_simp; any_goals (with_reducible rfl)
        simp only [Act.put, List.setIfInBounds_toArray, List.set_cons_zero, List.set_cons_succ]
        refine heldO_take ?_ (by rfl) (by rfl) (by rfl) (fun w hSw => ?_) ?_
        rotate_left
        · (try dsimp only at hSw); go_simp; any_goals (with_reducible rfl)
        simp only [Act.put, List.setIfInBounds_toArray, List.set_cons_zero, List.set_cons_succ]
        have hgr := limit_greatest l (w2.drewN 1)
        simp only [Lim.val] at hgr
        refine heldO_step (by rfl) (by rfl) (by rfl) (fun K hK => ?_)
        go_simp
        refine hgr.mono ?_
        clear hgr
        rintro e w3 ⟨rfl, hm3⟩
        have hm23 : New w2 w3 := ((Mod.refl _ w2).drewN 1).trans hm3
        have hm13 := hm12.trans hm23
        have q0 := (hm23.cell (p := ⟨w.heap.size, 0, none⟩) kl (fun e => e)).trans k0
        have q2 := (hm23.cell (p := ⟨w.heap.size, 2, none⟩) kl (fun e => e)).trans k2
        have hm0 := (hm23.cell (p := ⟨gm, 0, none⟩) hgml2 (fun e => e)).trans hm0
        have l0 := (hm23.cell (p := ⟨gl, ol + j * 5, none⟩) hgll2 (fun e => e)).trans l0
        have l1 := (hm23.cell (p := ⟨gl, ol + j * 5 + 1, none⟩) hgll2 (fun e => e)).trans l1
        have l2 := (hm23.cell (p := ⟨gl, ol + j * 5 + 2, none⟩) hgll2 (fun e => e)).trans l2
        have l3 := (hm23.cell (p := ⟨gl, ol + j * 5 + 3, none⟩) hgll2 (fun e => e)).trans l3
        have l4 := (hm23.cell (p := ⟨gl, ol + j * 5 + 4, none⟩) hgll2 (fun e => e)).trans l4
        have hgml3 : gm < w3.heap.size := by have := hm23.size; omega
        have hgll3 : gl < w3.heap.size := by have := hm23.size; omega
        go_wp2_with fail
        refine hK.out _ _ ⟨q2, hm0, l0, l1, l2, l3, l4, hgml3, hgll3⟩ (fun hHeld => ?_)
        clear hK K
        try simp only [Act.put, List.setIfInBounds_toArray, List.set_cons_zero, List.set_cons_succ]
        refine heldO_nil ?_
        clear hHeld l1 l2 l3 l4 k0 k2 kl y0 y2
        have hv3 := HV.out.mod hm13 (fun e => e)
        have y0 := hv3.cell 0
        have y1 := hv3.cell 1
        have y2 := hv3.cell 2
        have yl := hv3.lt
        have f0 := hv3.frozen 0
        have f1 := hv3.frozen 1
        have f2 := hv3.frozen 2
        simp [Vd.cells] at y0 y1 y2
        have HM13 := Lib.hid hm13
        clear hv3 hm3 hm23
        by_cases hg : cost ≤ greatest l
        · have hd2 : decide (cost ≤ greatest l) = true := by simpa using hg
          rw [if_pos hg] at HST
          obtain ⟨fw, mw, hwt⟩ := HW.out hg
          obtain ⟨mw1, mw2, mw3⟩ := mw
          have hcall := hwt w3 hm13
          clear hwt hg
          generalize greatest l = G at *
          generalize waitC l d.c at_ cost = X at *
          go_wp2_with fail
          refine hcall.mono ?_
          clear hcall
          rintro e w4 ⟨rfl, hm4⟩
          have hm14 := hm13.trans hm4
          have hm0 := (hm4.cell (p := ⟨gm, 0, none⟩) hgml3 (fun e => e)).trans hm0
          have l0 := (hm4.cell (p := ⟨gl, ol + j * 5, none⟩) hgll3 (fun e => e)).trans l0
          have hgml4 : gm < w4.heap.size := by have := hm4.size; omega
          have hgll4 : gl < w4.heap.size := by have := hm4.size; omega
          have hv4 := HV.out.mod hm14 (fun e => e)
          clear y0 y1 y2 yl f0 f1 f2 mw1 mw2 mw3 q0 q2 hm4 HM13 hm13 hm12 HW
          have y0 := hv4.cell 0
          have y1 := hv4.cell 1
          have y2 := hv4.cell 2
          have yl := hv4.lt
          have f0 := hv4.frozen 0
          have f1 := hv4.frozen 1
          have f2 := hv4.frozen 2
          simp [Vd.cells] at y0 y1 y2
          have HM14 := Lib.hid hm14
          clear hv4 hm14
          cases ok with
          | true =>
            rw [if_pos (.inl rfl)] at HST
            go_wp2_with fail
            refine ⟨⟨j + 1, ⟨false, l.key, X⟩, by omega, by go_num, Lib.hid (((((HM.out.step HM14.out (fun _ _ e => e.elim))).setCell (p := ⟨w.heap.size + 1 + 1, 0, none⟩) (.inl rfl) _).setCell (p := ⟨w.heap.size + 1 + 1, 1, none⟩) (.inl rfl) _).setCell (p := ⟨w.heap.size + 1 + 1, 2, none⟩) (.inl rfl) _), Lib.hid ?_, Lib.hid ?_⟩, by simp [intOf]; omega⟩
            · have := (((HV.out.mod HM14.out (fun e => e)).set 0 (.bool false)).set 1 (.string l.key)).set 2 (.int .i64 X)
              simpa [Vd.cells] using this
            exact HST.out
          | false =>
            by_cases hw1 : wt = -1
            · rw [if_neg (by rintro (h | ⟨h, _⟩); (· cases h); exact h hw1)] at HST
              have hw1a : (wt == -1) = true := by simpa using hw1
              have hw1b : (wt != -1) = false := by simpa using hw1
              clear hw1
              go_wp2_with fail
              refine ⟨⟨j + 1, ⟨false, by_, wt⟩, by omega, by go_num, Lib.hid (HM.out.step HM14.out (fun _ _ e => e.elim)), Lib.hid (HV.out.mod HM14.out (fun e => e)), Lib.hid ?_⟩, by simp [intOf]; omega⟩
              exact HST.out
            · have hw1a : (wt == -1) = false := by simpa using hw1
              have hw1b : (wt != -1) = true := by simpa using hw1
              by_cases hw2 : X = -1
              · rw [if_pos (.inr ⟨hw1, .inl hw2⟩)] at HST
                have hw2a : (X == -1) = true := by simpa using hw2
                clear hw1 hw2
                go_wp2_with fail
                refine ⟨⟨j + 1, ⟨false, l.key, X⟩, by omega, by go_num, Lib.hid (((((HM.out.step HM14.out (fun _ _ e => e.elim))).setCell (p := ⟨w.heap.size + 1 + 1, 0, none⟩) (.inl rfl) _).setCell (p := ⟨w.heap.size + 1 + 1, 1, none⟩) (.inl rfl) _).setCell (p := ⟨w.heap.size + 1 + 1, 2, none⟩) (.inl rfl) _), Lib.hid ?_, Lib.hid ?_⟩, by simp [intOf]; omega⟩
                · have := (((HV.out.mod HM14.out (fun e => e)).set 0 (.bool false)).set 1 (.string l.key)).set 2 (.int .i64 X)
                  simpa [Vd.cells] using this
                exact HST.out
              · have hw2a : (X == -1) = false := by simpa using hw2
                by_cases hw3 : wt < X
                · rw [if_pos (.inr ⟨hw1, .inr hw3⟩)] at HST
                  have hw3a : decide (wt < X) = true := by simpa using hw3
                  clear hw1 hw2 hw3
                  go_wp2_with fail
                  refine ⟨⟨j + 1, ⟨false, l.key, X⟩, by omega, by go_num, Lib.hid (((((HM.out.step HM14.out (fun _ _ e => e.elim))).setCell (p := ⟨w.heap.size + 1 + 1, 0, none⟩) (.inl rfl) _).setCell (p := ⟨w.heap.size + 1 + 1, 1, none⟩) (.inl rfl) _).setCell (p := ⟨w.heap.size + 1 + 1, 2, none⟩) (.inl rfl) _), Lib.hid ?_, Lib.hid ?_⟩, by simp [intOf]; omega⟩
                  · have := (((HV.out.mod HM14.out (fun e => e)).set 0 (.bool false)).set 1 (.string l.key)).set 2 (.int .i64 X)
                    simpa [Vd.cells] using this
                  exact HST.out
                · rw [if_neg (by rintro (h | ⟨_, h | h⟩); (· cases h); (· exact hw2 h); exact hw3 h)] at HST
                  have hw3a : decide (wt < X) = false := by simpa using hw3
                  clear hw1 hw2 hw3
                  go_wp2_with fail
                  refine ⟨⟨j + 1, ⟨false, by_, wt⟩, by omega, by go_num, Lib.hid (HM.out.step HM14.out (fun _ _ e => e.elim)), Lib.hid (HV.out.mod HM14.out (fun e => e)), Lib.hid ?_⟩, by simp [intOf]; omega⟩
                  exact HST.out
        · have hd2 : decide (cost ≤ greatest l) = false := by simpa using hg
          rw [if_neg hg] at HST
          clear hg
          generalize greatest l = G at *
          clear hm13 hm12 HW q0 q2
          cases ok with
          | true =>
            rw [if_pos (.inl rfl)] at HST
            go_wp2_with fail
            refine ⟨⟨j + 1, ⟨false, l.key, (-1)⟩, by omega, by go_num, Lib.hid (((((HM.out.step HM13.out (fun _ _ e => e.elim))).setCell (p := ⟨w.heap.size + 1 + 1, 0, none⟩) (.inl rfl) _).setCell (p := ⟨w.heap.size + 1 + 1, 1, none⟩) (.inl rfl) _).setCell (p := ⟨w.heap.size + 1 + 1, 2, none⟩) (.inl rfl) _), Lib.hid ?_, Lib.hid ?_⟩, by simp [intOf]; omega⟩
            · have := (((HV.out.mod HM13.out (fun e => e)).set 0 (.bool false)).set 1 (.string l.key)).set 2 (.int .i64 (-1))
              simpa [Vd.cells] using this
            exact HST.out
          | false =>
            by_cases hw1 : wt = -1
            · rw [if_neg (by rintro (h | ⟨h, _⟩); (· cases h); exact h hw1)] at HST
              have hw1a : (wt == -1) = true := by simpa using hw1
              have hw1b : (wt != -1) = false := by simpa using hw1
              clear hw1
              go_wp2_with fail
              refine ⟨⟨j + 1, ⟨false, by_, wt⟩, by omega, by go_num, Lib.hid (HM.out.step HM13.out (fun _ _ e => e.elim)), Lib.hid (HV.out.mod HM13.out (fun e => e)), Lib.hid ?_⟩, by simp [intOf]; omega⟩
              exact HST.out
            · rw [if_pos (.inr ⟨hw1, .inl rfl⟩)] at HST
              have hw1a : (wt == -1) = false := by simpa using hw1
              have hw1b : (wt != -1) = true := by simpa using hw1
              clear hw1
              go_wp2_with fail
              refine ⟨⟨j + 1, ⟨false, l.key, (-1)⟩, by omega, by go_num, Lib.hid (((((HM.out.step HM13.out (fun _ _ e => e.elim))).setCell (p := ⟨w.heap.size + 1 + 1, 0, none⟩) (.inl rfl) _).setCell (p := ⟨w.heap.size + 1 + 1, 1, none⟩) (.inl rfl) _).setCell (p := ⟨w.heap.size + 1 + 1, 2, none⟩) (.inl rfl) _), Lib.hid ?_, Lib.hid ?_⟩, by simp [intOf]; omega⟩
              · have := (((HV.out.mod HM13.out (fun e => e)).set 0 (.bool false)).set 1 (.string l.key)).set 2 (.int .i64 (-1))
                simpa [Vd.cells] using this
              exact HST.out
    · obtain rfl : j = n := by omega
      have hr1 := HB1.out.mod HM.out hx1
      have e1 := HE.out
      rw [List.drop_of_length_le (by have := HLEN.out; omega), List.drop_of_length_le (by have := HDL.out; have := HLEN.out; simp; omega)] at e1
      have HEE := Lib.hid e1
      clear e1
      have y0 := HV.out.cell 0
      have y1 := HV.out.cell 1
      have y2 := HV.out.cell 2
      have r0 := hr1.cell 0
      have r1 := hr1.cell 1
      have r2 := hr1.cell 2
      have f1 := hr1.frozen
      have hrl := hr1.lt
      obtain ⟨ok, by_, wt⟩ := v
      simp [Vd.cells] at y0 y1 y2 r0 r1 r2
      have hne : w.heap.size + 1 + 1 ≠ w.heap.size + 1 := by omega
      clear hr1
      go_wp2_with fail
      refine bodyPost_ret (v := Vd.val ⟨ok, by_, wt⟩) (by simp [results, Tryz.results70, go_sem, y0, y1, y2, r0, r1, r2, f1, hne, Vd.val]) rfl ⟨by rw [HEE.out]; rfl, ?_⟩
      refine Mod.setCell (Mod.setCell (Mod.setCell (HN.out.step HM.out (fun x hx e => by omega)) (.inr ?_) _) (.inr ?_) _) (.inr ?_) _ <;> simp

end Go.Proofs.YtinnckbffblecaaGreat
