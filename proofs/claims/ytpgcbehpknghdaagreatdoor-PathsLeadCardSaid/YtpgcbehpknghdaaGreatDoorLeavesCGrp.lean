/- Several texts in one. (1) The reference: LeavesOf, the paths of a value, what they are (XLeaves: how long). Conditions: rows of at most 100, a weight of at most 70000. (2) Paths that read alike are equal (slices.Equal of steps; slices.EqualFunc of paths by it). Conditions: at most 1000000. (3) A path with one more step (value.behindPath, value.named). No conditions but a path of modest length. (4) The program: leaves, the paths of a value, put behind a row. Conditions: rows of at most 100; a weight of at most 400000. (5) The program: Leaves, the paths of a value. Conditions: rows of at most 100; a weight of at most 400000. -/
import Derived.Test.YtpgcbehpknghdaaGreatDoorLeaves
import Derived.Test.YtpgcbehpknghdaaGreatDoorPthLaw
import Derived.Test.YtpgcbehpknghdaaGreatDoorVal7Grp

namespace Go.Proofs.YtpgcbehpknghdaaGreatDoor
open Go.RowKit
set_option linter.unusedVariables false
set_option linter.unusedSimpArgs false

/-- a path that stands in memory and reads as ps -/
def PthIs (w : World) (x : PA) (ps : List St) : Prop := Sl w 46 3 St.enc x.a x.n ps ∧ x.n ≤ x.c ∧ (x.a = none → x.c = 0)
theorem PthIs.mod {w w' : World} {S : Nat → Prop} {x : PA} {ps : List St} (h : PthIs w x ps) (hm : Mod S w w') (hs : ∀ g, TB w g 46 → ¬ S g) : PthIs w' x ps := ⟨h.1.mod hm hs, h.2⟩
theorem PthIs.new {w w' : World} {x : PA} {ps : List St} (h : PthIs w x ps) (hm : New w w') : PthIs w' x ps := h.mod hm (fun _ _ e => e)
/-- the paths of the list's first k items, of the members' first k -/
def lvL (d : Nat) (l : List VT) (p : List St) (k : Nat) : List (List St) := (List.range k).flatMap fun i => leavesT d (l.getD i nilV) (p ++ [⟨false, ⟨#[]⟩, i⟩])
def lvM (d : Nat) (l : List Mem) (p : List St) (k : Nat) : List (List St) := (l.take k).flatMap fun m => leavesT d m.2 (p ++ [⟨true, m.1, 0⟩])
theorem lvL_next (d : Nat) {l : List VT} {p : List St} {k : Nat} (h : k < l.length) : lvL d l p (k + 1) = lvL d l p k ++ leavesT d l[k] (p ++ [⟨false, ⟨#[]⟩, k⟩]) := by
  unfold lvL
  rw [List.range_succ, List.flatMap_append, List.flatMap_singleton, List.getD_eq_getElem?_getD, List.getElem?_eq_getElem h]
  rfl
theorem lvM_next (d : Nat) {l : List Mem} {p : List St} {k : Nat} (h : k < l.length) : lvM d l p (k + 1) = lvM d l p k ++ leavesT d l[k].2 (p ++ [⟨true, l[k].1, 0⟩]) := by
  unfold lvM
  rw [List.take_succ_eq_append_getElem h, List.flatMap_append, List.flatMap_singleton]
theorem leavesT_eq (d : Nat) (v : VT) (p : List St) : leavesT (d + 1) v p = if v.list = [] ∧ v.mem = [] then [p] else lvL d v.list p v.list.length ++ lvM d v.mem p v.mem.length := by
  rw [leavesT]
  unfold lvL lvM
  rw [List.take_length]
theorem leavesT_some {d : Nat} {v : VT} {p : List St} (h : (lvL d v.list p v.list.length ++ lvM d v.mem p v.mem.length) ≠ []) : leavesT (d + 1) v p = lvL d v.list p v.list.length ++ lvM d v.mem p v.mem.length := by
  rw [leavesT_eq, if_neg]
  rintro ⟨h1, h2⟩
  rw [h1, h2] at h
  exact h rfl
theorem leavesT_none {d : Nat} {v : VT} {p : List St} (h : (lvL d v.list p v.list.length ++ lvM d v.mem p v.mem.length) = []) : leavesT (d + 1) v p = [p] := by
  rw [leavesT_eq, if_pos]
  refine Classical.byContradiction fun hn => ?_
  have := leavesT_pos (d + 1) v p
  rw [leavesT_eq, if_neg hn] at this
  exact this h
def RLeavesC (w : World) (L : List (List St)) (W : Nat) (e : Ending) (w' : World) : Prop := ∃ (A : Option Addr) (n c : Nat) (qs : List PA), e = .returned (.slice A n c) ∧ Sl w' 32 1 PA.enc A n qs ∧ Al (PthIs w') qs L ∧ 0 < n ∧ n ≤ W ∧ n ≤ c ∧ New w w'
def LvSpecC (d : Nat) : Prop := ∀ (x : VA) (v : VT) (A : Option Addr) (n c : Nat) (ps : List St) (w : World), Tree w (fun _ => True) d x v → Wide 100 d v → Sl w 46 3 St.enc A n ps → n + d ≤ 900 → (∀ s ∈ ps, s.name.size ≤ 100000) → vW d v ≤ 70000 →
  Calls Tryz.prog 20 #[x.val, .slice A n c] w (RLeavesC w (leavesT d v ps) (vW d v))
/-- what the loops keep: the row of paths so far -/
structure LvInvC (w : World) (xb : Nat) (xc : Array Value) (L : List (List St)) (W : Nat) (A : Option Addr) (n c : Nat) (wr : World) : Prop where
  box : Blk wr xb 29 xc
  row : ∃ qs : List PA, Own wr (xb + 1) 32 1 PA.enc A n c qs ∧ Al (PthIs wr) qs L
  many : n ≤ W
  new : New w wr
set_option maxRecDepth 100000 in
set_option maxHeartbeats 3000000 in
theorem leavesC_walk (d : Nat) (IH : LvSpecC d) : LvSpecC (d + 1) := by
  intro x v A n c ps w ht hw hs hn hps hW
  replace ht := ht.oldG
  obtain ⟨xs, ms, h1, h2, h3, h4⟩ := ht.als
  obtain ⟨-, -, -, -, f5, f6⟩ := ht.fields
  have hlm := hw.1
  have hmm := hw.2.1
  have hWW : vW (d + 1) v = 40 + 6 * v.words.size + ((v.list.map fun x => vW d x + 1).sum + (v.mem.map fun p => vW d p.2 + (6 * p.1.size + 4)).sum) := rfl
  have HL1 := Lib.hid h1
  have HL2 := Lib.hid h2
  have HL3 := Lib.hid h3
  have HL4 := Lib.hid h4
  have HWD := Lib.hid hw
  have HS := Lib.hid hs
  have HPS := Lib.hid hps
  obtain ⟨xk, xf, xn, xw, xla, xln, xlc, xma, xmn, xmc⟩ := x
  simp only at f5 f6 HL1 HL3
  have hln : xln ≤ 100 := by omega
  have hmn : xmn ≤ 100 := by omega
  have HF5 := Lib.hid f5
  have HF6 := Lib.hid f6
  obtain ⟨WL, hWL⟩ : ∃ z, (v.list.map fun x => vW d x + 1).sum = z := ⟨_, rfl⟩
  obtain ⟨WM, hWM⟩ : ∃ z, (v.mem.map fun p => vW d p.2 + (6 * p.1.size + 4)).sum = z := ⟨_, rfl⟩
  rw [hWL, hWM] at hWW
  obtain ⟨WT, hWT⟩ : ∃ z, vW (d + 1) v = z := ⟨_, rfl⟩
  rw [hWT] at hWW hW
  rw [hWT]
  have HWL := Lib.hid hWL
  have HWM := Lib.hid hWM
  clear ht hw hs h1 h2 h3 h4 hps f5 f6 hlm hmm hWL hWM hWT
  have hx := Blk.new w 29 #[.int .i64 xk, .bool xf, .int .i64 xn, .string xw, .slice xla xln xlc, .slice xma xmn xmc]
  have m1 : New w (w.alloc (.cells #[.int .i64 xk, .bool xf, .int .i64 xn, .string xw, .slice xla xln xlc, .slice xma xmn xmc] 29)) := (Mod.refl _ _).alloc _
  go_enter Tryz.func20, Tryz.ntmps20
  go_upto_region 1 with (fail)
  generalize w.alloc (.cells #[.int .i64 xk, .bool xf, .int .i64 xn, .string xw, .slice xla xln xlc, .slice xma xmn xmc] 29) = w1 at *
  generalize hxb : w.heap.size = xb at *
  have HX := Lib.hid hx
  have HM := Lib.hid m1
  clear hx m1
  have HI0 : Hid (LvInvC w xb #[.int .i64 xk, .bool xf, .int .i64 xn, .string xw, .slice xla xln xlc, .slice xma xmn xmc] (lvL d v.list ps 0) 0 none 0 0 w1) := Lib.hid ⟨HX.out, ⟨[], Own.nil, trivial⟩, Nat.le_refl _, HM.out⟩
  have e0 := HX.out.cell 0
  have e1 := HX.out.cell 1
  have e2 := HX.out.cell 2
  have e3 := HX.out.cell 3
  have e4 := HX.out.cell 4
  have e5 := HX.out.cell 5
  have el := HX.out.lt
  have ef := HX.out.frozen
  simp only [List.getElem?_toArray, List.getElem?_cons_zero, List.getElem?_cons_succ] at e0 e1 e2 e3 e4 e5
  go_wp2_with fail
  clear e0 e1 e2 e3 e4 e5 el ef
  clear HX HM
  go_loopw [13, 5] (fun i s wr => ∃ (k : Nat) (Aq : Option Addr) (nq cq : Nat), k ≤ xln ∧ i = .int .i64 k ∧ s = .slice Aq nq cq ∧ Hid (LvInvC w xb #[.int .i64 xk, .bool xf, .int .i64 xn, .string xw, .slice xla xln xlc, .slice xma xmn xmc] (lvL d v.list ps k) ((v.list.take k).map fun x => vW d x + 1).sum Aq nq cq wr)) (fun i _ _ => xln - (intOf i).toNat)
  case atStart => exact ⟨0, none, 0, 0, Nat.zero_le _, rfl, rfl, HI0⟩
  clear HI0
  case round =>
    rename World => wr
    obtain ⟨k, Aq, nq, cq, hk, rfl, rfl, HI⟩ := hrel
    have HX := Lib.hid HI.out.box
    have HM := Lib.hid HI.out.new
    have hmany := HI.out.many
    obtain ⟨qs, hoq0, hqp⟩ := HI.out.row
    clear HI
    by_cases hlt : k < xln
    · have hkx : k < xs.length := by have := HL1.out.1; omega
      have hkv : k < v.list.length := by have := HF5.out; omega
      obtain ⟨g2, o2, hA, htb, hc0⟩ := (HL1.out.sl.new HM.out).2 (by omega)
      subst hA
      have hgl := htb.lt
      have hty := HL2.out.get k hkx hkv
      have hwk := HWD.out.2.2.2.1 _ (List.getElem_mem hkv)
      have HSUM : Hid (((v.list.take (k + 1)).map fun x => vW d x + 1).sum = ((v.list.take k).map fun x => vW d x + 1).sum + (vW d v.list[k] + 1)) := Lib.hid (take_sum v.list (fun x => vW d x + 1) k hkv)
      have HNX : Hid (lvL d v.list ps (k + 1) = lvL d v.list ps k ++ leavesT d v.list[k] (ps ++ [⟨false, ⟨#[]⟩, (k : Int)⟩])) := Lib.hid (lvL_next d hkv)
      have hle := vW_item d v hkv
      have hwle : ((v.list.take (k + 1)).map fun x => vW d x + 1).sum ≤ WL := by rw [← HWL.out]; exact take_sum_le _ _ _
      rw [HSUM.out] at hwle
      have IHH := Lib.hid (fun A' n' c' ps' W (h : New wr W) h2 h3 h4 => IH xs[k] v.list[k] A' n' c' ps' W (hty.any.new (HM.out.trans h)) hwk h2 h3 h4 (by omega))
      have hc := fun j (hj : j < 6) => hc0 k hkx j hj
      clear hc0 htb hty hwk hle
      generalize ((v.list.take k).map fun x => vW d x + 1).sum = SK at *
      generalize vW d v.list[k] = VK at *
      generalize xs[k] = z at *
      obtain ⟨zk, zf, zn, zw, zla, zln, zlc, zma, zmn, zmc⟩ := z
      have b0 := hc 0 (by omega)
      have b1 := hc 1 (by omega)
      have b2 := hc 2 (by omega)
      have b3 := hc 3 (by omega)
      have b4 := hc 4 (by omega)
      have b5 := hc 5 (by omega)
      simp only [VA.enc, Nat.add_zero, Nat.zero_add] at b0 b1 b2 b3 b4 b5
      clear hc
      have hb2 : (0 : Int) ≤ k := by omega
      have hb3 : (k : Int) < xln := by omega
      have m5 : New wr (wr.alloc (.cells #[.int .i64 zk, .bool zf, .int .i64 zn, .string zw, .slice zla zln zlc, .slice zma zmn zmc] 29)) := (Mod.refl _ _).alloc _
      have hlb := Blk.new wr 29 #[.int .i64 zk, .bool zf, .int .i64 zn, .string zw, .slice zla zln zlc, .slice zma zmn zmc]
      go_upto_region 5 with (fail)
      have hszr : xb < wr.heap.size := HX.out.lt
      have IHH5 := Lib.hid (fun A' n' c' ps' W (h : New (wr.alloc (.cells #[.int .i64 zk, .bool zf, .int .i64 zn, .string zw, .slice zla zln zlc, .slice zma zmn zmc] 29)) W) => IHH.out A' n' c' ps' W (m5.trans h))
      clear IHH
      have IHH := IHH5
      clear IHH5
      generalize wr.alloc (.cells #[.int .i64 zk, .bool zf, .int .i64 zn, .string zw, .slice zla zln zlc, .slice zma zmn zmc] 29) = w5 at *
      have HX5 := Lib.hid (HX.out.mod m5 (fun e => e))
      have HM5 := Lib.hid (HM.out.trans m5)
      have HOQ := Lib.hid (hoq0.new m5)
      have HQP := Lib.hid (Al.imp (fun _ _ h => PthIs.new h m5) hqp)
      have hfarq := hoq0.far'
      have hxlt : xb < w5.heap.size := HX5.out.lt
      have HCLS : Hid (∀ W, New w5 W → Calls Tryz.prog 38 #[.slice A n c] W (RCloneS W n ps)) := Lib.hid (fun W h => cloneS ps A n c W (HS.out.new (HM5.out.trans h)) (by omega))
      clear m5 HX HM hoq0 hqp
      have HSL : Hid (∀ W, Mod (fun i => blkOf Aq = some i) w5 W → W.cell? ⟨wr.heap.size, 0, none⟩ = some (.int .i64 zk) ∧ W.cell? ⟨wr.heap.size, 1, none⟩ = some (.bool zf) ∧ W.cell? ⟨wr.heap.size, 2, none⟩ = some (.int .i64 zn) ∧ W.cell? ⟨wr.heap.size, 3, none⟩ = some (.string zw) ∧ W.cell? ⟨wr.heap.size, 4, none⟩ = some (.slice zla zln zlc) ∧ W.cell? ⟨wr.heap.size, 5, none⟩ = some (.slice zma zmn zmc) ∧ wr.heap.size < W.heap.size) := Lib.hid (fun W hW => by
        have h1 := hlb.mod hW (fun e => by have := (hfarq _ e).2.1; omega)
        exact ⟨(h1.cell 0).trans rfl, (h1.cell 1).trans rfl, (h1.cell 2).trans rfl, (h1.cell 3).trans rfl, (h1.cell 4).trans rfl, (h1.cell 5).trans rfl, h1.lt⟩)
      clear b0 b1 b2 b3 b4 b5 hgl hlb
      generalize wr.heap.size = lb at *
      have HSTV : Hid ((⟨false, ⟨#[]⟩, (k : Int)⟩ : St).name.size ≤ 100000) := Lib.hid (by show (⟨#[]⟩ : ByteArray).size ≤ 100000; decide)
      refine wp_region_held_tree (Mod (fun i => blkOf Aq = some i) w5) 10 (by kernel_rfl) (by kernel_rfl) ?_
      have hn0 : Mod (fun i => blkOf Aq = some i) w5 w5.drew := (Mod.refl _ _).drew
      have hn1 : New w5 w5.drew := (Mod.refl _ _).drew
      refine headW_take 0 _ ?_ (fun _ _ d _ _ h => by cases d <;> exact h) (by kernel_rfl) rfl (by kernel_rfl) hn0 (by rfl) (fun W hSw => ?_) ?_
      rotate_left
      · (have hq := HSL.out W hSw); (try simp only [List.getElem_toArray, List.getElem_cons_zero, List.getElem_cons_succ]); go_simp; any_goals (with_reducible rfl)
      simp only [Act.put, List.getElem_toArray, List.getElem_cons_zero, List.getElem_cons_succ, List.setIfInBounds_toArray, List.set_cons_zero, List.set_cons_succ]
      refine headW_take 1 _ ?_ (fun _ _ d _ _ h => by cases d <;> exact h) (by kernel_rfl) rfl (by kernel_rfl) hn0 (by rfl) (fun W hSw => ?_) ?_
      rotate_left
      · (have hq := HSL.out W hSw); (try simp only [List.getElem_toArray, List.getElem_cons_zero, List.getElem_cons_succ]); go_simp; any_goals (with_reducible rfl)
      simp only [Act.put, List.getElem_toArray, List.getElem_cons_zero, List.getElem_cons_succ, List.setIfInBounds_toArray, List.set_cons_zero, List.set_cons_succ]
      refine headW_take 2 _ ?_ (fun _ _ d _ _ h => by cases d <;> exact h) (by kernel_rfl) rfl (by kernel_rfl) hn0 (by rfl) (fun W hSw => ?_) ?_
      rotate_left
      · (have hq := HSL.out W hSw); (try simp only [List.getElem_toArray, List.getElem_cons_zero, List.getElem_cons_succ]); go_simp; any_goals (with_reducible rfl)
      simp only [Act.put, List.getElem_toArray, List.getElem_cons_zero, List.getElem_cons_succ, List.setIfInBounds_toArray, List.set_cons_zero, List.set_cons_succ]
      refine headW_take 4 _ ?_ (fun _ _ d _ _ h => by cases d <;> exact h) (by kernel_rfl) rfl (by kernel_rfl) hn0 (by rfl) (fun W hSw => ?_) ?_
      rotate_left
      · (have hq := HSL.out W hSw); (try simp only [List.getElem_toArray, List.getElem_cons_zero, List.getElem_cons_succ]); go_simp; any_goals (with_reducible rfl)
      simp only [Act.put, List.getElem_toArray, List.getElem_cons_zero, List.getElem_cons_succ, List.setIfInBounds_toArray, List.set_cons_zero, List.set_cons_succ]
      refine headW_take 5 _ ?_ (fun _ _ d _ _ h => by cases d <;> exact h) (by kernel_rfl) rfl (by kernel_rfl) hn0 (by rfl) (fun W hSw => ?_) ?_
      rotate_left
      · (have hq := HSL.out W hSw); (try simp only [List.getElem_toArray, List.getElem_cons_zero, List.getElem_cons_succ]); go_simp; any_goals (with_reducible rfl)
      simp only [Act.put, List.getElem_toArray, List.getElem_cons_zero, List.getElem_cons_succ, List.setIfInBounds_toArray, List.set_cons_zero, List.set_cons_succ]
      refine headW_ready [3, 6] (by kernel_rfl) (by rfl) ?_
      refine eachW_step rfl rfl (fun K hK => ?_) (eachW_step rfl rfl (fun K hK => ?_) eachW_nil)
      · have hcl := HCLS.out _ hn1
        (try simp only [List.getElem_toArray, List.getElem_cons_zero, List.getElem_cons_succ])
        go_simp
        refine hcl.mono ?_
        clear hcl
        rintro e w6 ⟨A6, c6, rfl, own6, m6⟩
        have HN6 := Lib.hid (hn1.trans m6)
        have HOW6 : Hid (Own w6 w5.heap.size 46 3 St.enc A6 n c6 ps) := Lib.hid own6
        clear own6 m6
        go_wp2_with fail
        refine hK.out _ _ (HN6.out.mono (fun _ _ e => e.elim)) (fun _ => ?_)
        clear hK K
        (try simp only [Act.put, List.getElem_toArray, List.getElem_cons_zero, List.getElem_cons_succ, List.setIfInBounds_toArray, List.set_cons_zero, List.set_cons_succ])
        refine headW_ready [6] (by kernel_rfl) (by rfl) ?_
        refine eachW_step rfl rfl (fun K hK => ?_) eachW_nil
        have HBL : Hid (Blk (w6.alloc (.cells #[.bool false, .string ⟨#[]⟩, .int .i64 k] 46)) w6.heap.size 46 (encL 3 St.enc ⟨false, ⟨#[]⟩, (k : Int)⟩).toArray) := Lib.hid (Blk.new _ _ _)
        have HMA : Hid (New w6 (w6.alloc (.cells #[.bool false, .string ⟨#[]⟩, .int .i64 k] 46))) := Lib.hid ((Mod.refl _ _).alloc _)
        (try simp only [List.getElem_toArray, List.getElem_cons_zero, List.getElem_cons_succ])
        go_simp
        have HOW := Lib.hid (HOW6.out.new HMA.out)
        have HN := Lib.hid (HN6.out.trans HMA.out)
        refine hK.out _ _ (HN.out.mono (fun _ _ e => e.elim)) (fun _ => ?_)
        clear hK K HOW6 HN6 HMA
        (try simp only [Act.put, List.getElem_toArray, List.getElem_cons_zero, List.getElem_cons_succ, List.setIfInBounds_toArray, List.set_cons_zero, List.set_cons_succ])
        generalize w6.alloc (.cells #[.bool false, .string ⟨#[]⟩, .int .i64 k] 46) = wa at *
        generalize w6.heap.size = bi at *
        refine headW_ready [7] (by kernel_rfl) (by rfl) ?_
        refine eachW_step rfl rfl (fun K hK => ?_) eachW_nil
        have hblp := HBL.out
        have hszp := HN.out.size
        refine wp_push (.tmp 21) (.tmp 24) _ rfl 32 Tryz.underlying32 einfo_step rfl (by exact HOW.out) ⟨false, ⟨#[]⟩, (k : Int)⟩ bi rfl (by exact hblp) (fun j hj => St.one _ j hj) (by omega) (by omega) (by omega) ?_
        intro g8 cap8 w8 own8 hm8 hat8 hlt8
        have HN8 := Lib.hid (HN.out.step hm8 (fun i hi e => by have := (HOW.out.far' i e).1; omega))
        refine hK.out _ _ (HN8.out.mono (fun _ _ e => e.elim)) (fun _ => ?_)
        clear hK K hblp hat8 hlt8 hm8
        (try simp only [Act.put, List.getElem_toArray, List.getElem_cons_zero, List.getElem_cons_succ, List.setIfInBounds_toArray, List.set_cons_zero, List.set_cons_succ])
        refine headW_ready [8] (by kernel_rfl) (by rfl) ?_
        refine eachW_step rfl rfl (fun K hK => ?_) eachW_nil
        have hih := IHH.out (some ⟨g8, 0, none⟩) (n + 1) cap8 (ps ++ [⟨false, ⟨#[]⟩, (k : Int)⟩]) w8 HN8.out own8.sl (by omega) (fun s hs => by
          rcases List.mem_append.1 hs with h | h
          · exact HPS.out s h
          · rw [List.mem_singleton.1 h]; exact HSTV.out)
        (try simp only [List.getElem_toArray, List.getElem_cons_zero, List.getElem_cons_succ])
        go_simp
        refine hih.mono ?_
        clear hih own8
        rintro e w9 ⟨A9, n9, c9, qs9, rfl, hq9, hp9, h09, hle9, hcap9, m9⟩
        have HN9 := Lib.hid (HN8.out.trans m9)
        clear m9
        go_wp2_with fail
        refine hK.out _ _ (HN9.out.mono (fun _ _ e => e.elim)) (fun _ => ?_)
        clear hK K
        (try simp only [Act.put, List.getElem_toArray, List.getElem_cons_zero, List.getElem_cons_succ, List.setIfInBounds_toArray, List.set_cons_zero, List.set_cons_succ])
        obtain ⟨g9, o9, hA9, -, -⟩ := hq9.2 h09
        subst hA9
        refine headW_ready [9] (by kernel_rfl) (by rfl) ?_
        refine eachW_step rfl rfl (fun K hK => ?_) eachW_nil
        have hoq := HOQ.out.new HN9.out
        have hsz9 := HN9.out.size
        refine wp_pushAll (.tmp 18) (.tmp 26) _ rfl 24 Tryz.underlying49 einfo_path rfl (by exact hoq) qs9 g9 o9 n9 c9 rfl (by exact hq9) h09 (fun y _ j _ => PA.one y j) (by omega) (by omega) (by omega) ?_
        intro g10 cap10 w10 own10 hm10 hat10 hlt10
        refine hK.out _ _ ((HN9.out.mono (fun _ _ e => e.elim)).trans hm10) (fun _ => ?_)
        clear hK K
        (try simp only [Act.put, List.getElem_toArray, List.getElem_cons_zero, List.getElem_cons_succ, List.setIfInBounds_toArray, List.set_cons_zero, List.set_cons_succ])
        refine headW_done (by kernel_rfl) ?_
        have HN10 := Lib.hid hm10
        have HOW10 := Lib.hid own10
        have HHOQ := Lib.hid hoq
        have HP9 := Lib.hid hp9
        clear hat10 hlt10 own10 hm10 hoq hp9 hq9
        go_wp2_with fail
        go_roundw
        case rel =>
          have hty : ∀ g, TB w9 g 46 → ¬ blkOf Aq = some g := fun g ht e => (ht.ne (HHOQ.out.far' g e).2.2 (by decide)) rfl
          refine ⟨k + 1, _, _, _, by omega, by go_num, rfl, Lib.hid ⟨?_, ⟨_, HOW10.out, ?_⟩, ?_, ?_⟩⟩
          · exact (HX5.out.mod HN9.out (fun e => e)).mod HN10.out (fun e => by have := (HHOQ.out.far' _ e).1; omega)
          · rw [HNX.out]
            exact Al.append (Al.imp (fun _ _ h => (h.new HN9.out).mod HN10.out hty) HQP.out) (Al.imp (fun _ _ h => h.mod HN10.out hty) HP9.out)
          · rw [HSUM.out]
            omega
          · exact (HM5.out.trans HN9.out).step HN10.out (fun i hi e => by have := (HHOQ.out.far' i e).1; omega)
        case measure => simp [intOf]; omega
      · have HB0 : Blk (w5.alloc (.cells #[.bool false, .string ⟨#[]⟩, .int .i64 k] 46)) w5.heap.size 46 (encL 3 St.enc ⟨false, ⟨#[]⟩, (k : Int)⟩).toArray := Blk.new _ _ _
        have HNa : Hid (New w5 (World.drew (w5.alloc (.cells #[.bool false, .string ⟨#[]⟩, .int .i64 k] 46)))) := Lib.hid (((Mod.refl _ _).alloc _).drew)
        have HBL0 : Hid (Blk (World.drew (w5.alloc (.cells #[.bool false, .string ⟨#[]⟩, .int .i64 k] 46))) w5.heap.size 46 (encL 3 St.enc ⟨false, ⟨#[]⟩, (k : Int)⟩).toArray) := Lib.hid (HB0.mod (Mod.drew (Mod.refl (fun _ => False) _)) (fun e => e))
        clear HB0
        have hbi : w5.heap.size < (World.drew (w5.alloc (.cells #[.bool false, .string ⟨#[]⟩, .int .i64 k] 46))).heap.size := HBL0.out.lt
        (try simp only [List.getElem_toArray, List.getElem_cons_zero, List.getElem_cons_succ])
        go_simp
        refine hK.out _ _ (HNa.out.mono (fun _ _ e => e.elim)) (fun _ => ?_)
        clear hK K
        (try simp only [Act.put, List.getElem_toArray, List.getElem_cons_zero, List.getElem_cons_succ, List.setIfInBounds_toArray, List.set_cons_zero, List.set_cons_succ])
        generalize World.drew (w5.alloc (.cells #[.bool false, .string ⟨#[]⟩, .int .i64 k] 46)) = wa at *
        refine headW_ready [3] (by kernel_rfl) (by rfl) ?_
        refine eachW_step rfl rfl (fun K hK => ?_) eachW_nil
        have hcl := HCLS.out _ HNa.out
        (try simp only [List.getElem_toArray, List.getElem_cons_zero, List.getElem_cons_succ])
        go_simp
        refine hcl.mono ?_
        clear hcl
        rintro e w6 ⟨A6, c6, rfl, own6, m6⟩
        have HN := Lib.hid (HNa.out.trans m6)
        have HOW : Hid (Own w6 w5.heap.size 46 3 St.enc A6 n c6 ps) := Lib.hid (own6.less (Nat.le_of_lt hbi))
        have HBL := Lib.hid (HBL0.out.mod m6 (fun e => e))
        clear own6 m6
        go_wp2_with fail
        refine hK.out _ _ (HN.out.mono (fun _ _ e => e.elim)) (fun _ => ?_)
        clear hK K
        (try simp only [Act.put, List.getElem_toArray, List.getElem_cons_zero, List.getElem_cons_succ, List.setIfInBounds_toArray, List.set_cons_zero, List.set_cons_succ])
        refine headW_ready [7] (by kernel_rfl) (by rfl) ?_
        refine eachW_step rfl rfl (fun K hK => ?_) eachW_nil
        have hblp := HBL.out
        have hszp := HN.out.size
        refine wp_push (.tmp 21) (.tmp 24) _ rfl 32 Tryz.underlying32 einfo_step rfl (by exact HOW.out) ⟨false, ⟨#[]⟩, (k : Int)⟩ w5.heap.size rfl (by exact hblp) (fun j hj => St.one _ j hj) (by omega) (by omega) (by omega) ?_
        intro g8 cap8 w8 own8 hm8 hat8 hlt8
        have HN8 := Lib.hid (HN.out.step hm8 (fun i hi e => by have := (HOW.out.far' i e).1; omega))
        refine hK.out _ _ (HN8.out.mono (fun _ _ e => e.elim)) (fun _ => ?_)
        clear hK K hblp hat8 hlt8 hm8
        (try simp only [Act.put, List.getElem_toArray, List.getElem_cons_zero, List.getElem_cons_succ, List.setIfInBounds_toArray, List.set_cons_zero, List.set_cons_succ])
        refine headW_ready [8] (by kernel_rfl) (by rfl) ?_
        refine eachW_step rfl rfl (fun K hK => ?_) eachW_nil
        have hih := IHH.out (some ⟨g8, 0, none⟩) (n + 1) cap8 (ps ++ [⟨false, ⟨#[]⟩, (k : Int)⟩]) w8 HN8.out own8.sl (by omega) (fun s hs => by
          rcases List.mem_append.1 hs with h | h
          · exact HPS.out s h
          · rw [List.mem_singleton.1 h]; exact HSTV.out)
        (try simp only [List.getElem_toArray, List.getElem_cons_zero, List.getElem_cons_succ])
        go_simp
        refine hih.mono ?_
        clear hih own8
        rintro e w9 ⟨A9, n9, c9, qs9, rfl, hq9, hp9, h09, hle9, hcap9, m9⟩
        have HN9 := Lib.hid (HN8.out.trans m9)
        clear m9
        go_wp2_with fail
        refine hK.out _ _ (HN9.out.mono (fun _ _ e => e.elim)) (fun _ => ?_)
        clear hK K
        (try simp only [Act.put, List.getElem_toArray, List.getElem_cons_zero, List.getElem_cons_succ, List.setIfInBounds_toArray, List.set_cons_zero, List.set_cons_succ])
        obtain ⟨g9, o9, hA9, -, -⟩ := hq9.2 h09
        subst hA9
        refine headW_ready [9] (by kernel_rfl) (by rfl) ?_
        refine eachW_step rfl rfl (fun K hK => ?_) eachW_nil
        have hoq := HOQ.out.new HN9.out
        have hsz9 := HN9.out.size
        refine wp_pushAll (.tmp 18) (.tmp 26) _ rfl 24 Tryz.underlying49 einfo_path rfl (by exact hoq) qs9 g9 o9 n9 c9 rfl (by exact hq9) h09 (fun y _ j _ => PA.one y j) (by omega) (by omega) (by omega) ?_
        intro g10 cap10 w10 own10 hm10 hat10 hlt10
        refine hK.out _ _ ((HN9.out.mono (fun _ _ e => e.elim)).trans hm10) (fun _ => ?_)
        clear hK K
        (try simp only [Act.put, List.getElem_toArray, List.getElem_cons_zero, List.getElem_cons_succ, List.setIfInBounds_toArray, List.set_cons_zero, List.set_cons_succ])
        refine headW_done (by kernel_rfl) ?_
        have HN10 := Lib.hid hm10
        have HOW10 := Lib.hid own10
        have HHOQ := Lib.hid hoq
        have HP9 := Lib.hid hp9
        clear hat10 hlt10 own10 hm10 hoq hp9 hq9
        go_wp2_with fail
        go_roundw
        case rel =>
          have hty : ∀ g, TB w9 g 46 → ¬ blkOf Aq = some g := fun g ht e => (ht.ne (HHOQ.out.far' g e).2.2 (by decide)) rfl
          refine ⟨k + 1, _, _, _, by omega, by go_num, rfl, Lib.hid ⟨?_, ⟨_, HOW10.out, ?_⟩, ?_, ?_⟩⟩
          · exact (HX5.out.mod HN9.out (fun e => e)).mod HN10.out (fun e => by have := (HHOQ.out.far' _ e).1; omega)
          · rw [HNX.out]
            exact Al.append (Al.imp (fun _ _ h => (h.new HN9.out).mod HN10.out hty) HQP.out) (Al.imp (fun _ _ h => h.mod HN10.out hty) HP9.out)
          · rw [HSUM.out]
            omega
          · exact (HM5.out.trans HN9.out).step HN10.out (fun i hi e => by have := (HHOQ.out.far' i e).1; omega)
        case measure => simp [intOf]; omega
    · obtain rfl : xln = k := by omega
      have hmy : nq ≤ WL + ((v.mem.take 0).map fun p => vW d p.2 + (6 * p.1.size + 4)).sum := by
        have h := take_sum_le v.list (fun x => vW d x + 1) xln
        rw [HWL.out] at h
        omega
      have HI1 : Hid (LvInvC w xb #[.int .i64 xk, .bool xf, .int .i64 xn, .string xw, .slice xla xln xlc, .slice xma xmn xmc] (lvL d v.list ps xln ++ lvM d v.mem ps 0) (WL + ((v.mem.take 0).map fun p => vW d p.2 + (6 * p.1.size + 4)).sum) Aq nq cq wr) := Lib.hid ⟨HX.out, ⟨qs, hoq0, by rw [show lvL d v.list ps xln ++ lvM d v.mem ps 0 = lvL d v.list ps xln from List.append_nil _]; exact hqp⟩, hmy, HM.out⟩
      clear hmy hmany hoq0 hqp
      have e0 := HX.out.cell 0
      have e1 := HX.out.cell 1
      have e2 := HX.out.cell 2
      have e3 := HX.out.cell 3
      have e4 := HX.out.cell 4
      have e5 := HX.out.cell 5
      have el := HX.out.lt
      have ef := HX.out.frozen
      simp only [List.getElem?_toArray, List.getElem?_cons_zero, List.getElem?_cons_succ] at e0 e1 e2 e3 e4 e5
      go_wp2_with fail
      clear e0 e1 e2 e3 e4 e5 el ef
      clear HX HM
      go_loopw [32, 5] (fun i s wr => ∃ (k : Nat) (Aq : Option Addr) (nq cq : Nat), k ≤ xmn ∧ i = .int .i64 k ∧ s = .slice Aq nq cq ∧ Hid (LvInvC w xb #[.int .i64 xk, .bool xf, .int .i64 xn, .string xw, .slice xla xln xlc, .slice xma xmn xmc] (lvL d v.list ps xln ++ lvM d v.mem ps k) (WL + ((v.mem.take k).map fun p => vW d p.2 + (6 * p.1.size + 4)).sum) Aq nq cq wr)) (fun i _ _ => xmn - (intOf i).toNat)
      case atStart => exact ⟨0, _, _, _, Nat.zero_le _, rfl, rfl, HI1⟩
      clear HI1
      case round =>
        rename World => wr
        obtain ⟨k, Aq, nq, cq, hk, rfl, rfl, HI⟩ := hrel
        have HX := Lib.hid HI.out.box
        have HM := Lib.hid HI.out.new
        have hmany := HI.out.many
        obtain ⟨qs, hoq0, hqp⟩ := HI.out.row
        clear HI
        by_cases hlt : k < xmn
        · have hkx : k < ms.length := by have := HL3.out.1; omega
          have hkv : k < v.mem.length := by have := HF6.out; omega
          obtain ⟨g2, o2, hA, htb, hc0⟩ := (HL3.out.sl.new HM.out).2 (by omega)
          subst hA
          have hgl := htb.lt
          have hty := HL4.out.get k hkx hkv
          have hwk := HWD.out.2.2.2.2 _ (List.getElem_mem hkv)
          have HSUM : Hid (((v.mem.take (k + 1)).map fun p => vW d p.2 + (6 * p.1.size + 4)).sum = ((v.mem.take k).map fun p => vW d p.2 + (6 * p.1.size + 4)).sum + (vW d v.mem[k].2 + (6 * v.mem[k].1.size + 4))) := Lib.hid (take_sum v.mem (fun p => vW d p.2 + (6 * p.1.size + 4)) k hkv)
          have HNX : Hid (lvL d v.list ps xln ++ lvM d v.mem ps (k + 1) = (lvL d v.list ps xln ++ lvM d v.mem ps k) ++ leavesT d v.mem[k].2 (ps ++ [⟨true, ms[k].name, (0 : Int)⟩])) := Lib.hid (by rw [lvM_next d hkv, List.append_assoc, hty.1])
          have hle := vW_member d v hkv
          have hwle : ((v.mem.take (k + 1)).map fun p => vW d p.2 + (6 * p.1.size + 4)).sum ≤ WM := by rw [← HWM.out]; exact take_sum_le _ _ _
          rw [HSUM.out] at hwle
          have IHH := Lib.hid (fun A' n' c' ps' W (h : New wr W) h2 h3 h4 => IH ms[k].v v.mem[k].2 A' n' c' ps' W (hty.2.any.new (HM.out.trans h)) hwk.2 h2 h3 h4 (by omega))
          have hnm : ms[k].name.size ≤ 100000 := by rw [hty.1]; exact hwk.1
          have hc := fun j (hj : j < 7) => hc0 k hkx j hj
          clear hc0 htb hty hwk hle
          generalize ((v.mem.take k).map fun p => vW d p.2 + (6 * p.1.size + 4)).sum = SK at *
          generalize vW d v.mem[k].2 = VK at *
          generalize v.mem[k].1.size = NK at *
          generalize ms[k] = z at *
          obtain ⟨zn0, zk, zf, zn, zw, zla, zln, zlc, zma, zmn, zmc⟩ := z
          have b0 := hc 0 (by omega)
          have b1 := hc 1 (by omega)
          have b2 := hc 2 (by omega)
          have b3 := hc 3 (by omega)
          have b4 := hc 4 (by omega)
          have b5 := hc 5 (by omega)
          have b6 := hc 6 (by omega)
          simp only [MA.enc, VA.enc, Nat.add_zero, Nat.zero_add] at b0 b1 b2 b3 b4 b5 b6
          clear hc
          have hb2 : (0 : Int) ≤ k := by omega
          have hb3 : (k : Int) < xmn := by omega
          have m5 : New wr (wr.alloc (.cells #[.string zn0, .int .i64 zk, .bool zf, .int .i64 zn, .string zw, .slice zla zln zlc, .slice zma zmn zmc] 66)) := (Mod.refl _ _).alloc _
          have hlb := Blk.new wr 66 #[.string zn0, .int .i64 zk, .bool zf, .int .i64 zn, .string zw, .slice zla zln zlc, .slice zma zmn zmc]
          go_upto_region 10 with (fail)
          have hszr : xb < wr.heap.size := HX.out.lt
          have IHH5 := Lib.hid (fun A' n' c' ps' W (h : New (wr.alloc (.cells #[.string zn0, .int .i64 zk, .bool zf, .int .i64 zn, .string zw, .slice zla zln zlc, .slice zma zmn zmc] 66)) W) => IHH.out A' n' c' ps' W (m5.trans h))
          clear IHH
          have IHH := IHH5
          clear IHH5
          generalize wr.alloc (.cells #[.string zn0, .int .i64 zk, .bool zf, .int .i64 zn, .string zw, .slice zla zln zlc, .slice zma zmn zmc] 66) = w5 at *
          have HX5 := Lib.hid (HX.out.mod m5 (fun e => e))
          have HM5 := Lib.hid (HM.out.trans m5)
          have HOQ := Lib.hid (hoq0.new m5)
          have HQP := Lib.hid (Al.imp (fun _ _ h => PthIs.new h m5) hqp)
          have hfarq := hoq0.far'
          have hxlt : xb < w5.heap.size := HX5.out.lt
          have HCLS : Hid (∀ W, New w5 W → Calls Tryz.prog 38 #[.slice A n c] W (RCloneS W n ps)) := Lib.hid (fun W h => cloneS ps A n c W (HS.out.new (HM5.out.trans h)) (by omega))
          clear m5 HX HM hoq0 hqp
          have HSL : Hid (∀ W, Mod (fun i => blkOf Aq = some i) w5 W → W.cell? ⟨wr.heap.size, 0, none⟩ = some (.string zn0) ∧ W.cell? ⟨wr.heap.size, 1, none⟩ = some (.int .i64 zk) ∧ W.cell? ⟨wr.heap.size, 2, none⟩ = some (.bool zf) ∧ W.cell? ⟨wr.heap.size, 3, none⟩ = some (.int .i64 zn) ∧ W.cell? ⟨wr.heap.size, 4, none⟩ = some (.string zw) ∧ W.cell? ⟨wr.heap.size, 5, none⟩ = some (.slice zla zln zlc) ∧ W.cell? ⟨wr.heap.size, 6, none⟩ = some (.slice zma zmn zmc) ∧ wr.heap.size < W.heap.size) := Lib.hid (fun W hW => by
            have h1 := hlb.mod hW (fun e => by have := (hfarq _ e).2.1; omega)
            exact ⟨(h1.cell 0).trans rfl, (h1.cell 1).trans rfl, (h1.cell 2).trans rfl, (h1.cell 3).trans rfl, (h1.cell 4).trans rfl, (h1.cell 5).trans rfl, (h1.cell 6).trans rfl, h1.lt⟩)
          clear b0 b1 b2 b3 b4 b5 b6 hgl hlb
          generalize wr.heap.size = lb at *
          have HSTV : Hid ((⟨true, zn0, (0 : Int)⟩ : St).name.size ≤ 100000) := Lib.hid hnm
          clear hnm
          refine wp_region_held_tree (Mod (fun i => blkOf Aq = some i) w5) 12 (by kernel_rfl) (by kernel_rfl) ?_
          have hn0 : Mod (fun i => blkOf Aq = some i) w5 w5.drew := (Mod.refl _ _).drew
          have hn1 : New w5 w5.drew := (Mod.refl _ _).drew
          refine headW_take 0 _ ?_ (fun _ _ d _ _ h => by cases d <;> exact h) (by kernel_rfl) rfl (by kernel_rfl) hn0 (by rfl) (fun W hSw => ?_) ?_
          rotate_left
          · (have hq := HSL.out W hSw); (try simp only [List.getElem_toArray, List.getElem_cons_zero, List.getElem_cons_succ]); go_simp; any_goals (with_reducible rfl)
          simp only [Act.put, List.getElem_toArray, List.getElem_cons_zero, List.getElem_cons_succ, List.setIfInBounds_toArray, List.set_cons_zero, List.set_cons_succ]
          refine headW_take 1 _ ?_ (fun _ _ d _ _ h => by cases d <;> exact h) (by kernel_rfl) rfl (by kernel_rfl) hn0 (by rfl) (fun W hSw => ?_) ?_
          rotate_left
          · (have hq := HSL.out W hSw); (try simp only [List.getElem_toArray, List.getElem_cons_zero, List.getElem_cons_succ]); go_simp; any_goals (with_reducible rfl)
          simp only [Act.put, List.getElem_toArray, List.getElem_cons_zero, List.getElem_cons_succ, List.setIfInBounds_toArray, List.set_cons_zero, List.set_cons_succ]
          refine headW_take 2 _ ?_ (fun _ _ d _ _ h => by cases d <;> exact h) (by kernel_rfl) rfl (by kernel_rfl) hn0 (by rfl) (fun W hSw => ?_) ?_
          rotate_left
          · (have hq := HSL.out W hSw); (try simp only [List.getElem_toArray, List.getElem_cons_zero, List.getElem_cons_succ]); go_simp; any_goals (with_reducible rfl)
          simp only [Act.put, List.getElem_toArray, List.getElem_cons_zero, List.getElem_cons_succ, List.setIfInBounds_toArray, List.set_cons_zero, List.set_cons_succ]
          refine headW_take 3 _ ?_ (fun _ _ d _ _ h => by cases d <;> exact h) (by kernel_rfl) rfl (by kernel_rfl) hn0 (by rfl) (fun W hSw => ?_) ?_
          rotate_left
          · (have hq := HSL.out W hSw); (try simp only [List.getElem_toArray, List.getElem_cons_zero, List.getElem_cons_succ]); go_simp; any_goals (with_reducible rfl)
          simp only [Act.put, List.getElem_toArray, List.getElem_cons_zero, List.getElem_cons_succ, List.setIfInBounds_toArray, List.set_cons_zero, List.set_cons_succ]
          refine headW_take 5 _ ?_ (fun _ _ d _ _ h => by cases d <;> exact h) (by kernel_rfl) rfl (by kernel_rfl) hn0 (by rfl) (fun W hSw => ?_) ?_
          rotate_left
          · (have hq := HSL.out W hSw); (try simp only [List.getElem_toArray, List.getElem_cons_zero, List.getElem_cons_succ]); go_simp; any_goals (with_reducible rfl)
          simp only [Act.put, List.getElem_toArray, List.getElem_cons_zero, List.getElem_cons_succ, List.setIfInBounds_toArray, List.set_cons_zero, List.set_cons_succ]
          refine headW_take 6 _ ?_ (fun _ _ d _ _ h => by cases d <;> exact h) (by kernel_rfl) rfl (by kernel_rfl) hn0 (by rfl) (fun W hSw => ?_) ?_
          rotate_left
          · (have hq := HSL.out W hSw); (try simp only [List.getElem_toArray, List.getElem_cons_zero, List.getElem_cons_succ]); go_simp; any_goals (with_reducible rfl)
          simp only [Act.put, List.getElem_toArray, List.getElem_cons_zero, List.getElem_cons_succ, List.setIfInBounds_toArray, List.set_cons_zero, List.set_cons_succ]
          refine headW_take 7 _ ?_ (fun _ _ d _ _ h => by cases d <;> exact h) (by kernel_rfl) rfl (by kernel_rfl) hn0 (by rfl) (fun W hSw => ?_) ?_
          rotate_left
          · (have hq := HSL.out W hSw); (try simp only [List.getElem_toArray, List.getElem_cons_zero, List.getElem_cons_succ]); go_simp; any_goals (with_reducible rfl)
          simp only [Act.put, List.getElem_toArray, List.getElem_cons_zero, List.getElem_cons_succ, List.setIfInBounds_toArray, List.set_cons_zero, List.set_cons_succ]
          refine headW_ready [4, 8] (by kernel_rfl) (by rfl) ?_
          refine eachW_step rfl rfl (fun K hK => ?_) (eachW_step rfl rfl (fun K hK => ?_) eachW_nil)
          · have hcl := HCLS.out _ hn1
            (try simp only [List.getElem_toArray, List.getElem_cons_zero, List.getElem_cons_succ])
            go_simp
            refine hcl.mono ?_
            clear hcl
            rintro e w6 ⟨A6, c6, rfl, own6, m6⟩
            have HN6 := Lib.hid (hn1.trans m6)
            have HOW6 : Hid (Own w6 w5.heap.size 46 3 St.enc A6 n c6 ps) := Lib.hid own6
            clear own6 m6
            go_wp2_with fail
            refine hK.out _ _ (HN6.out.mono (fun _ _ e => e.elim)) (fun _ => ?_)
            clear hK K
            (try simp only [Act.put, List.getElem_toArray, List.getElem_cons_zero, List.getElem_cons_succ, List.setIfInBounds_toArray, List.set_cons_zero, List.set_cons_succ])
            refine headW_ready [8] (by kernel_rfl) (by rfl) ?_
            refine eachW_step rfl rfl (fun K hK => ?_) eachW_nil
            have HBL : Hid (Blk (w6.alloc (.cells #[.bool true, .string zn0, .int .i64 0] 46)) w6.heap.size 46 (encL 3 St.enc ⟨true, zn0, (0 : Int)⟩).toArray) := Lib.hid (Blk.new _ _ _)
            have HMA : Hid (New w6 (w6.alloc (.cells #[.bool true, .string zn0, .int .i64 0] 46))) := Lib.hid ((Mod.refl _ _).alloc _)
            (try simp only [List.getElem_toArray, List.getElem_cons_zero, List.getElem_cons_succ])
            go_simp
            have HOW := Lib.hid (HOW6.out.new HMA.out)
            have HN := Lib.hid (HN6.out.trans HMA.out)
            refine hK.out _ _ (HN.out.mono (fun _ _ e => e.elim)) (fun _ => ?_)
            clear hK K HOW6 HN6 HMA
            (try simp only [Act.put, List.getElem_toArray, List.getElem_cons_zero, List.getElem_cons_succ, List.setIfInBounds_toArray, List.set_cons_zero, List.set_cons_succ])
            generalize w6.alloc (.cells #[.bool true, .string zn0, .int .i64 0] 46) = wa at *
            generalize w6.heap.size = bi at *
            refine headW_ready [9] (by kernel_rfl) (by rfl) ?_
            refine eachW_step rfl rfl (fun K hK => ?_) eachW_nil
            have hblp := HBL.out
            have hszp := HN.out.size
            refine wp_push (.tmp 40) (.tmp 44) _ rfl 32 Tryz.underlying32 einfo_step rfl (by exact HOW.out) ⟨true, zn0, (0 : Int)⟩ bi rfl (by exact hblp) (fun j hj => St.one _ j hj) (by omega) (by omega) (by omega) ?_
            intro g8 cap8 w8 own8 hm8 hat8 hlt8
            have HN8 := Lib.hid (HN.out.step hm8 (fun i hi e => by have := (HOW.out.far' i e).1; omega))
            refine hK.out _ _ (HN8.out.mono (fun _ _ e => e.elim)) (fun _ => ?_)
            clear hK K hblp hat8 hlt8 hm8
            (try simp only [Act.put, List.getElem_toArray, List.getElem_cons_zero, List.getElem_cons_succ, List.setIfInBounds_toArray, List.set_cons_zero, List.set_cons_succ])
            refine headW_ready [10] (by kernel_rfl) (by rfl) ?_
            refine eachW_step rfl rfl (fun K hK => ?_) eachW_nil
            have hih := IHH.out (some ⟨g8, 0, none⟩) (n + 1) cap8 (ps ++ [⟨true, zn0, (0 : Int)⟩]) w8 HN8.out own8.sl (by omega) (fun s hs => by
              rcases List.mem_append.1 hs with h | h
              · exact HPS.out s h
              · rw [List.mem_singleton.1 h]; exact HSTV.out)
            (try simp only [List.getElem_toArray, List.getElem_cons_zero, List.getElem_cons_succ])
            go_simp
            refine hih.mono ?_
            clear hih own8
            rintro e w9 ⟨A9, n9, c9, qs9, rfl, hq9, hp9, h09, hle9, hcap9, m9⟩
            have HN9 := Lib.hid (HN8.out.trans m9)
            clear m9
            go_wp2_with fail
            refine hK.out _ _ (HN9.out.mono (fun _ _ e => e.elim)) (fun _ => ?_)
            clear hK K
            (try simp only [Act.put, List.getElem_toArray, List.getElem_cons_zero, List.getElem_cons_succ, List.setIfInBounds_toArray, List.set_cons_zero, List.set_cons_succ])
            obtain ⟨g9, o9, hA9, -, -⟩ := hq9.2 h09
            subst hA9
            refine headW_ready [11] (by kernel_rfl) (by rfl) ?_
            refine eachW_step rfl rfl (fun K hK => ?_) eachW_nil
            have hoq := HOQ.out.new HN9.out
            have hsz9 := HN9.out.size
            refine wp_pushAll (.tmp 36) (.tmp 46) _ rfl 24 Tryz.underlying49 einfo_path rfl (by exact hoq) qs9 g9 o9 n9 c9 rfl (by exact hq9) h09 (fun y _ j _ => PA.one y j) (by omega) (by omega) (by omega) ?_
            intro g10 cap10 w10 own10 hm10 hat10 hlt10
            refine hK.out _ _ ((HN9.out.mono (fun _ _ e => e.elim)).trans hm10) (fun _ => ?_)
            clear hK K
            (try simp only [Act.put, List.getElem_toArray, List.getElem_cons_zero, List.getElem_cons_succ, List.setIfInBounds_toArray, List.set_cons_zero, List.set_cons_succ])
            refine headW_done (by kernel_rfl) ?_
            have HN10 := Lib.hid hm10
            have HOW10 := Lib.hid own10
            have HHOQ := Lib.hid hoq
            have HP9 := Lib.hid hp9
            clear hat10 hlt10 own10 hm10 hoq hp9 hq9
            go_wp2_with fail
            go_roundw
            case rel =>
              have hty : ∀ g, TB w9 g 46 → ¬ blkOf Aq = some g := fun g ht e => (ht.ne (HHOQ.out.far' g e).2.2 (by decide)) rfl
              refine ⟨k + 1, _, _, _, by omega, by go_num, rfl, Lib.hid ⟨?_, ⟨_, HOW10.out, ?_⟩, ?_, ?_⟩⟩
              · exact (HX5.out.mod HN9.out (fun e => e)).mod HN10.out (fun e => by have := (HHOQ.out.far' _ e).1; omega)
              · rw [HNX.out]
                exact Al.append (Al.imp (fun _ _ h => (h.new HN9.out).mod HN10.out hty) HQP.out) (Al.imp (fun _ _ h => h.mod HN10.out hty) HP9.out)
              · rw [HSUM.out]
                omega
              · exact (HM5.out.trans HN9.out).step HN10.out (fun i hi e => by have := (HHOQ.out.far' i e).1; omega)
            case measure => simp [intOf]; omega
          · have HB0 : Blk (w5.alloc (.cells #[.bool true, .string zn0, .int .i64 0] 46)) w5.heap.size 46 (encL 3 St.enc ⟨true, zn0, (0 : Int)⟩).toArray := Blk.new _ _ _
            have HNa : Hid (New w5 (World.drew (w5.alloc (.cells #[.bool true, .string zn0, .int .i64 0] 46)))) := Lib.hid (((Mod.refl _ _).alloc _).drew)
            have HBL0 : Hid (Blk (World.drew (w5.alloc (.cells #[.bool true, .string zn0, .int .i64 0] 46))) w5.heap.size 46 (encL 3 St.enc ⟨true, zn0, (0 : Int)⟩).toArray) := Lib.hid (HB0.mod (Mod.drew (Mod.refl (fun _ => False) _)) (fun e => e))
            clear HB0
            have hbi : w5.heap.size < (World.drew (w5.alloc (.cells #[.bool true, .string zn0, .int .i64 0] 46))).heap.size := HBL0.out.lt
            (try simp only [List.getElem_toArray, List.getElem_cons_zero, List.getElem_cons_succ])
            go_simp
            refine hK.out _ _ (HNa.out.mono (fun _ _ e => e.elim)) (fun _ => ?_)
            clear hK K
            (try simp only [Act.put, List.getElem_toArray, List.getElem_cons_zero, List.getElem_cons_succ, List.setIfInBounds_toArray, List.set_cons_zero, List.set_cons_succ])
            generalize World.drew (w5.alloc (.cells #[.bool true, .string zn0, .int .i64 0] 46)) = wa at *
            refine headW_ready [4] (by kernel_rfl) (by rfl) ?_
            refine eachW_step rfl rfl (fun K hK => ?_) eachW_nil
            have hcl := HCLS.out _ HNa.out
            (try simp only [List.getElem_toArray, List.getElem_cons_zero, List.getElem_cons_succ])
            go_simp
            refine hcl.mono ?_
            clear hcl
            rintro e w6 ⟨A6, c6, rfl, own6, m6⟩
            have HN := Lib.hid (HNa.out.trans m6)
            have HOW : Hid (Own w6 w5.heap.size 46 3 St.enc A6 n c6 ps) := Lib.hid (own6.less (Nat.le_of_lt hbi))
            have HBL := Lib.hid (HBL0.out.mod m6 (fun e => e))
            clear own6 m6
            go_wp2_with fail
            refine hK.out _ _ (HN.out.mono (fun _ _ e => e.elim)) (fun _ => ?_)
            clear hK K
            (try simp only [Act.put, List.getElem_toArray, List.getElem_cons_zero, List.getElem_cons_succ, List.setIfInBounds_toArray, List.set_cons_zero, List.set_cons_succ])
            refine headW_ready [9] (by kernel_rfl) (by rfl) ?_
            refine eachW_step rfl rfl (fun K hK => ?_) eachW_nil
            have hblp := HBL.out
            have hszp := HN.out.size
            refine wp_push (.tmp 40) (.tmp 44) _ rfl 32 Tryz.underlying32 einfo_step rfl (by exact HOW.out) ⟨true, zn0, (0 : Int)⟩ w5.heap.size rfl (by exact hblp) (fun j hj => St.one _ j hj) (by omega) (by omega) (by omega) ?_
            intro g8 cap8 w8 own8 hm8 hat8 hlt8
            have HN8 := Lib.hid (HN.out.step hm8 (fun i hi e => by have := (HOW.out.far' i e).1; omega))
            refine hK.out _ _ (HN8.out.mono (fun _ _ e => e.elim)) (fun _ => ?_)
            clear hK K hblp hat8 hlt8 hm8
            (try simp only [Act.put, List.getElem_toArray, List.getElem_cons_zero, List.getElem_cons_succ, List.setIfInBounds_toArray, List.set_cons_zero, List.set_cons_succ])
            refine headW_ready [10] (by kernel_rfl) (by rfl) ?_
            refine eachW_step rfl rfl (fun K hK => ?_) eachW_nil
            have hih := IHH.out (some ⟨g8, 0, none⟩) (n + 1) cap8 (ps ++ [⟨true, zn0, (0 : Int)⟩]) w8 HN8.out own8.sl (by omega) (fun s hs => by
              rcases List.mem_append.1 hs with h | h
              · exact HPS.out s h
              · rw [List.mem_singleton.1 h]; exact HSTV.out)
            (try simp only [List.getElem_toArray, List.getElem_cons_zero, List.getElem_cons_succ])
            go_simp
            refine hih.mono ?_
            clear hih own8
            rintro e w9 ⟨A9, n9, c9, qs9, rfl, hq9, hp9, h09, hle9, hcap9, m9⟩
            have HN9 := Lib.hid (HN8.out.trans m9)
            clear m9
            go_wp2_with fail
            refine hK.out _ _ (HN9.out.mono (fun _ _ e => e.elim)) (fun _ => ?_)
            clear hK K
            (try simp only [Act.put, List.getElem_toArray, List.getElem_cons_zero, List.getElem_cons_succ, List.setIfInBounds_toArray, List.set_cons_zero, List.set_cons_succ])
            obtain ⟨g9, o9, hA9, -, -⟩ := hq9.2 h09
            subst hA9
            refine headW_ready [11] (by kernel_rfl) (by rfl) ?_
            refine eachW_step rfl rfl (fun K hK => ?_) eachW_nil
            have hoq := HOQ.out.new HN9.out
            have hsz9 := HN9.out.size
            refine wp_pushAll (.tmp 36) (.tmp 46) _ rfl 24 Tryz.underlying49 einfo_path rfl (by exact hoq) qs9 g9 o9 n9 c9 rfl (by exact hq9) h09 (fun y _ j _ => PA.one y j) (by omega) (by omega) (by omega) ?_
            intro g10 cap10 w10 own10 hm10 hat10 hlt10
            refine hK.out _ _ ((HN9.out.mono (fun _ _ e => e.elim)).trans hm10) (fun _ => ?_)
            clear hK K
            (try simp only [Act.put, List.getElem_toArray, List.getElem_cons_zero, List.getElem_cons_succ, List.setIfInBounds_toArray, List.set_cons_zero, List.set_cons_succ])
            refine headW_done (by kernel_rfl) ?_
            have HN10 := Lib.hid hm10
            have HOW10 := Lib.hid own10
            have HHOQ := Lib.hid hoq
            have HP9 := Lib.hid hp9
            clear hat10 hlt10 own10 hm10 hoq hp9 hq9
            go_wp2_with fail
            go_roundw
            case rel =>
              have hty : ∀ g, TB w9 g 46 → ¬ blkOf Aq = some g := fun g ht e => (ht.ne (HHOQ.out.far' g e).2.2 (by decide)) rfl
              refine ⟨k + 1, _, _, _, by omega, by go_num, rfl, Lib.hid ⟨?_, ⟨_, HOW10.out, ?_⟩, ?_, ?_⟩⟩
              · exact (HX5.out.mod HN9.out (fun e => e)).mod HN10.out (fun e => by have := (HHOQ.out.far' _ e).1; omega)
              · rw [HNX.out]
                exact Al.append (Al.imp (fun _ _ h => (h.new HN9.out).mod HN10.out hty) HQP.out) (Al.imp (fun _ _ h => h.mod HN10.out hty) HP9.out)
              · rw [HSUM.out]
                omega
              · exact (HM5.out.trans HN9.out).step HN10.out (fun i hi e => by have := (HHOQ.out.far' i e).1; omega)
            case measure => simp [intOf]; omega
        · obtain rfl : xmn = k := by omega
          have hwt : nq ≤ WT := by
            have h := take_sum_le v.mem (fun p => vW d p.2 + (6 * p.1.size + 4)) xmn
            rw [HWM.out] at h
            omega
          have HQ := Lib.hid hoq0
          have HQP := Lib.hid hqp
          have HLEN : Hid (nq = (lvL d v.list ps v.list.length ++ lvM d v.mem ps v.mem.length).length) := Lib.hid (by
            have h1 := hqp.len
            have h2 := hoq0.1
            have h5 := HF5.out
            have h6 := HF6.out
            rw [← show xln = v.list.length by omega, ← show xmn = v.mem.length by omega, ← h1, h2])
          have HLE : Hid (lvL d v.list ps xln ++ lvM d v.mem ps xmn = lvL d v.list ps v.list.length ++ lvM d v.mem ps v.mem.length) := Lib.hid (by
            have h5 := HF5.out
            have h6 := HF6.out
            rw [← show xln = v.list.length by omega, ← show xmn = v.mem.length by omega])
          clear hoq0 hqp hmany
          by_cases h0 : nq = 0
          · have h0b : ((nq : Int) == 0) = true := by simp; omega
            have hcl := cloneS ps A n c wr (HS.out.new HM.out) (by omega)
            have HNL : Hid (leavesT (d + 1) v ps = [ps]) := Lib.hid (leavesT_none (List.eq_nil_of_length_eq_zero (by rw [← HLEN.out]; exact h0)))
            clear h0
            go_wp2_with fail
            refine hcl.mono ?_
            clear hcl
            rintro e w6 ⟨A6, c6, rfl, own6, m6⟩
            have HOW6 := Lib.hid own6
            have HM6 := Lib.hid (HM.out.trans m6)
            clear own6 m6
            go_wp2_with fail
            go_ret
            have ma : New w6 (w6.alloc (.cells #[.slice A6 n c6] 32)) := (Mod.refl _ _).alloc _
            refine ⟨some ⟨w6.heap.size, 0, none⟩, 1, 1, [⟨A6, n, c6⟩], rfl, Sl.of_blk (Blk.new _ _ _) rfl (fun i h j hj => ?_), ?_, by omega, by omega, by omega, HM6.out.trans ma⟩
            · simp only [List.length_cons, List.length_nil] at h
              obtain rfl : i = 0 := by omega
              obtain rfl : j = 0 := by omega
              rfl
            · rw [HNL.out]
              exact Al.one ⟨(HOW6.out.new ma).sl, HOW6.out.cap, HOW6.out.noneC⟩
          · have h0b : ((nq : Int) == 0) = false := by simp; omega
            have HNS : Hid (leavesT (d + 1) v ps = lvL d v.list ps xln ++ lvM d v.mem ps xmn) := Lib.hid (by
              rw [HLE.out]
              exact leavesT_some (fun e => h0 (by rw [HLEN.out, e]; rfl)))
            go_wp2_with fail
            go_ret
            exact ⟨Aq, nq, cq, qs, rfl, HQ.out.sl, by rw [HNS.out]; exact HQP.out, by omega, hwt, HQ.out.cap, HM.out⟩

theorem leavesC_v : ∀ d, LvSpecC d
  | 0 => fun x v A n c ps w ht => ht.elim
  | d + 1 => leavesC_walk d (leavesC_v d)

end Go.Proofs.YtpgcbehpknghdaaGreatDoor

namespace Go.Proofs.YtpgcbehpknghdaaGreatDoor
open Go.RowKit
set_option linter.unusedVariables false
set_option linter.unusedSimpArgs false

set_option maxRecDepth 100000 in
set_option maxHeartbeats 700000 in
theorem equal_steps (zs : List St) (A1 A2 : Option Addr) (n c1 c2 : Nat) (w : World) (h1 : Sl w 46 3 St.enc A1 n zs) (h2 : Sl w 46 3 St.enc A2 n zs) (hn : n ≤ 1000000) :
    Calls Tryz.prog 16 #[.slice A1 n c1, .slice A2 n c2] w fun e w' => e = .returned (.bool true) ∧ New w w' := by
  have hlen := h1.1
  have H1 := Lib.hid h1
  have H2 := Lib.hid h2
  clear h1 h2
  go_enter Tryz.func16, Tryz.ntmps16
  go_wp2_with fail
  go_loopw [5, 13] (fun _ i wr => ∃ k : Nat, k ≤ n ∧ i = .int .i64 k ∧ ∃ q, wr = w.drewN q) (fun _ i _ => n - (intOf i).toNat)
  case atStart => exact ⟨0, Nat.zero_le _, rfl, 0, rfl⟩
  case round =>
    obtain ⟨k, hk, rfl, q, rfl⟩ := hrel
    by_cases hlt : k < n
    · obtain ⟨g1, o1, hA1, t1, k1⟩ := H1.out.2 (by omega)
      obtain ⟨g2, o2, hA2, t2, k2⟩ := H2.out.2 (by omega)
      subst hA1 hA2
      have a0 := k1 k (by omega) 0 (by omega)
      have a1 := k1 k (by omega) 1 (by omega)
      have a2 := k1 k (by omega) 2 (by omega)
      have b0 := k2 k (by omega) 0 (by omega)
      have b1 := k2 k (by omega) 1 (by omega)
      have b2 := k2 k (by omega) 2 (by omega)
      simp only [St.enc, Nat.add_zero] at a0 a1 a2 b0 b1 b2
      have l1 := t1.lt
      have l2 := t2.lt
      have hb1 : (0 : Int) ≤ k := by omega
      have hb2 : (k : Int) < n := by omega
      clear k1 k2
      generalize zs[k] = z at *
      obtain ⟨nm, sn, at_⟩ := z
      simp only at a0 a1 a2 b0 b1 b2
      go_wp2_with fail
      go_quiet (fail)
      go_wp2_with fail
      exact ⟨⟨k + 1, by omega, by go_num, _, rfl⟩, by simp [intOf]; omega⟩
    · obtain rfl : k = n := by omega
      go_wp2_with fail
      go_ret
      exact ⟨rfl, (Mod.refl _ _).drewN _⟩

set_option maxHeartbeats 400000 in
theorem pathsLead1 (ps : List St) (x y : PA) (w : World) (hx : PthIs w x ps) (hy : PthIs w y ps) (hn : ps.length ≤ 1000000) :
    Calls Tryz.prog 21 #[.slice x.a x.n x.c, .slice y.a y.n y.c] w fun e w' => e = .returned (.bool true) ∧ New w w' := by
  have e1 := hx.1.1
  have e2 := hy.1.1
  have h2 := hy.1
  rw [show y.n = x.n by omega] at h2 ⊢
  have he := equal_steps ps x.a y.a x.n x.c y.c w hx.1 h2 (by omega)
  generalize x.a = xa at *
  generalize y.a = ya at *
  generalize x.n = xn at *
  generalize x.c = xc at *
  generalize y.c = yc at *
  clear hx hy e1 e2 h2
  go_enter Tryz.func21, Tryz.ntmps21
  go_wp2_with fail
  refine he.mono ?_
  clear he
  rintro e w2 ⟨rfl, hm⟩
  have HM := Lib.hid hm
  clear hm
  go_wp2_with fail
  go_ret
  exact ⟨rfl, HM.out⟩
theorem enters_pathsLead1 (args : Array Value) (w : World) : (callFunc 21 args).run Tryz.prog w = .ok (.enter 21 args) w := by
  go_simp
set_option maxRecDepth 100000 in
set_option maxHeartbeats 700000 in
theorem equal_paths (L : List (List St)) (xs ys : List PA) (A1 A2 : Option Addr) (n c1 c2 : Nat) (w : World) (h1 : Sl w 32 1 PA.enc A1 n xs) (h2 : Sl w 32 1 PA.enc A2 n ys) (k1 : Al (PthIs w) xs L) (k2 : Al (PthIs w) ys L) (hn : n ≤ 1000000) (hL : ∀ p ∈ L, p.length ≤ 1000000) :
    Calls Tryz.prog 19 #[.slice A1 n c1, .slice A2 n c2, .func (.func 21) #[] #[]] w fun e w' => e = .returned (.bool true) ∧ New w w' := by
  have HS1 := Lib.hid h1
  have HS2 := Lib.hid h2
  have HK1 := Lib.hid k1
  have HK2 := Lib.hid k2
  have HL := Lib.hid hL
  have hx1 := h1.1
  have hx2 := h2.1
  have hl1 := k1.len
  have eg := enters_pathsLead1
  clear h1 h2 k1 k2 hL
  go_enter Tryz.func19, Tryz.ntmps19
  go_wp2_with fail
  go_loopw [17] (fun i wr => ∃ k : Nat, k ≤ n ∧ i = .int .i64 k ∧ Hid (New w wr)) (fun i _ => n - (intOf i).toNat)
  case atStart => exact ⟨0, Nat.zero_le _, rfl, Lib.hid (Mod.refl _ _)⟩
  case round =>
    rename World => wr
    obtain ⟨k, hk, rfl, HM⟩ := hrel
    by_cases hlt : k < n
    · have hkx : k < xs.length := by omega
      have hky : k < ys.length := by omega
      have hkl : k < L.length := by omega
      obtain ⟨g1, o1, hA1, ht1, hc1⟩ := (HS1.out.new HM.out).2 (by omega)
      obtain ⟨g2, o2, hA2, ht2, hc2⟩ := (HS2.out.new HM.out).2 (by omega)
      subst hA1 hA2
      have a0 := hc1 k hkx 0 (by omega)
      have b0 := hc2 k hky 0 (by omega)
      simp only [PA.enc, Nat.add_zero, Nat.mul_one] at a0 b0
      have l1 := ht1.lt
      have l2 := ht2.lt
      have hb1 : (0 : Int) ≤ k := by omega
      have hb2 : (k : Int) < n := by omega
      have hcall := pathsLead1 L[k] xs[k] ys[k] wr ((HK1.out.get k hkx hkl).new HM.out) ((HK2.out.get k hky hkl).new HM.out) (HL.out _ (List.getElem_mem _))
      clear hc1 hc2 ht1 ht2
      generalize xs[k] = x at *
      generalize ys[k] = y at *
      obtain ⟨xa, xn, xc⟩ := x
      obtain ⟨ya, yn, yc⟩ := y
      simp only at a0 b0 hcall
      go_wp2_with fail
      refine hcall.mono ?_
      clear hcall
      rintro e w2 ⟨rfl, hm2⟩
      have HM2 := Lib.hid (HM.out.trans hm2)
      clear hm2
      go_wp2_with fail
      go_roundw
      case rel => exact ⟨k + 1, by omega, by go_num, HM2⟩
      case measure => simp [intOf]; omega
    · obtain rfl : k = n := by omega
      go_wp2_with fail
      go_ret
      exact ⟨rfl, HM.out⟩

end Go.Proofs.YtpgcbehpknghdaaGreatDoor

namespace Go.Proofs.YtpgcbehpknghdaaGreatDoor
open Go.RowKit
set_option linter.unusedVariables false
set_option linter.unusedSimpArgs false

set_option maxHeartbeats 400000 in
theorem val_named (s : ByteArray) (w : World) : Calls Tryz.prog 80 #[.string s] w fun e w' => e = .returned (.agg #[.bool true, .string s, .int .i64 0]) ∧ New w w' := by
  have hR := Blk.new w 46 #[.bool false, .string ⟨#[]⟩, .int .i64 0]
  have hm1 : New w (w.alloc (.cells #[.bool false, .string ⟨#[]⟩, .int .i64 0] 46)) := (Mod.refl _ _).alloc _
  go_enter Tryz.func80, Tryz.ntmps80
  go_upto_region 1 with fail
  generalize w.alloc (.cells #[.bool false, .string ⟨#[]⟩, .int .i64 0] 46) = w1 at *
  generalize hrb : w.heap.size = rb at *
  have R := Lib.hid hR
  have HM := Lib.hid hm1
  have hcR := hR.cell
  have hfR := hR.frozen
  have rlt := hR.lt
  clear hR hm1
  have HMF := Lib.hid (fun (v0 v1 v2 : Value) => (Mod.setCell (S := fun k => k = rb) (p := ⟨rb, 2, none⟩) (Mod.setCell (S := fun k => k = rb) (p := ⟨rb, 1, none⟩) (Mod.setCell (S := fun k => k = rb) (p := ⟨rb, 0, none⟩) (Mod.refl _ w1) (.inl rfl) v0) (.inl rfl) v1) (.inl rfl) v2))
  go_wp2_with fail
  refine bodyPost_ret (v := .agg #[.bool true, .string s, .int .i64 0]) (by simp [results, Tryz.results80, go_sem, hcR, hfR, rlt]) rfl ?_
  exact ⟨rfl, HM.out.step (HMF.out _ _ _) (fun i hi e => by omega)⟩
def RBehind (w : World) (n : Nat) (ps : List St) (e : Ending) (w' : World) : Prop := ∃ A' c', e = .returned (.slice A' (n + 1) c') ∧ Own w' w.heap.size 46 3 St.enc A' (n + 1) c' ps ∧ New w w'
set_option maxRecDepth 100000 in
set_option maxHeartbeats 700000 in
theorem val_behindPath (A : Option Addr) (n c : Nat) (ps : List St) (st : St) (w : World) (hs : Sl w 46 3 St.enc A n ps) (hn : n ≤ 1000) :
    Calls Tryz.prog 79 #[.slice A n c, st.val] w (RBehind w n (ps ++ [st]) ) := by
  obtain ⟨nm, sn, at_⟩ := st
  have hx := Blk.new w 46 #[.bool nm, .string sn, .int .i64 at_]
  have hm1 : New w (w.alloc (.cells #[.bool nm, .string sn, .int .i64 at_] 46)) := (Mod.refl _ _).alloc _
  have hcl := fun W (h : New w W) => cloneS ps A n c W (hs.new h) (by omega)
  have HCL := Lib.hid hcl
  clear hs hcl
  unfold St.val
  simp only
  go_enter Tryz.func79, Tryz.ntmps79
  go_upto_region 1 with fail
  generalize w.alloc (.cells #[.bool nm, .string sn, .int .i64 at_] 46) = w1 at *
  have hwz : w.heap.size < w1.heap.size := hx.lt
  have hwz2 : w.heap.size ≤ w.heap.size := Nat.le_refl _
  generalize hxb : w.heap.size = xb at *
  have HX := Lib.hid hx
  have HM1 := Lib.hid hm1
  have HSL : Hid (∀ W, New w1 W → W.cell? ⟨xb, 0, none⟩ = some (.bool nm) ∧ W.cell? ⟨xb, 1, none⟩ = some (.string sn) ∧ W.cell? ⟨xb, 2, none⟩ = some (.int .i64 at_) ∧ xb < W.heap.size) := Lib.hid (fun W hW => by
    have h := HX.out.mod hW (fun e => e)
    exact ⟨(h.cell 0).trans rfl, (h.cell 1).trans rfl, (h.cell 2).trans rfl, h.lt⟩)
  clear hx hm1
  refine wp_region_held_tree (New w1) 5 (by kernel_rfl) (by kernel_rfl) ?_
  have hn1 : New w1 w1.drew := (Mod.refl _ _).drew
  refine headW_take 0 _ ?_ (fun _ _ d _ _ h => by cases d <;> exact h) (by kernel_rfl) rfl (by kernel_rfl) hn1 (by rfl) (fun W hSw => ?_) ?_
  rotate_left
  · (have hq := HSL.out W hSw); (try simp only [List.getElem_toArray, List.getElem_cons_zero, List.getElem_cons_succ]); go_simp; any_goals (with_reducible rfl)
  simp only [Act.put, List.getElem_toArray, List.getElem_cons_zero, List.getElem_cons_succ, List.setIfInBounds_toArray, List.set_cons_zero, List.set_cons_succ]
  refine headW_take 2 _ ?_ (fun _ _ d _ _ h => by cases d <;> exact h) (by kernel_rfl) rfl (by kernel_rfl) hn1 (by rfl) (fun W hSw => ?_) ?_
  rotate_left
  · (have hq := HSL.out W hSw); (try simp only [List.getElem_toArray, List.getElem_cons_zero, List.getElem_cons_succ]); go_simp; any_goals (with_reducible rfl)
  simp only [Act.put, List.getElem_toArray, List.getElem_cons_zero, List.getElem_cons_succ, List.setIfInBounds_toArray, List.set_cons_zero, List.set_cons_succ]
  refine headW_ready [1, 3] (by kernel_rfl) (by rfl) ?_
  refine eachW_step rfl rfl (fun K hK => ?_) (eachW_step rfl rfl (fun K hK => ?_) eachW_nil)
  · have hcl := HCL.out _ (HM1.out.trans hn1)
    (try simp only [List.getElem_toArray, List.getElem_cons_zero, List.getElem_cons_succ])
    go_simp
    refine hcl.mono ?_
    clear hcl
    rintro e w6 ⟨A6, c6, rfl, own6, m6⟩
    have HN6 := Lib.hid (hn1.trans m6)
    have HOW6 : Hid (Own w6 w1.heap.size 46 3 St.enc A6 n c6 ps) := Lib.hid own6
    clear own6 m6
    go_wp2_with fail
    refine hK.out _ _ HN6.out (fun _ => ?_)
    clear hK K
    (try simp only [Act.put, List.getElem_toArray, List.getElem_cons_zero, List.getElem_cons_succ, List.setIfInBounds_toArray, List.set_cons_zero, List.set_cons_succ])
    refine headW_ready [3] (by kernel_rfl) (by rfl) ?_
    refine eachW_step rfl rfl (fun K hK => ?_) eachW_nil
    have HBL : Hid (Blk (w6.alloc (.cells #[.bool nm, .string sn, .int .i64 at_] 46)) w6.heap.size 46 (encL 3 St.enc (⟨nm, sn, at_⟩ : St)).toArray) := Lib.hid (Blk.new _ _ _)
    have HMA : Hid (New w6 (w6.alloc (.cells #[.bool nm, .string sn, .int .i64 at_] 46))) := Lib.hid ((Mod.refl _ _).alloc _)
    (try simp only [List.getElem_toArray, List.getElem_cons_zero, List.getElem_cons_succ])
    go_simp
    have HOW := Lib.hid (HOW6.out.new HMA.out)
    have HN := Lib.hid (HN6.out.trans HMA.out)
    refine hK.out _ _ HN.out (fun _ => ?_)
    clear hK K HOW6 HN6 HMA
    (try simp only [Act.put, List.getElem_toArray, List.getElem_cons_zero, List.getElem_cons_succ, List.setIfInBounds_toArray, List.set_cons_zero, List.set_cons_succ])
    generalize w6.alloc (.cells #[.bool nm, .string sn, .int .i64 at_] 46) = wa at *
    generalize w6.heap.size = bi at *
    refine headW_ready [4] (by kernel_rfl) (by rfl) ?_
    refine eachW_step rfl rfl (fun K hK => ?_) eachW_nil
    have how := HOW.out
    have hblp := HBL.out
    have hszp := HN.out.size
    refine wp_push (.tmp 6) (.tmp 8) _ rfl 32 Tryz.underlying32 einfo_step rfl (by exact how) (⟨nm, sn, at_⟩ : St) bi rfl (by exact hblp) (fun j hj => St.one _ j hj) (by omega) (by omega) (by omega) ?_
    intro g8 cap8 w8 own8 hm8 hat8 hlt8
    have HN8 := Lib.hid (HN.out.step hm8 (fun i hi e => by have := (HOW.out.far' i e).1; omega))
    refine hK.out _ _ HN8.out (fun _ => ?_)
    clear hK K hblp hat8 hlt8 hm8 how
    (try simp only [Act.put, List.getElem_toArray, List.getElem_cons_zero, List.getElem_cons_succ, List.setIfInBounds_toArray, List.set_cons_zero, List.set_cons_succ])
    have HO8 := Lib.hid own8
    clear own8
    refine headW_done (by kernel_rfl) ?_
    go_wp2_with fail
    go_ret
    exact ⟨some ⟨g8, 0, none⟩, cap8, rfl, HO8.out.less (by omega), HM1.out.trans HN8.out⟩
  · have HB0 : Blk (w1.alloc (.cells #[.bool nm, .string sn, .int .i64 at_] 46)) w1.heap.size 46 (encL 3 St.enc (⟨nm, sn, at_⟩ : St)).toArray := Blk.new _ _ _
    have HNa : Hid (New w1 (World.drew (w1.alloc (.cells #[.bool nm, .string sn, .int .i64 at_] 46)))) := Lib.hid (((Mod.refl _ _).alloc _).drew)
    have HBL0 : Hid (Blk (World.drew (w1.alloc (.cells #[.bool nm, .string sn, .int .i64 at_] 46))) w1.heap.size 46 (encL 3 St.enc (⟨nm, sn, at_⟩ : St)).toArray) := Lib.hid (HB0.mod (Mod.drew (Mod.refl (fun _ => False) _)) (fun e => e))
    clear HB0
    have hbi : w1.heap.size < (World.drew (w1.alloc (.cells #[.bool nm, .string sn, .int .i64 at_] 46))).heap.size := HBL0.out.lt
    (try simp only [List.getElem_toArray, List.getElem_cons_zero, List.getElem_cons_succ])
    go_simp
    refine hK.out _ _ HNa.out (fun _ => ?_)
    clear hK K
    (try simp only [Act.put, List.getElem_toArray, List.getElem_cons_zero, List.getElem_cons_succ, List.setIfInBounds_toArray, List.set_cons_zero, List.set_cons_succ])
    generalize World.drew (w1.alloc (.cells #[.bool nm, .string sn, .int .i64 at_] 46)) = wa at *
    refine headW_ready [1] (by kernel_rfl) (by rfl) ?_
    refine eachW_step rfl rfl (fun K hK => ?_) eachW_nil
    have hcl := HCL.out _ (HM1.out.trans HNa.out)
    (try simp only [List.getElem_toArray, List.getElem_cons_zero, List.getElem_cons_succ])
    go_simp
    refine hcl.mono ?_
    clear hcl
    rintro e w6 ⟨A6, c6, rfl, own6, m6⟩
    have HN := Lib.hid (HNa.out.trans m6)
    have HOW : Hid (Own w6 w1.heap.size 46 3 St.enc A6 n c6 ps) := Lib.hid (own6.less (Nat.le_of_lt hbi))
    have HBL := Lib.hid (HBL0.out.mod m6 (fun e => e))
    clear own6 m6
    go_wp2_with fail
    refine hK.out _ _ HN.out (fun _ => ?_)
    clear hK K
    (try simp only [Act.put, List.getElem_toArray, List.getElem_cons_zero, List.getElem_cons_succ, List.setIfInBounds_toArray, List.set_cons_zero, List.set_cons_succ])
    refine headW_ready [4] (by kernel_rfl) (by rfl) ?_
    refine eachW_step rfl rfl (fun K hK => ?_) eachW_nil
    have how := HOW.out
    have hblp := HBL.out
    have hszp := HN.out.size
    refine wp_push (.tmp 6) (.tmp 8) _ rfl 32 Tryz.underlying32 einfo_step rfl (by exact how) (⟨nm, sn, at_⟩ : St) w1.heap.size rfl (by exact hblp) (fun j hj => St.one _ j hj) (by omega) (by omega) (by omega) ?_
    intro g8 cap8 w8 own8 hm8 hat8 hlt8
    have HN8 := Lib.hid (HN.out.step hm8 (fun i hi e => by have := (HOW.out.far' i e).1; omega))
    refine hK.out _ _ HN8.out (fun _ => ?_)
    clear hK K hblp hat8 hlt8 hm8 how
    (try simp only [Act.put, List.getElem_toArray, List.getElem_cons_zero, List.getElem_cons_succ, List.setIfInBounds_toArray, List.set_cons_zero, List.set_cons_succ])
    have HO8 := Lib.hid own8
    clear own8
    refine headW_done (by kernel_rfl) ?_
    go_wp2_with fail
    go_ret
    exact ⟨some ⟨g8, 0, none⟩, cap8, rfl, HO8.out.less (by omega), HM1.out.trans HN8.out⟩

end Go.Proofs.YtpgcbehpknghdaaGreatDoor

namespace Go.Proofs.YtpgcbehpknghdaaGreatDoor
open Go.RowKit
set_option linter.unusedVariables false
set_option linter.unusedSimpArgs false

def RLvP (w : World) (B : Nat) (Ao : Option Addr) (M : Nat) (L : List (List St)) (e : Ending) (w' : World) : Prop := ∃ (A : Option Addr) (n c : Nat) (qs : List PA), e = .returned (.slice A n c) ∧ Own w' B 32 1 PA.enc A n c qs ∧ Al (PthIs w') qs L ∧ n ≤ M ∧ Mod (fun k => blkOf Ao = some k) w w' ∧ (∀ g, blkOf A = some g → blkOf Ao = some g ∨ w.heap.size ≤ g)
def LvPSpec (d : Nat) : Prop := ∀ (x : VA) (v : VT) (Ao : Option Addr) (no co : Nat) (qs : List PA) (os : List (List St)) (A : Option Addr) (n c : Nat) (ps : List St) (B : Nat) (w : World), Tree w (fun _ => True) d x v → Wide 100 d v → Own w B 32 1 PA.enc Ao no co qs → Al (PthIs w) qs os → Sl w 46 3 St.enc A n ps → n + d ≤ 900 → B ≤ w.heap.size → no + vW d v ≤ 500000 →
  Calls Tryz.prog 52 #[.slice Ao no co, x.val, .slice A n c] w (RLvP w B Ao (no + vW d v) (os ++ leavesT d v ps))
structure LvPI (w : World) (xb : Nat) (xc : Array Value) (B : Nat) (Ao : Option Addr) (L : List (List St)) (M : Nat) (A : Option Addr) (n c : Nat) (wr : World) : Prop where
  box : Blk wr xb 29 xc
  row : ∃ qs : List PA, Own wr B 32 1 PA.enc A n c qs ∧ Al (PthIs wr) qs L
  many : n ≤ M
  mod : Mod (fun k => blkOf Ao = some k) w wr
  far : ∀ g, blkOf A = some g → blkOf Ao = some g ∨ w.heap.size ≤ g
theorem Own.tbOf {α : Type} {w : World} {B : Nat} {t : TypeId} {sz : Nat} {enc : α → Nat → Value} {A : Option Addr} {n c : Nat} {xs : List α} (h : Own w B t sz enc A n c xs) (g : Nat) (e : blkOf A = some g) : TB w g t := by
  rcases h.blk with ⟨rfl, _, _⟩ | ⟨g', rfl, hB, ht⟩
  · cases e
  · injection e with e
    subst e
    exact ht
set_option maxRecDepth 100000 in
set_option maxHeartbeats 1000000 in
theorem leavesP_walk (d : Nat) (IH : LvPSpec d) : LvPSpec (d + 1) := by
  intro x v Ao no co qs0 os A n c ps B w ht hw ho hq hs hn hB hW
  obtain ⟨xs, ms, h1, h2, h3, h4⟩ := ht.als
  obtain ⟨-, -, -, -, f5, f6⟩ := ht.fields
  have hlm := hw.1
  have hmm := hw.2.1
  have hWW : vW (d + 1) v = 40 + 6 * v.words.size + ((v.list.map fun x => vW d x + 1).sum + (v.mem.map fun p => vW d p.2 + (6 * p.1.size + 4)).sum) := rfl
  have HTBO : Hid (∀ g, blkOf Ao = some g → TB w g 32) := Lib.hid (fun g e => ho.tbOf g e)
  have HKS : Hid (∀ W, Mod (fun k => blkOf Ao = some k) w W → Sl W 46 3 St.enc A n ps) := Lib.hid (fun W h => hs.mod h (fun g ht e => (ht.ne (HTBO.out g e) (by decide)) rfl))
  have HKT : Hid (∀ W z u, Mod (fun k => blkOf Ao = some k) w W → Tree w (fun _ => True) d z u → Tree W (fun _ => True) d z u) := Lib.hid (fun W z u h ht => Tree.mod h (fun g _ hg e => by
    rcases hg with hg | hg
    · exact (hg.ne (HTBO.out g e) (by decide)) rfl
    · exact (hg.ne (HTBO.out g e) (by decide)) rfl) _ _ _ ht)
  have HL1 : Hid (∀ W, Mod (fun k => blkOf Ao = some k) w W → Row W (fun _ => True) 29 6 VA.enc x.la x.ln xs) := Lib.hid (fun W h => h1.mod h (fun g _ ht e => (ht.ne (HTBO.out g e) (by decide)) rfl))
  have HL3 : Hid (∀ W, Mod (fun k => blkOf Ao = some k) w W → Row W (fun _ => True) 66 7 MA.enc x.ma x.mn ms) := Lib.hid (fun W h => h3.mod h (fun g _ ht e => (ht.ne (HTBO.out g e) (by decide)) rfl))
  have hxsl := h1.1
  have hmsl := h3.1
  have HL2 := Lib.hid h2
  have HL4 := Lib.hid h4
  have HWD := Lib.hid hw
  have HO0 := Lib.hid ho
  have HQ0 := Lib.hid hq
  obtain ⟨xk, xf, xn, xw, xla, xln, xlc, xma, xmn, xmc⟩ := x
  simp only at f5 f6 HL1 HL3 hxsl hmsl
  have hln : xln ≤ 100 := by omega
  have hmn : xmn ≤ 100 := by omega
  have HF5 := Lib.hid f5
  have HF6 := Lib.hid f6
  obtain ⟨WL, hWL⟩ : ∃ z, (v.list.map fun x => vW d x + 1).sum = z := ⟨_, rfl⟩
  obtain ⟨WM, hWM⟩ : ∃ z, (v.mem.map fun p => vW d p.2 + (6 * p.1.size + 4)).sum = z := ⟨_, rfl⟩
  rw [hWL, hWM] at hWW
  obtain ⟨WT, hWT⟩ : ∃ z, vW (d + 1) v = z := ⟨_, rfl⟩
  rw [hWT] at hWW hW
  rw [hWT]
  have HWL := Lib.hid hWL
  have HWM := Lib.hid hWM
  clear ht hw hs h1 h2 h3 h4 f5 f6 hlm hmm hWL hWM hWT ho hq
  have hx := Blk.new w 29 #[.int .i64 xk, .bool xf, .int .i64 xn, .string xw, .slice xla xln xlc, .slice xma xmn xmc]
  have m1 : New w (w.alloc (.cells #[.int .i64 xk, .bool xf, .int .i64 xn, .string xw, .slice xla xln xlc, .slice xma xmn xmc] 29)) := (Mod.refl _ _).alloc _
  go_enter Tryz.func52, Tryz.ntmps52
  go_upto_region 1 with (fail)
  generalize w.alloc (.cells #[.int .i64 xk, .bool xf, .int .i64 xn, .string xw, .slice xla xln xlc, .slice xma xmn xmc] 29) = w1 at *
  generalize hxb : w.heap.size = xb at *
  have HX := Lib.hid hx
  have HM := Lib.hid m1
  have HMO1 : Hid (Mod (fun k => blkOf Ao = some k) w w1) := Lib.hid (m1.mono (fun _ _ e => e.elim))
  clear hx m1
  by_cases hempty : xln = 0 ∧ xmn = 0
  · obtain ⟨rfl, rfl⟩ := hempty
    have HLV : Hid (leavesT (d + 1) v ps = [ps]) := Lib.hid (by
      rw [leavesT_eq, if_pos]
      exact ⟨List.eq_nil_of_length_eq_zero (by have := HF5.out; omega), List.eq_nil_of_length_eq_zero (by have := HF6.out; omega)⟩)
    have hcl := cloneS ps A n c w1 (HKS.out _ HMO1.out) (by omega)
    have e0 := HX.out.cell 0
    have e1 := HX.out.cell 1
    have e2 := HX.out.cell 2
    have e3 := HX.out.cell 3
    have e4 := HX.out.cell 4
    have e5 := HX.out.cell 5
    have el := HX.out.lt
    have ef := HX.out.frozen
    simp only [List.getElem?_toArray, List.getElem?_cons_zero, List.getElem?_cons_succ] at e0 e1 e2 e3 e4 e5
    go_wp2_with fail
    refine hcl.mono ?_
    clear hcl
    rintro e w6 ⟨A6, c6, rfl, own6, m6⟩
    have HOW6 := Lib.hid own6
    have HM6 := Lib.hid (HM.out.trans m6)
    clear own6 m6
    have hown := (HO0.out.new HM6.out).alloc (.cells #[.slice A6 n c6] 32)
    have hbl := Blk.new w6 32 #[.slice A6 n c6]
    have hBq : B ≤ (w6.alloc (.cells #[.slice A6 n c6] 32)).heap.size := by have := HM6.out.size; simp; omega
    go_wp2_with (at_builtin; refine wpList_push rfl _ _ _ rfl 24 Tryz.underlying49 einfo_path rfl hown (⟨A6, n, c6⟩ : PA) w6.heap.size rfl hbl (fun j hj => PA.one _ j) (by omega) (by omega) hBq ?_; intro g8 cap8 w8 own8 hm8 hat8 hlt8)
    have HO8 := Lib.hid own8
    have HMA : Hid (New w6 (w6.alloc (.cells #[.slice A6 n c6] 32))) := Lib.hid ((Mod.refl _ _).alloc _)
    have HM8 := Lib.hid hm8
    have HAT := Lib.hid hat8
    have hzz := HM6.out.size
    clear own8 hm8 hat8
    go_ret
    have htb : ∀ g, TB (w6.alloc (.cells #[.slice A6 n c6] 32)) g 46 → ¬ blkOf Ao = some g := fun g ht e => (ht.ne (((HTBO.out g e).mod HM6.out (fun e => e)).mod HMA.out (fun e => e)) (by decide)) rfl
    refine ⟨some ⟨g8, 0, none⟩, no + 1, cap8, qs0 ++ [⟨A6, n, c6⟩], rfl, HO8.out, ?_, by omega, ?_, ?_⟩
    · rw [HLV.out]
      refine Al.append (Al.imp (fun _ _ h => ((h.new HM6.out).new HMA.out).mod HM8.out htb) HQ0.out) (Al.one (PthIs.mod ⟨(HOW6.out.new HMA.out).sl, HOW6.out.cap, HOW6.out.noneC⟩ HM8.out htb))
    · exact ((HM6.out.trans HMA.out).mono (fun _ _ e => e.elim)).trans HM8.out
    · intro g e
      injection e with e
      have e : g8 = g := e
      subst e
      rcases HAT.out with h | h
      · exact .inl h
      · right
        have : (w6.alloc (.cells #[.slice A6 n c6] 32)).heap.size = w6.heap.size + 1 := by simp
        omega
  · have HNE : Hid (leavesT (d + 1) v ps = lvL d v.list ps xln ++ lvM d v.mem ps xmn) := Lib.hid (by
      have h5 := HF5.out
      have h6 := HF6.out
      rw [leavesT_eq, if_neg, ← show xln = v.list.length by omega, ← show xmn = v.mem.length by omega]
      rintro ⟨e1, e2⟩
      apply hempty
      rw [e1] at h5
      rw [e2] at h6
      simp only [List.length_nil] at h5 h6
      omega)
    have HI0 : Hid (LvPI w xb #[.int .i64 xk, .bool xf, .int .i64 xn, .string xw, .slice xla xln xlc, .slice xma xmn xmc] B Ao (os ++ lvL d v.list ps 0) (no + 0) Ao no co w1) := Lib.hid ⟨HX.out, ⟨qs0, HO0.out.new HM.out, by
      rw [show lvL d v.list ps 0 = [] from rfl, List.append_nil]
      exact Al.imp (fun _ _ h => PthIs.new h HM.out) HQ0.out⟩, Nat.le_refl _, HMO1.out, fun g e => .inl e⟩
    clear hxsl hmsl
    by_cases hl0 : xln = 0
    · have hl0i : ((xln : Int) == 0) = true := by simp; omega
      have hm0i : ((xmn : Int) == 0) = false := by simp; omega
      clear hempty hl0
      have e0 := HX.out.cell 0
      have e1 := HX.out.cell 1
      have e2 := HX.out.cell 2
      have e3 := HX.out.cell 3
      have e4 := HX.out.cell 4
      have e5 := HX.out.cell 5
      have el := HX.out.lt
      have ef := HX.out.frozen
      simp only [List.getElem?_toArray, List.getElem?_cons_zero, List.getElem?_cons_succ] at e0 e1 e2 e3 e4 e5
      go_upto_region 3 with fail
      go_wp2_with fail
      clear e0 e1 e2 e3 e4 e5 el ef
      clear HX HM
      go_loopw [0, 29] (fun o i wr => ∃ (k : Nat) (Aq : Option Addr) (nq cq : Nat), k ≤ xln ∧ i = .int .i64 k ∧ o = .slice Aq nq cq ∧ Hid (LvPI w xb #[.int .i64 xk, .bool xf, .int .i64 xn, .string xw, .slice xla xln xlc, .slice xma xmn xmc] B Ao (os ++ lvL d v.list ps k) (no + ((v.list.take k).map fun x => vW d x + 1).sum) Aq nq cq wr)) (fun _ i _ => xln - (intOf i).toNat)
      case atStart => exact ⟨0, _, _, _, Nat.zero_le _, rfl, rfl, HI0⟩
      clear HI0
      case round =>
        rename World => wr
        obtain ⟨k, Aq, nq, cq, hk, rfl, rfl, HI⟩ := hrel
        have HX := Lib.hid HI.out.box
        have HMO := Lib.hid HI.out.mod
        have hmany := HI.out.many
        have HFARQ := Lib.hid HI.out.far
        obtain ⟨qs, hoq0, hqp⟩ := HI.out.row
        clear HI
        by_cases hlt : k < xln
        · have hkx : k < xs.length := by have := (HL1.out _ HMO.out).1; omega
          have hkv : k < v.list.length := by have := HF5.out; omega
          obtain ⟨g2, o2, hA, htb, hc0⟩ := (HL1.out _ HMO.out).sl.2 (by omega)
          subst hA
          have hgl := htb.lt
          have hty := HL2.out.get k hkx hkv
          have hwk := HWD.out.2.2.2.1 _ (List.getElem_mem hkv)
          have HSUM : Hid (((v.list.take (k + 1)).map fun x => vW d x + 1).sum = ((v.list.take k).map fun x => vW d x + 1).sum + (vW d v.list[k] + 1)) := Lib.hid (take_sum v.list (fun x => vW d x + 1) k hkv)
          have HNX : Hid (lvL d v.list ps (k + 1) = lvL d v.list ps k ++ leavesT d v.list[k] (ps ++ [⟨false, ⟨#[]⟩, (k : Int)⟩])) := Lib.hid (lvL_next d hkv)
          have hwle : ((v.list.take (k + 1)).map fun x => vW d x + 1).sum ≤ WL := by rw [← HWL.out]; exact take_sum_le _ _ _
          rw [HSUM.out] at hwle
          have hnz : nq + vW d v.list[k] ≤ 500000 := by omega
          have IHH := Lib.hid (fun A1 n1 c1 q1 A2 n2 c2 ps2 W (h : Mod (fun k => blkOf Ao = some k) w W) ho1 ha1 hs1 => IH xs[k] v.list[k] A1 n1 c1 q1 (os ++ lvL d v.list ps k) A2 n2 c2 ps2 B W (HKT.out W _ _ h hty) hwk ho1 ha1 hs1)
          have hc := fun j (hj : j < 6) => hc0 k hkx j hj
          clear hc0 htb hty hwk
          generalize vW d v.list[k] = VK at *
          generalize ((v.list.take k).map fun x => vW d x + 1).sum = SK at *
          generalize xs[k] = z at *
          obtain ⟨zk, zf, zn, zw, zla, zln, zlc, zma, zmn, zmc⟩ := z
          have b0 := hc 0 (by omega)
          have b1 := hc 1 (by omega)
          have b2 := hc 2 (by omega)
          have b3 := hc 3 (by omega)
          have b4 := hc 4 (by omega)
          have b5 := hc 5 (by omega)
          simp only [VA.enc, Nat.add_zero, Nat.zero_add] at b0 b1 b2 b3 b4 b5
          clear hc
          have hb2 : (0 : Int) ≤ k := by omega
          have hb3 : (k : Int) < xln := by omega
          have m5 : New wr (wr.alloc (.cells #[.int .i64 zk, .bool zf, .int .i64 zn, .string zw, .slice zla zln zlc, .slice zma zmn zmc] 29)) := (Mod.refl _ _).alloc _
          have hlb := Blk.new wr 29 #[.int .i64 zk, .bool zf, .int .i64 zn, .string zw, .slice zla zln zlc, .slice zma zmn zmc]
          go_upto_region 6 with (fail)
          generalize wr.alloc (.cells #[.int .i64 zk, .bool zf, .int .i64 zn, .string zw, .slice zla zln zlc, .slice zma zmn zmc] 29) = w5 at *
          have HX5 := Lib.hid (HX.out.mod m5 (fun e => e))
          have HMO5 : Hid (Mod (fun k => blkOf Ao = some k) w w5) := Lib.hid (HMO.out.trans (m5.mono (fun _ _ e => e.elim)))
          have HOQ := Lib.hid (hoq0.new m5)
          have HQP := Lib.hid (Al.imp (fun _ _ h => PthIs.new h m5) hqp)
          have HTBQ : Hid (∀ g, blkOf Aq = some g → TB w5 g 32) := Lib.hid (fun g e => HOQ.out.tbOf g e)
          have hxlt : xb < w5.heap.size := HX5.out.lt
          have hBw5 : B ≤ w5.heap.size := by have := HMO5.out.size; omega
          clear m5 HX HMO hoq0 hqp
          have HLB : Hid (TB w5 wr.heap.size 29) := Lib.hid hlb.tb
          have HSL : Hid (∀ W, Mod (fun i => blkOf Aq = some i) w5 W → W.cell? ⟨wr.heap.size, 0, none⟩ = some (.int .i64 zk) ∧ W.cell? ⟨wr.heap.size, 1, none⟩ = some (.bool zf) ∧ W.cell? ⟨wr.heap.size, 2, none⟩ = some (.int .i64 zn) ∧ W.cell? ⟨wr.heap.size, 3, none⟩ = some (.string zw) ∧ W.cell? ⟨wr.heap.size, 4, none⟩ = some (.slice zla zln zlc) ∧ W.cell? ⟨wr.heap.size, 5, none⟩ = some (.slice zma zmn zmc) ∧ wr.heap.size < W.heap.size) := Lib.hid (fun W hW => by
            have h1 := hlb.mod hW (fun e => (HLB.out.ne (HTBQ.out _ e) (by decide)) rfl)
            exact ⟨(h1.cell 0).trans rfl, (h1.cell 1).trans rfl, (h1.cell 2).trans rfl, (h1.cell 3).trans rfl, (h1.cell 4).trans rfl, (h1.cell 5).trans rfl, h1.lt⟩)
          clear b0 b1 b2 b3 b4 b5 hgl hlb
          generalize wr.heap.size = lb at *
          refine wp_region_held_tree (Mod (fun i => blkOf Aq = some i) w5) 7 (by kernel_rfl) (by kernel_rfl) ?_
          have hn0 : Mod (fun i => blkOf Aq = some i) w5 w5.drew := (Mod.refl _ _).drew
          have HNQ : Hid (New w5 w5.drew) := Lib.hid ((Mod.refl _ _).drew)
          refine headW_take 0 _ ?_ (fun _ _ d _ _ h => by cases d <;> exact h) (by kernel_rfl) rfl (by kernel_rfl) hn0 (by rfl) (fun W hSw => ?_) ?_
          rotate_left
          · (have hq := HSL.out W hSw); (try simp only [List.getElem_toArray, List.getElem_cons_zero, List.getElem_cons_succ]); go_simp; any_goals (with_reducible rfl)
          simp only [Act.put, List.getElem_toArray, List.getElem_cons_zero, List.getElem_cons_succ, List.setIfInBounds_toArray, List.set_cons_zero, List.set_cons_succ]
          refine headW_take 1 _ ?_ (fun _ _ d _ _ h => by cases d <;> exact h) (by kernel_rfl) rfl (by kernel_rfl) hn0 (by rfl) (fun W hSw => ?_) ?_
          rotate_left
          · (have hq := HSL.out W hSw); (try simp only [List.getElem_toArray, List.getElem_cons_zero, List.getElem_cons_succ]); go_simp; any_goals (with_reducible rfl)
          simp only [Act.put, List.getElem_toArray, List.getElem_cons_zero, List.getElem_cons_succ, List.setIfInBounds_toArray, List.set_cons_zero, List.set_cons_succ]
          refine headW_take 2 _ ?_ (fun _ _ d _ _ h => by cases d <;> exact h) (by kernel_rfl) rfl (by kernel_rfl) hn0 (by rfl) (fun W hSw => ?_) ?_
          rotate_left
          · (have hq := HSL.out W hSw); (try simp only [List.getElem_toArray, List.getElem_cons_zero, List.getElem_cons_succ]); go_simp; any_goals (with_reducible rfl)
          simp only [Act.put, List.getElem_toArray, List.getElem_cons_zero, List.getElem_cons_succ, List.setIfInBounds_toArray, List.set_cons_zero, List.set_cons_succ]
          refine headW_take 3 _ ?_ (fun _ _ d _ _ h => by cases d <;> exact h) (by kernel_rfl) rfl (by kernel_rfl) hn0 (by rfl) (fun W hSw => ?_) ?_
          rotate_left
          · (have hq := HSL.out W hSw); (try simp only [List.getElem_toArray, List.getElem_cons_zero, List.getElem_cons_succ]); go_simp; any_goals (with_reducible rfl)
          simp only [Act.put, List.getElem_toArray, List.getElem_cons_zero, List.getElem_cons_succ, List.setIfInBounds_toArray, List.set_cons_zero, List.set_cons_succ]
          refine headW_take 4 _ ?_ (fun _ _ d _ _ h => by cases d <;> exact h) (by kernel_rfl) rfl (by kernel_rfl) hn0 (by rfl) (fun W hSw => ?_) ?_
          rotate_left
          · (have hq := HSL.out W hSw); (try simp only [List.getElem_toArray, List.getElem_cons_zero, List.getElem_cons_succ]); go_simp; any_goals (with_reducible rfl)
          simp only [Act.put, List.getElem_toArray, List.getElem_cons_zero, List.getElem_cons_succ, List.setIfInBounds_toArray, List.set_cons_zero, List.set_cons_succ]
          have hbp := val_behindPath A n c ps ⟨false, ⟨#[]⟩, (k : Int)⟩ w5.drew (HKS.out _ (HMO5.out.trans (HNQ.out.mono (fun _ _ e => e.elim)))) (by omega)
          unfold St.val at hbp
          simp only at hbp
          refine headW_ready [5] (by kernel_rfl) (by rfl) ?_
          refine eachW_step rfl rfl (fun K hK => ?_) eachW_nil
          (try simp only [List.getElem_toArray, List.getElem_cons_zero, List.getElem_cons_succ])
          go_simp
          refine hbp.mono ?_
          rintro e w7 ⟨A7, c7, rfl, own7, m7⟩
          have HN7 := Lib.hid (HNQ.out.trans m7)
          have HS7 := Lib.hid own7.sl
          clear own7 m7
          go_wp2_with fail
          refine hK.out _ _ (HN7.out.mono (fun _ _ e => e.elim)) (fun _ => ?_)
          clear hK K
          (try simp only [Act.put, List.getElem_toArray, List.getElem_cons_zero, List.getElem_cons_succ, List.setIfInBounds_toArray, List.set_cons_zero, List.set_cons_succ])
          refine headW_ready [6] (by kernel_rfl) (by rfl) ?_
          refine eachW_step rfl rfl (fun K hK => ?_) eachW_nil
          have hMO7 : Mod (fun k => blkOf Ao = some k) w w7 := HMO5.out.trans (HN7.out.mono (fun _ _ e => e.elim))
          have hih := IHH.out Aq nq cq qs A7 (n + 1) c7 (ps ++ [⟨false, ⟨#[]⟩, (k : Int)⟩]) w7 hMO7 (HOQ.out.new HN7.out) (Al.imp (fun _ _ h => PthIs.new h HN7.out) HQP.out) HS7.out (by omega) (by have := HN7.out.size; omega) (by omega)
          have HMO7 := Lib.hid hMO7
          clear hMO7
          (try simp only [List.getElem_toArray, List.getElem_cons_zero, List.getElem_cons_succ])
          go_simp
          refine hih.mono ?_
          clear hih
          rintro e w9 ⟨A9, n9, c9, qs9, rfl, own9, al9, hle9, mo9, far9⟩
          have HO9 := Lib.hid own9
          have HAL9 := Lib.hid al9
          have HMO9 := Lib.hid mo9
          have HFAR9 := Lib.hid far9
          clear own9 al9 mo9 far9
          go_wp2_with fail
          refine hK.out _ _ ((HN7.out.mono (fun _ _ e => e.elim)).trans HMO9.out) (fun _ => ?_)
          clear hK K
          (try simp only [Act.put, List.getElem_toArray, List.getElem_cons_zero, List.getElem_cons_succ, List.setIfInBounds_toArray, List.set_cons_zero, List.set_cons_succ])
          refine headW_done (by kernel_rfl) ?_
          go_wp2_with fail
          go_roundw
          case rel =>
            refine ⟨k + 1, A9, n9, c9, by omega, by go_num, rfl, Lib.hid ⟨?_, ⟨_, HO9.out, ?_⟩, ?_, ?_, ?_⟩⟩
            · exact (HX5.out.mod HN7.out (fun e => e)).mod HMO9.out (fun e => ((HX5.out.tb).ne (HTBQ.out xb e) (by decide)) rfl)
            · rw [HNX.out, ← List.append_assoc]; exact HAL9.out
            · rw [HSUM.out]
              omega
            · exact HMO7.out.step HMO9.out (fun i hi e => by
                rcases HFARQ.out i e with h | h
                · exact h
                · omega)
            · intro g e
              rcases HFAR9.out g e with h | h
              · exact HFARQ.out g h
              · right; have := HMO7.out.size; omega
          case measure => simp [intOf]; omega
        · obtain rfl : xln = k := by omega
          have hmy : nq ≤ no + (WL + ((v.mem.take 0).map fun p => vW d p.2 + (6 * p.1.size + 4)).sum) := by
            have h := take_sum_le v.list (fun x => vW d x + 1) xln
            rw [HWL.out] at h
            omega
          have HI1 : Hid (LvPI w xb #[.int .i64 xk, .bool xf, .int .i64 xn, .string xw, .slice xla xln xlc, .slice xma xmn xmc] B Ao (os ++ (lvL d v.list ps xln ++ lvM d v.mem ps 0)) (no + (WL + ((v.mem.take 0).map fun p => vW d p.2 + (6 * p.1.size + 4)).sum)) Aq nq cq wr) := Lib.hid ⟨HX.out, ⟨qs, hoq0, by rw [show lvL d v.list ps xln ++ lvM d v.mem ps 0 = lvL d v.list ps xln from List.append_nil _]; exact hqp⟩, hmy, HMO.out, HFARQ.out⟩
          clear hmy hmany hoq0 hqp HFARQ
          have e0 := HX.out.cell 0
          have e1 := HX.out.cell 1
          have e2 := HX.out.cell 2
          have e3 := HX.out.cell 3
          have e4 := HX.out.cell 4
          have e5 := HX.out.cell 5
          have el := HX.out.lt
          have ef := HX.out.frozen
          simp only [List.getElem?_toArray, List.getElem?_cons_zero, List.getElem?_cons_succ] at e0 e1 e2 e3 e4 e5
          go_wp2_with fail
          clear e0 e1 e2 e3 e4 e5 el ef
          clear HX HMO
          go_loopw [0, 45] (fun o i wr => ∃ (k : Nat) (Aq : Option Addr) (nq cq : Nat), k ≤ xmn ∧ i = .int .i64 k ∧ o = .slice Aq nq cq ∧ Hid (LvPI w xb #[.int .i64 xk, .bool xf, .int .i64 xn, .string xw, .slice xla xln xlc, .slice xma xmn xmc] B Ao (os ++ (lvL d v.list ps xln ++ lvM d v.mem ps k)) (no + (WL + ((v.mem.take k).map fun p => vW d p.2 + (6 * p.1.size + 4)).sum)) Aq nq cq wr)) (fun _ i _ => xmn - (intOf i).toNat)
          case atStart => exact ⟨0, _, _, _, Nat.zero_le _, rfl, rfl, HI1⟩
          clear HI1
          case round =>
            rename World => wr
            obtain ⟨k, Aq, nq, cq, hk, rfl, rfl, HI⟩ := hrel
            have HX := Lib.hid HI.out.box
            have HMO := Lib.hid HI.out.mod
            have hmany := HI.out.many
            have HFARQ := Lib.hid HI.out.far
            obtain ⟨qs, hoq0, hqp⟩ := HI.out.row
            clear HI
            by_cases hlt : k < xmn
            · have hkx : k < ms.length := by have := (HL3.out _ HMO.out).1; omega
              have hkv : k < v.mem.length := by have := HF6.out; omega
              obtain ⟨g2, o2, hA, htb, hc0⟩ := (HL3.out _ HMO.out).sl.2 (by omega)
              subst hA
              have hgl := htb.lt
              have hty := HL4.out.get k hkx hkv
              have hwk := HWD.out.2.2.2.2 _ (List.getElem_mem hkv)
              have HSUM : Hid (WL + ((v.mem.take (k + 1)).map fun p => vW d p.2 + (6 * p.1.size + 4)).sum = WL + ((v.mem.take k).map fun p => vW d p.2 + (6 * p.1.size + 4)).sum + (vW d v.mem[k].2 + (6 * v.mem[k].1.size + 4))) := Lib.hid (by rw [take_sum v.mem (fun p => vW d p.2 + (6 * p.1.size + 4)) k hkv]; omega)
              have HNX : Hid (lvL d v.list ps xln ++ lvM d v.mem ps (k + 1) = (lvL d v.list ps xln ++ lvM d v.mem ps k) ++ leavesT d v.mem[k].2 (ps ++ [⟨true, ms[k].name, (0 : Int)⟩])) := Lib.hid (by rw [lvM_next d hkv, List.append_assoc, hty.1])
              have hwle : ((v.mem.take (k + 1)).map fun p => vW d p.2 + (6 * p.1.size + 4)).sum ≤ WM := by rw [← HWM.out]; exact take_sum_le _ _ _
              have hs2 := HSUM.out
              have hnz : nq + vW d v.mem[k].2 ≤ 500000 := by omega
              have IHH := Lib.hid (fun A1 n1 c1 q1 A2 n2 c2 ps2 W (h : Mod (fun k => blkOf Ao = some k) w W) ho1 ha1 hs1 => IH ms[k].v v.mem[k].2 A1 n1 c1 q1 (os ++ (lvL d v.list ps xln ++ lvM d v.mem ps k)) A2 n2 c2 ps2 B W (HKT.out W _ _ h hty.2) hwk.2 ho1 ha1 hs1)
              have hc := fun j (hj : j < 7) => hc0 k hkx j hj
              clear hc0 htb hty hwk hs2
              generalize vW d v.mem[k].2 = VK at *
              generalize ((v.mem.take k).map fun p => vW d p.2 + (6 * p.1.size + 4)).sum = SK at *
              generalize v.mem[k].1.size = NK at *
              generalize ms[k] = z at *
              obtain ⟨zn0, zk, zf, zn, zw, zla, zln, zlc, zma, zmn, zmc⟩ := z
              have b0 := hc 0 (by omega)
              have b1 := hc 1 (by omega)
              have b2 := hc 2 (by omega)
              have b3 := hc 3 (by omega)
              have b4 := hc 4 (by omega)
              have b5 := hc 5 (by omega)
              have b6 := hc 6 (by omega)
              simp only [MA.enc, VA.enc, Nat.add_zero, Nat.zero_add] at b0 b1 b2 b3 b4 b5 b6
              clear hc
              have hb2 : (0 : Int) ≤ k := by omega
              have hb3 : (k : Int) < xmn := by omega
              have m5 : New wr (wr.alloc (.cells #[.string zn0, .int .i64 zk, .bool zf, .int .i64 zn, .string zw, .slice zla zln zlc, .slice zma zmn zmc] 66)) := (Mod.refl _ _).alloc _
              have hlb := Blk.new wr 66 #[.string zn0, .int .i64 zk, .bool zf, .int .i64 zn, .string zw, .slice zla zln zlc, .slice zma zmn zmc]
              go_upto_region 11 with (fail)
              generalize wr.alloc (.cells #[.string zn0, .int .i64 zk, .bool zf, .int .i64 zn, .string zw, .slice zla zln zlc, .slice zma zmn zmc] 66) = w5 at *
              have HX5 := Lib.hid (HX.out.mod m5 (fun e => e))
              have HMO5 : Hid (Mod (fun k => blkOf Ao = some k) w w5) := Lib.hid (HMO.out.trans (m5.mono (fun _ _ e => e.elim)))
              have HOQ := Lib.hid (hoq0.new m5)
              have HQP := Lib.hid (Al.imp (fun _ _ h => PthIs.new h m5) hqp)
              have HTBQ : Hid (∀ g, blkOf Aq = some g → TB w5 g 32) := Lib.hid (fun g e => HOQ.out.tbOf g e)
              have hxlt : xb < w5.heap.size := HX5.out.lt
              have hBw5 : B ≤ w5.heap.size := by have := HMO5.out.size; omega
              clear m5 HX HMO hoq0 hqp
              have HLB : Hid (TB w5 wr.heap.size 66) := Lib.hid hlb.tb
              have HSL : Hid (∀ W, Mod (fun i => blkOf Aq = some i) w5 W → W.cell? ⟨wr.heap.size, 0, none⟩ = some (.string zn0) ∧ W.cell? ⟨wr.heap.size, 1, none⟩ = some (.int .i64 zk) ∧ W.cell? ⟨wr.heap.size, 2, none⟩ = some (.bool zf) ∧ W.cell? ⟨wr.heap.size, 3, none⟩ = some (.int .i64 zn) ∧ W.cell? ⟨wr.heap.size, 4, none⟩ = some (.string zw) ∧ W.cell? ⟨wr.heap.size, 5, none⟩ = some (.slice zla zln zlc) ∧ W.cell? ⟨wr.heap.size, 6, none⟩ = some (.slice zma zmn zmc) ∧ wr.heap.size < W.heap.size) := Lib.hid (fun W hW => by
                have h1 := hlb.mod hW (fun e => (HLB.out.ne (HTBQ.out _ e) (by decide)) rfl)
                exact ⟨(h1.cell 0).trans rfl, (h1.cell 1).trans rfl, (h1.cell 2).trans rfl, (h1.cell 3).trans rfl, (h1.cell 4).trans rfl, (h1.cell 5).trans rfl, (h1.cell 6).trans rfl, h1.lt⟩)
              clear b0 b1 b2 b3 b4 b5 b6 hgl hlb
              generalize wr.heap.size = lb at *
              refine wp_region_held_tree (Mod (fun i => blkOf Aq = some i) w5) 9 (by kernel_rfl) (by kernel_rfl) ?_
              have hn0 : Mod (fun i => blkOf Aq = some i) w5 w5.drew := (Mod.refl _ _).drew
              have HND : Hid (New w5 w5.drew) := Lib.hid ((Mod.refl _ _).drew)
              refine headW_take 0 _ ?_ (fun _ _ d _ _ h => by cases d <;> exact h) (by kernel_rfl) rfl (by kernel_rfl) hn0 (by rfl) (fun W hSw => ?_) ?_
              rotate_left
              · (have hq := HSL.out W hSw); (try simp only [List.getElem_toArray, List.getElem_cons_zero, List.getElem_cons_succ]); go_simp; any_goals (with_reducible rfl)
              simp only [Act.put, List.getElem_toArray, List.getElem_cons_zero, List.getElem_cons_succ, List.setIfInBounds_toArray, List.set_cons_zero, List.set_cons_succ]
              refine headW_take 1 _ ?_ (fun _ _ d _ _ h => by cases d <;> exact h) (by kernel_rfl) rfl (by kernel_rfl) hn0 (by rfl) (fun W hSw => ?_) ?_
              rotate_left
              · (have hq := HSL.out W hSw); (try simp only [List.getElem_toArray, List.getElem_cons_zero, List.getElem_cons_succ]); go_simp; any_goals (with_reducible rfl)
              simp only [Act.put, List.getElem_toArray, List.getElem_cons_zero, List.getElem_cons_succ, List.setIfInBounds_toArray, List.set_cons_zero, List.set_cons_succ]
              refine headW_take 2 _ ?_ (fun _ _ d _ _ h => by cases d <;> exact h) (by kernel_rfl) rfl (by kernel_rfl) hn0 (by rfl) (fun W hSw => ?_) ?_
              rotate_left
              · (have hq := HSL.out W hSw); (try simp only [List.getElem_toArray, List.getElem_cons_zero, List.getElem_cons_succ]); go_simp; any_goals (with_reducible rfl)
              simp only [Act.put, List.getElem_toArray, List.getElem_cons_zero, List.getElem_cons_succ, List.setIfInBounds_toArray, List.set_cons_zero, List.set_cons_succ]
              refine headW_take 3 _ ?_ (fun _ _ d _ _ h => by cases d <;> exact h) (by kernel_rfl) rfl (by kernel_rfl) hn0 (by rfl) (fun W hSw => ?_) ?_
              rotate_left
              · (have hq := HSL.out W hSw); (try simp only [List.getElem_toArray, List.getElem_cons_zero, List.getElem_cons_succ]); go_simp; any_goals (with_reducible rfl)
              simp only [Act.put, List.getElem_toArray, List.getElem_cons_zero, List.getElem_cons_succ, List.setIfInBounds_toArray, List.set_cons_zero, List.set_cons_succ]
              refine headW_take 4 _ ?_ (fun _ _ d _ _ h => by cases d <;> exact h) (by kernel_rfl) rfl (by kernel_rfl) hn0 (by rfl) (fun W hSw => ?_) ?_
              rotate_left
              · (have hq := HSL.out W hSw); (try simp only [List.getElem_toArray, List.getElem_cons_zero, List.getElem_cons_succ]); go_simp; any_goals (with_reducible rfl)
              simp only [Act.put, List.getElem_toArray, List.getElem_cons_zero, List.getElem_cons_succ, List.setIfInBounds_toArray, List.set_cons_zero, List.set_cons_succ]
              refine headW_take 5 _ ?_ (fun _ _ d _ _ h => by cases d <;> exact h) (by kernel_rfl) rfl (by kernel_rfl) hn0 (by rfl) (fun W hSw => ?_) ?_
              rotate_left
              · (have hq := HSL.out W hSw); (try simp only [List.getElem_toArray, List.getElem_cons_zero, List.getElem_cons_succ]); go_simp; any_goals (with_reducible rfl)
              simp only [Act.put, List.getElem_toArray, List.getElem_cons_zero, List.getElem_cons_succ, List.setIfInBounds_toArray, List.set_cons_zero, List.set_cons_succ]
              refine headW_ready [6] (by kernel_rfl) (by rfl) ?_
              refine eachW_step rfl rfl (fun K hK => ?_) eachW_nil
              (try simp only [List.getElem_toArray, List.getElem_cons_zero, List.getElem_cons_succ])
              go_simp
              refine (val_named zn0 _).mono ?_
              rintro e w6 ⟨rfl, m6⟩
              have HNQ : Hid (New w5 w6) := Lib.hid (HND.out.trans m6)
              clear m6
              go_wp2_with fail
              refine hK.out _ _ (HNQ.out.mono (fun _ _ e => e.elim)) (fun _ => ?_)
              clear hK K
              (try simp only [Act.put, List.getElem_toArray, List.getElem_cons_zero, List.getElem_cons_succ, List.setIfInBounds_toArray, List.set_cons_zero, List.set_cons_succ])
              have hbp := val_behindPath A n c ps ⟨true, zn0, (0 : Int)⟩ w6 (HKS.out _ (HMO5.out.trans (HNQ.out.mono (fun _ _ e => e.elim)))) (by omega)
              unfold St.val at hbp
              simp only at hbp
              refine headW_ready [7] (by kernel_rfl) (by rfl) ?_
              refine eachW_step rfl rfl (fun K hK => ?_) eachW_nil
              (try simp only [List.getElem_toArray, List.getElem_cons_zero, List.getElem_cons_succ])
              go_simp
              refine hbp.mono ?_
              rintro e w7 ⟨A7, c7, rfl, own7, m7⟩
              have HN7 := Lib.hid (HNQ.out.trans m7)
              have HS7 := Lib.hid own7.sl
              clear own7 m7
              go_wp2_with fail
              refine hK.out _ _ (HN7.out.mono (fun _ _ e => e.elim)) (fun _ => ?_)
              clear hK K
              (try simp only [Act.put, List.getElem_toArray, List.getElem_cons_zero, List.getElem_cons_succ, List.setIfInBounds_toArray, List.set_cons_zero, List.set_cons_succ])
              refine headW_ready [8] (by kernel_rfl) (by rfl) ?_
              refine eachW_step rfl rfl (fun K hK => ?_) eachW_nil
              have hMO7 : Mod (fun k => blkOf Ao = some k) w w7 := HMO5.out.trans (HN7.out.mono (fun _ _ e => e.elim))
              have hih := IHH.out Aq nq cq qs A7 (n + 1) c7 (ps ++ [⟨true, zn0, (0 : Int)⟩]) w7 hMO7 (HOQ.out.new HN7.out) (Al.imp (fun _ _ h => PthIs.new h HN7.out) HQP.out) HS7.out (by omega) (by have := HN7.out.size; omega) (by omega)
              have HMO7 := Lib.hid hMO7
              clear hMO7
              (try simp only [List.getElem_toArray, List.getElem_cons_zero, List.getElem_cons_succ])
              go_simp
              refine hih.mono ?_
              clear hih
              rintro e w9 ⟨A9, n9, c9, qs9, rfl, own9, al9, hle9, mo9, far9⟩
              have HO9 := Lib.hid own9
              have HAL9 := Lib.hid al9
              have HMO9 := Lib.hid mo9
              have HFAR9 := Lib.hid far9
              clear own9 al9 mo9 far9
              go_wp2_with fail
              refine hK.out _ _ ((HN7.out.mono (fun _ _ e => e.elim)).trans HMO9.out) (fun _ => ?_)
              clear hK K
              (try simp only [Act.put, List.getElem_toArray, List.getElem_cons_zero, List.getElem_cons_succ, List.setIfInBounds_toArray, List.set_cons_zero, List.set_cons_succ])
              refine headW_done (by kernel_rfl) ?_
              go_wp2_with fail
              go_roundw
              case rel =>
                refine ⟨k + 1, A9, n9, c9, by omega, by go_num, rfl, Lib.hid ⟨?_, ⟨_, HO9.out, ?_⟩, ?_, ?_, ?_⟩⟩
                · exact (HX5.out.mod HN7.out (fun e => e)).mod HMO9.out (fun e => ((HX5.out.tb).ne (HTBQ.out xb e) (by decide)) rfl)
                · rw [HNX.out, ← List.append_assoc]; exact HAL9.out
                · rw [HSUM.out]
                  omega
                · exact HMO7.out.step HMO9.out (fun i hi e => by
                    rcases HFARQ.out i e with h | h
                    · exact h
                    · omega)
                · intro g e
                  rcases HFAR9.out g e with h | h
                  · exact HFARQ.out g h
                  · right; have := HMO7.out.size; omega
              case measure => simp [intOf]; omega
            · obtain rfl : xmn = k := by omega
              have hmz : nq ≤ no + WT := by
                have h := take_sum_le v.mem (fun p => vW d p.2 + (6 * p.1.size + 4)) xmn
                rw [HWM.out] at h
                omega
              have HO9 := Lib.hid hoq0
              have HQ9 := Lib.hid hqp
              clear hoq0 hqp
              go_wp2_with fail
              go_ret
              exact ⟨Aq, nq, cq, qs, rfl, HO9.out, by rw [HNE.out]; exact HQ9.out, hmz, HMO.out, by intro g e; have h := HFARQ.out g e; omega⟩
    · have hl0i : ((xln : Int) == 0) = false := by simp; omega
      clear hempty hl0
      have e0 := HX.out.cell 0
      have e1 := HX.out.cell 1
      have e2 := HX.out.cell 2
      have e3 := HX.out.cell 3
      have e4 := HX.out.cell 4
      have e5 := HX.out.cell 5
      have el := HX.out.lt
      have ef := HX.out.frozen
      simp only [List.getElem?_toArray, List.getElem?_cons_zero, List.getElem?_cons_succ] at e0 e1 e2 e3 e4 e5
      go_upto_region 3 with fail
      go_wp2_with fail
      clear e0 e1 e2 e3 e4 e5 el ef
      clear HX HM
      go_loopw [0, 29] (fun o i wr => ∃ (k : Nat) (Aq : Option Addr) (nq cq : Nat), k ≤ xln ∧ i = .int .i64 k ∧ o = .slice Aq nq cq ∧ Hid (LvPI w xb #[.int .i64 xk, .bool xf, .int .i64 xn, .string xw, .slice xla xln xlc, .slice xma xmn xmc] B Ao (os ++ lvL d v.list ps k) (no + ((v.list.take k).map fun x => vW d x + 1).sum) Aq nq cq wr)) (fun _ i _ => xln - (intOf i).toNat)
      case atStart => exact ⟨0, _, _, _, Nat.zero_le _, rfl, rfl, HI0⟩
      clear HI0
      case round =>
        rename World => wr
        obtain ⟨k, Aq, nq, cq, hk, rfl, rfl, HI⟩ := hrel
        have HX := Lib.hid HI.out.box
        have HMO := Lib.hid HI.out.mod
        have hmany := HI.out.many
        have HFARQ := Lib.hid HI.out.far
        obtain ⟨qs, hoq0, hqp⟩ := HI.out.row
        clear HI
        by_cases hlt : k < xln
        · have hkx : k < xs.length := by have := (HL1.out _ HMO.out).1; omega
          have hkv : k < v.list.length := by have := HF5.out; omega
          obtain ⟨g2, o2, hA, htb, hc0⟩ := (HL1.out _ HMO.out).sl.2 (by omega)
          subst hA
          have hgl := htb.lt
          have hty := HL2.out.get k hkx hkv
          have hwk := HWD.out.2.2.2.1 _ (List.getElem_mem hkv)
          have HSUM : Hid (((v.list.take (k + 1)).map fun x => vW d x + 1).sum = ((v.list.take k).map fun x => vW d x + 1).sum + (vW d v.list[k] + 1)) := Lib.hid (take_sum v.list (fun x => vW d x + 1) k hkv)
          have HNX : Hid (lvL d v.list ps (k + 1) = lvL d v.list ps k ++ leavesT d v.list[k] (ps ++ [⟨false, ⟨#[]⟩, (k : Int)⟩])) := Lib.hid (lvL_next d hkv)
          have hwle : ((v.list.take (k + 1)).map fun x => vW d x + 1).sum ≤ WL := by rw [← HWL.out]; exact take_sum_le _ _ _
          rw [HSUM.out] at hwle
          have hnz : nq + vW d v.list[k] ≤ 500000 := by omega
          have IHH := Lib.hid (fun A1 n1 c1 q1 A2 n2 c2 ps2 W (h : Mod (fun k => blkOf Ao = some k) w W) ho1 ha1 hs1 => IH xs[k] v.list[k] A1 n1 c1 q1 (os ++ lvL d v.list ps k) A2 n2 c2 ps2 B W (HKT.out W _ _ h hty) hwk ho1 ha1 hs1)
          have hc := fun j (hj : j < 6) => hc0 k hkx j hj
          clear hc0 htb hty hwk
          generalize vW d v.list[k] = VK at *
          generalize ((v.list.take k).map fun x => vW d x + 1).sum = SK at *
          generalize xs[k] = z at *
          obtain ⟨zk, zf, zn, zw, zla, zln, zlc, zma, zmn, zmc⟩ := z
          have b0 := hc 0 (by omega)
          have b1 := hc 1 (by omega)
          have b2 := hc 2 (by omega)
          have b3 := hc 3 (by omega)
          have b4 := hc 4 (by omega)
          have b5 := hc 5 (by omega)
          simp only [VA.enc, Nat.add_zero, Nat.zero_add] at b0 b1 b2 b3 b4 b5
          clear hc
          have hb2 : (0 : Int) ≤ k := by omega
          have hb3 : (k : Int) < xln := by omega
          have m5 : New wr (wr.alloc (.cells #[.int .i64 zk, .bool zf, .int .i64 zn, .string zw, .slice zla zln zlc, .slice zma zmn zmc] 29)) := (Mod.refl _ _).alloc _
          have hlb := Blk.new wr 29 #[.int .i64 zk, .bool zf, .int .i64 zn, .string zw, .slice zla zln zlc, .slice zma zmn zmc]
          go_upto_region 6 with (fail)
          generalize wr.alloc (.cells #[.int .i64 zk, .bool zf, .int .i64 zn, .string zw, .slice zla zln zlc, .slice zma zmn zmc] 29) = w5 at *
          have HX5 := Lib.hid (HX.out.mod m5 (fun e => e))
          have HMO5 : Hid (Mod (fun k => blkOf Ao = some k) w w5) := Lib.hid (HMO.out.trans (m5.mono (fun _ _ e => e.elim)))
          have HOQ := Lib.hid (hoq0.new m5)
          have HQP := Lib.hid (Al.imp (fun _ _ h => PthIs.new h m5) hqp)
          have HTBQ : Hid (∀ g, blkOf Aq = some g → TB w5 g 32) := Lib.hid (fun g e => HOQ.out.tbOf g e)
          have hxlt : xb < w5.heap.size := HX5.out.lt
          have hBw5 : B ≤ w5.heap.size := by have := HMO5.out.size; omega
          clear m5 HX HMO hoq0 hqp
          have HLB : Hid (TB w5 wr.heap.size 29) := Lib.hid hlb.tb
          have HSL : Hid (∀ W, Mod (fun i => blkOf Aq = some i) w5 W → W.cell? ⟨wr.heap.size, 0, none⟩ = some (.int .i64 zk) ∧ W.cell? ⟨wr.heap.size, 1, none⟩ = some (.bool zf) ∧ W.cell? ⟨wr.heap.size, 2, none⟩ = some (.int .i64 zn) ∧ W.cell? ⟨wr.heap.size, 3, none⟩ = some (.string zw) ∧ W.cell? ⟨wr.heap.size, 4, none⟩ = some (.slice zla zln zlc) ∧ W.cell? ⟨wr.heap.size, 5, none⟩ = some (.slice zma zmn zmc) ∧ wr.heap.size < W.heap.size) := Lib.hid (fun W hW => by
            have h1 := hlb.mod hW (fun e => (HLB.out.ne (HTBQ.out _ e) (by decide)) rfl)
            exact ⟨(h1.cell 0).trans rfl, (h1.cell 1).trans rfl, (h1.cell 2).trans rfl, (h1.cell 3).trans rfl, (h1.cell 4).trans rfl, (h1.cell 5).trans rfl, h1.lt⟩)
          clear b0 b1 b2 b3 b4 b5 hgl hlb
          generalize wr.heap.size = lb at *
          refine wp_region_held_tree (Mod (fun i => blkOf Aq = some i) w5) 7 (by kernel_rfl) (by kernel_rfl) ?_
          have hn0 : Mod (fun i => blkOf Aq = some i) w5 w5.drew := (Mod.refl _ _).drew
          have HNQ : Hid (New w5 w5.drew) := Lib.hid ((Mod.refl _ _).drew)
          refine headW_take 0 _ ?_ (fun _ _ d _ _ h => by cases d <;> exact h) (by kernel_rfl) rfl (by kernel_rfl) hn0 (by rfl) (fun W hSw => ?_) ?_
          rotate_left
          · (have hq := HSL.out W hSw); (try simp only [List.getElem_toArray, List.getElem_cons_zero, List.getElem_cons_succ]); go_simp; any_goals (with_reducible rfl)
          simp only [Act.put, List.getElem_toArray, List.getElem_cons_zero, List.getElem_cons_succ, List.setIfInBounds_toArray, List.set_cons_zero, List.set_cons_succ]
          refine headW_take 1 _ ?_ (fun _ _ d _ _ h => by cases d <;> exact h) (by kernel_rfl) rfl (by kernel_rfl) hn0 (by rfl) (fun W hSw => ?_) ?_
          rotate_left
          · (have hq := HSL.out W hSw); (try simp only [List.getElem_toArray, List.getElem_cons_zero, List.getElem_cons_succ]); go_simp; any_goals (with_reducible rfl)
          simp only [Act.put, List.getElem_toArray, List.getElem_cons_zero, List.getElem_cons_succ, List.setIfInBounds_toArray, List.set_cons_zero, List.set_cons_succ]
          refine headW_take 2 _ ?_ (fun _ _ d _ _ h => by cases d <;> exact h) (by kernel_rfl) rfl (by kernel_rfl) hn0 (by rfl) (fun W hSw => ?_) ?_
          rotate_left
          · (have hq := HSL.out W hSw); (try simp only [List.getElem_toArray, List.getElem_cons_zero, List.getElem_cons_succ]); go_simp; any_goals (with_reducible rfl)
          simp only [Act.put, List.getElem_toArray, List.getElem_cons_zero, List.getElem_cons_succ, List.setIfInBounds_toArray, List.set_cons_zero, List.set_cons_succ]
          refine headW_take 3 _ ?_ (fun _ _ d _ _ h => by cases d <;> exact h) (by kernel_rfl) rfl (by kernel_rfl) hn0 (by rfl) (fun W hSw => ?_) ?_
          rotate_left
          · (have hq := HSL.out W hSw); (try simp only [List.getElem_toArray, List.getElem_cons_zero, List.getElem_cons_succ]); go_simp; any_goals (with_reducible rfl)
          simp only [Act.put, List.getElem_toArray, List.getElem_cons_zero, List.getElem_cons_succ, List.setIfInBounds_toArray, List.set_cons_zero, List.set_cons_succ]
          refine headW_take 4 _ ?_ (fun _ _ d _ _ h => by cases d <;> exact h) (by kernel_rfl) rfl (by kernel_rfl) hn0 (by rfl) (fun W hSw => ?_) ?_
          rotate_left
          · (have hq := HSL.out W hSw); (try simp only [List.getElem_toArray, List.getElem_cons_zero, List.getElem_cons_succ]); go_simp; any_goals (with_reducible rfl)
          simp only [Act.put, List.getElem_toArray, List.getElem_cons_zero, List.getElem_cons_succ, List.setIfInBounds_toArray, List.set_cons_zero, List.set_cons_succ]
          have hbp := val_behindPath A n c ps ⟨false, ⟨#[]⟩, (k : Int)⟩ w5.drew (HKS.out _ (HMO5.out.trans (HNQ.out.mono (fun _ _ e => e.elim)))) (by omega)
          unfold St.val at hbp
          simp only at hbp
          refine headW_ready [5] (by kernel_rfl) (by rfl) ?_
          refine eachW_step rfl rfl (fun K hK => ?_) eachW_nil
          (try simp only [List.getElem_toArray, List.getElem_cons_zero, List.getElem_cons_succ])
          go_simp
          refine hbp.mono ?_
          rintro e w7 ⟨A7, c7, rfl, own7, m7⟩
          have HN7 := Lib.hid (HNQ.out.trans m7)
          have HS7 := Lib.hid own7.sl
          clear own7 m7
          go_wp2_with fail
          refine hK.out _ _ (HN7.out.mono (fun _ _ e => e.elim)) (fun _ => ?_)
          clear hK K
          (try simp only [Act.put, List.getElem_toArray, List.getElem_cons_zero, List.getElem_cons_succ, List.setIfInBounds_toArray, List.set_cons_zero, List.set_cons_succ])
          refine headW_ready [6] (by kernel_rfl) (by rfl) ?_
          refine eachW_step rfl rfl (fun K hK => ?_) eachW_nil
          have hMO7 : Mod (fun k => blkOf Ao = some k) w w7 := HMO5.out.trans (HN7.out.mono (fun _ _ e => e.elim))
          have hih := IHH.out Aq nq cq qs A7 (n + 1) c7 (ps ++ [⟨false, ⟨#[]⟩, (k : Int)⟩]) w7 hMO7 (HOQ.out.new HN7.out) (Al.imp (fun _ _ h => PthIs.new h HN7.out) HQP.out) HS7.out (by omega) (by have := HN7.out.size; omega) (by omega)
          have HMO7 := Lib.hid hMO7
          clear hMO7
          (try simp only [List.getElem_toArray, List.getElem_cons_zero, List.getElem_cons_succ])
          go_simp
          refine hih.mono ?_
          clear hih
          rintro e w9 ⟨A9, n9, c9, qs9, rfl, own9, al9, hle9, mo9, far9⟩
          have HO9 := Lib.hid own9
          have HAL9 := Lib.hid al9
          have HMO9 := Lib.hid mo9
          have HFAR9 := Lib.hid far9
          clear own9 al9 mo9 far9
          go_wp2_with fail
          refine hK.out _ _ ((HN7.out.mono (fun _ _ e => e.elim)).trans HMO9.out) (fun _ => ?_)
          clear hK K
          (try simp only [Act.put, List.getElem_toArray, List.getElem_cons_zero, List.getElem_cons_succ, List.setIfInBounds_toArray, List.set_cons_zero, List.set_cons_succ])
          refine headW_done (by kernel_rfl) ?_
          go_wp2_with fail
          go_roundw
          case rel =>
            refine ⟨k + 1, A9, n9, c9, by omega, by go_num, rfl, Lib.hid ⟨?_, ⟨_, HO9.out, ?_⟩, ?_, ?_, ?_⟩⟩
            · exact (HX5.out.mod HN7.out (fun e => e)).mod HMO9.out (fun e => ((HX5.out.tb).ne (HTBQ.out xb e) (by decide)) rfl)
            · rw [HNX.out, ← List.append_assoc]; exact HAL9.out
            · rw [HSUM.out]
              omega
            · exact HMO7.out.step HMO9.out (fun i hi e => by
                rcases HFARQ.out i e with h | h
                · exact h
                · omega)
            · intro g e
              rcases HFAR9.out g e with h | h
              · exact HFARQ.out g h
              · right; have := HMO7.out.size; omega
          case measure => simp [intOf]; omega
        · obtain rfl : xln = k := by omega
          have hmy : nq ≤ no + (WL + ((v.mem.take 0).map fun p => vW d p.2 + (6 * p.1.size + 4)).sum) := by
            have h := take_sum_le v.list (fun x => vW d x + 1) xln
            rw [HWL.out] at h
            omega
          have HI1 : Hid (LvPI w xb #[.int .i64 xk, .bool xf, .int .i64 xn, .string xw, .slice xla xln xlc, .slice xma xmn xmc] B Ao (os ++ (lvL d v.list ps xln ++ lvM d v.mem ps 0)) (no + (WL + ((v.mem.take 0).map fun p => vW d p.2 + (6 * p.1.size + 4)).sum)) Aq nq cq wr) := Lib.hid ⟨HX.out, ⟨qs, hoq0, by rw [show lvL d v.list ps xln ++ lvM d v.mem ps 0 = lvL d v.list ps xln from List.append_nil _]; exact hqp⟩, hmy, HMO.out, HFARQ.out⟩
          clear hmy hmany hoq0 hqp HFARQ
          have e0 := HX.out.cell 0
          have e1 := HX.out.cell 1
          have e2 := HX.out.cell 2
          have e3 := HX.out.cell 3
          have e4 := HX.out.cell 4
          have e5 := HX.out.cell 5
          have el := HX.out.lt
          have ef := HX.out.frozen
          simp only [List.getElem?_toArray, List.getElem?_cons_zero, List.getElem?_cons_succ] at e0 e1 e2 e3 e4 e5
          go_wp2_with fail
          clear e0 e1 e2 e3 e4 e5 el ef
          clear HX HMO
          go_loopw [0, 45] (fun o i wr => ∃ (k : Nat) (Aq : Option Addr) (nq cq : Nat), k ≤ xmn ∧ i = .int .i64 k ∧ o = .slice Aq nq cq ∧ Hid (LvPI w xb #[.int .i64 xk, .bool xf, .int .i64 xn, .string xw, .slice xla xln xlc, .slice xma xmn xmc] B Ao (os ++ (lvL d v.list ps xln ++ lvM d v.mem ps k)) (no + (WL + ((v.mem.take k).map fun p => vW d p.2 + (6 * p.1.size + 4)).sum)) Aq nq cq wr)) (fun _ i _ => xmn - (intOf i).toNat)
          case atStart => exact ⟨0, _, _, _, Nat.zero_le _, rfl, rfl, HI1⟩
          clear HI1
          case round =>
            rename World => wr
            obtain ⟨k, Aq, nq, cq, hk, rfl, rfl, HI⟩ := hrel
            have HX := Lib.hid HI.out.box
            have HMO := Lib.hid HI.out.mod
            have hmany := HI.out.many
            have HFARQ := Lib.hid HI.out.far
            obtain ⟨qs, hoq0, hqp⟩ := HI.out.row
            clear HI
            by_cases hlt : k < xmn
            · have hkx : k < ms.length := by have := (HL3.out _ HMO.out).1; omega
              have hkv : k < v.mem.length := by have := HF6.out; omega
              obtain ⟨g2, o2, hA, htb, hc0⟩ := (HL3.out _ HMO.out).sl.2 (by omega)
              subst hA
              have hgl := htb.lt
              have hty := HL4.out.get k hkx hkv
              have hwk := HWD.out.2.2.2.2 _ (List.getElem_mem hkv)
              have HSUM : Hid (WL + ((v.mem.take (k + 1)).map fun p => vW d p.2 + (6 * p.1.size + 4)).sum = WL + ((v.mem.take k).map fun p => vW d p.2 + (6 * p.1.size + 4)).sum + (vW d v.mem[k].2 + (6 * v.mem[k].1.size + 4))) := Lib.hid (by rw [take_sum v.mem (fun p => vW d p.2 + (6 * p.1.size + 4)) k hkv]; omega)
              have HNX : Hid (lvL d v.list ps xln ++ lvM d v.mem ps (k + 1) = (lvL d v.list ps xln ++ lvM d v.mem ps k) ++ leavesT d v.mem[k].2 (ps ++ [⟨true, ms[k].name, (0 : Int)⟩])) := Lib.hid (by rw [lvM_next d hkv, List.append_assoc, hty.1])
              have hwle : ((v.mem.take (k + 1)).map fun p => vW d p.2 + (6 * p.1.size + 4)).sum ≤ WM := by rw [← HWM.out]; exact take_sum_le _ _ _
              have hs2 := HSUM.out
              have hnz : nq + vW d v.mem[k].2 ≤ 500000 := by omega
              have IHH := Lib.hid (fun A1 n1 c1 q1 A2 n2 c2 ps2 W (h : Mod (fun k => blkOf Ao = some k) w W) ho1 ha1 hs1 => IH ms[k].v v.mem[k].2 A1 n1 c1 q1 (os ++ (lvL d v.list ps xln ++ lvM d v.mem ps k)) A2 n2 c2 ps2 B W (HKT.out W _ _ h hty.2) hwk.2 ho1 ha1 hs1)
              have hc := fun j (hj : j < 7) => hc0 k hkx j hj
              clear hc0 htb hty hwk hs2
              generalize vW d v.mem[k].2 = VK at *
              generalize ((v.mem.take k).map fun p => vW d p.2 + (6 * p.1.size + 4)).sum = SK at *
              generalize v.mem[k].1.size = NK at *
              generalize ms[k] = z at *
              obtain ⟨zn0, zk, zf, zn, zw, zla, zln, zlc, zma, zmn, zmc⟩ := z
              have b0 := hc 0 (by omega)
              have b1 := hc 1 (by omega)
              have b2 := hc 2 (by omega)
              have b3 := hc 3 (by omega)
              have b4 := hc 4 (by omega)
              have b5 := hc 5 (by omega)
              have b6 := hc 6 (by omega)
              simp only [MA.enc, VA.enc, Nat.add_zero, Nat.zero_add] at b0 b1 b2 b3 b4 b5 b6
              clear hc
              have hb2 : (0 : Int) ≤ k := by omega
              have hb3 : (k : Int) < xmn := by omega
              have m5 : New wr (wr.alloc (.cells #[.string zn0, .int .i64 zk, .bool zf, .int .i64 zn, .string zw, .slice zla zln zlc, .slice zma zmn zmc] 66)) := (Mod.refl _ _).alloc _
              have hlb := Blk.new wr 66 #[.string zn0, .int .i64 zk, .bool zf, .int .i64 zn, .string zw, .slice zla zln zlc, .slice zma zmn zmc]
              go_upto_region 11 with (fail)
              generalize wr.alloc (.cells #[.string zn0, .int .i64 zk, .bool zf, .int .i64 zn, .string zw, .slice zla zln zlc, .slice zma zmn zmc] 66) = w5 at *
              have HX5 := Lib.hid (HX.out.mod m5 (fun e => e))
              have HMO5 : Hid (Mod (fun k => blkOf Ao = some k) w w5) := Lib.hid (HMO.out.trans (m5.mono (fun _ _ e => e.elim)))
              have HOQ := Lib.hid (hoq0.new m5)
              have HQP := Lib.hid (Al.imp (fun _ _ h => PthIs.new h m5) hqp)
              have HTBQ : Hid (∀ g, blkOf Aq = some g → TB w5 g 32) := Lib.hid (fun g e => HOQ.out.tbOf g e)
              have hxlt : xb < w5.heap.size := HX5.out.lt
              have hBw5 : B ≤ w5.heap.size := by have := HMO5.out.size; omega
              clear m5 HX HMO hoq0 hqp
              have HLB : Hid (TB w5 wr.heap.size 66) := Lib.hid hlb.tb
              have HSL : Hid (∀ W, Mod (fun i => blkOf Aq = some i) w5 W → W.cell? ⟨wr.heap.size, 0, none⟩ = some (.string zn0) ∧ W.cell? ⟨wr.heap.size, 1, none⟩ = some (.int .i64 zk) ∧ W.cell? ⟨wr.heap.size, 2, none⟩ = some (.bool zf) ∧ W.cell? ⟨wr.heap.size, 3, none⟩ = some (.int .i64 zn) ∧ W.cell? ⟨wr.heap.size, 4, none⟩ = some (.string zw) ∧ W.cell? ⟨wr.heap.size, 5, none⟩ = some (.slice zla zln zlc) ∧ W.cell? ⟨wr.heap.size, 6, none⟩ = some (.slice zma zmn zmc) ∧ wr.heap.size < W.heap.size) := Lib.hid (fun W hW => by
                have h1 := hlb.mod hW (fun e => (HLB.out.ne (HTBQ.out _ e) (by decide)) rfl)
                exact ⟨(h1.cell 0).trans rfl, (h1.cell 1).trans rfl, (h1.cell 2).trans rfl, (h1.cell 3).trans rfl, (h1.cell 4).trans rfl, (h1.cell 5).trans rfl, (h1.cell 6).trans rfl, h1.lt⟩)
              clear b0 b1 b2 b3 b4 b5 b6 hgl hlb
              generalize wr.heap.size = lb at *
              refine wp_region_held_tree (Mod (fun i => blkOf Aq = some i) w5) 9 (by kernel_rfl) (by kernel_rfl) ?_
              have hn0 : Mod (fun i => blkOf Aq = some i) w5 w5.drew := (Mod.refl _ _).drew
              have HND : Hid (New w5 w5.drew) := Lib.hid ((Mod.refl _ _).drew)
              refine headW_take 0 _ ?_ (fun _ _ d _ _ h => by cases d <;> exact h) (by kernel_rfl) rfl (by kernel_rfl) hn0 (by rfl) (fun W hSw => ?_) ?_
              rotate_left
              · (have hq := HSL.out W hSw); (try simp only [List.getElem_toArray, List.getElem_cons_zero, List.getElem_cons_succ]); go_simp; any_goals (with_reducible rfl)
              simp only [Act.put, List.getElem_toArray, List.getElem_cons_zero, List.getElem_cons_succ, List.setIfInBounds_toArray, List.set_cons_zero, List.set_cons_succ]
              refine headW_take 1 _ ?_ (fun _ _ d _ _ h => by cases d <;> exact h) (by kernel_rfl) rfl (by kernel_rfl) hn0 (by rfl) (fun W hSw => ?_) ?_
              rotate_left
              · (have hq := HSL.out W hSw); (try simp only [List.getElem_toArray, List.getElem_cons_zero, List.getElem_cons_succ]); go_simp; any_goals (with_reducible rfl)
              simp only [Act.put, List.getElem_toArray, List.getElem_cons_zero, List.getElem_cons_succ, List.setIfInBounds_toArray, List.set_cons_zero, List.set_cons_succ]
              refine headW_take 2 _ ?_ (fun _ _ d _ _ h => by cases d <;> exact h) (by kernel_rfl) rfl (by kernel_rfl) hn0 (by rfl) (fun W hSw => ?_) ?_
              rotate_left
              · (have hq := HSL.out W hSw); (try simp only [List.getElem_toArray, List.getElem_cons_zero, List.getElem_cons_succ]); go_simp; any_goals (with_reducible rfl)
              simp only [Act.put, List.getElem_toArray, List.getElem_cons_zero, List.getElem_cons_succ, List.setIfInBounds_toArray, List.set_cons_zero, List.set_cons_succ]
              refine headW_take 3 _ ?_ (fun _ _ d _ _ h => by cases d <;> exact h) (by kernel_rfl) rfl (by kernel_rfl) hn0 (by rfl) (fun W hSw => ?_) ?_
              rotate_left
              · (have hq := HSL.out W hSw); (try simp only [List.getElem_toArray, List.getElem_cons_zero, List.getElem_cons_succ]); go_simp; any_goals (with_reducible rfl)
              simp only [Act.put, List.getElem_toArray, List.getElem_cons_zero, List.getElem_cons_succ, List.setIfInBounds_toArray, List.set_cons_zero, List.set_cons_succ]
              refine headW_take 4 _ ?_ (fun _ _ d _ _ h => by cases d <;> exact h) (by kernel_rfl) rfl (by kernel_rfl) hn0 (by rfl) (fun W hSw => ?_) ?_
              rotate_left
              · (have hq := HSL.out W hSw); (try simp only [List.getElem_toArray, List.getElem_cons_zero, List.getElem_cons_succ]); go_simp; any_goals (with_reducible rfl)
              simp only [Act.put, List.getElem_toArray, List.getElem_cons_zero, List.getElem_cons_succ, List.setIfInBounds_toArray, List.set_cons_zero, List.set_cons_succ]
              refine headW_take 5 _ ?_ (fun _ _ d _ _ h => by cases d <;> exact h) (by kernel_rfl) rfl (by kernel_rfl) hn0 (by rfl) (fun W hSw => ?_) ?_
              rotate_left
              · (have hq := HSL.out W hSw); (try simp only [List.getElem_toArray, List.getElem_cons_zero, List.getElem_cons_succ]); go_simp; any_goals (with_reducible rfl)
              simp only [Act.put, List.getElem_toArray, List.getElem_cons_zero, List.getElem_cons_succ, List.setIfInBounds_toArray, List.set_cons_zero, List.set_cons_succ]
              refine headW_ready [6] (by kernel_rfl) (by rfl) ?_
              refine eachW_step rfl rfl (fun K hK => ?_) eachW_nil
              (try simp only [List.getElem_toArray, List.getElem_cons_zero, List.getElem_cons_succ])
              go_simp
              refine (val_named zn0 _).mono ?_
              rintro e w6 ⟨rfl, m6⟩
              have HNQ : Hid (New w5 w6) := Lib.hid (HND.out.trans m6)
              clear m6
              go_wp2_with fail
              refine hK.out _ _ (HNQ.out.mono (fun _ _ e => e.elim)) (fun _ => ?_)
              clear hK K
              (try simp only [Act.put, List.getElem_toArray, List.getElem_cons_zero, List.getElem_cons_succ, List.setIfInBounds_toArray, List.set_cons_zero, List.set_cons_succ])
              have hbp := val_behindPath A n c ps ⟨true, zn0, (0 : Int)⟩ w6 (HKS.out _ (HMO5.out.trans (HNQ.out.mono (fun _ _ e => e.elim)))) (by omega)
              unfold St.val at hbp
              simp only at hbp
              refine headW_ready [7] (by kernel_rfl) (by rfl) ?_
              refine eachW_step rfl rfl (fun K hK => ?_) eachW_nil
              (try simp only [List.getElem_toArray, List.getElem_cons_zero, List.getElem_cons_succ])
              go_simp
              refine hbp.mono ?_
              rintro e w7 ⟨A7, c7, rfl, own7, m7⟩
              have HN7 := Lib.hid (HNQ.out.trans m7)
              have HS7 := Lib.hid own7.sl
              clear own7 m7
              go_wp2_with fail
              refine hK.out _ _ (HN7.out.mono (fun _ _ e => e.elim)) (fun _ => ?_)
              clear hK K
              (try simp only [Act.put, List.getElem_toArray, List.getElem_cons_zero, List.getElem_cons_succ, List.setIfInBounds_toArray, List.set_cons_zero, List.set_cons_succ])
              refine headW_ready [8] (by kernel_rfl) (by rfl) ?_
              refine eachW_step rfl rfl (fun K hK => ?_) eachW_nil
              have hMO7 : Mod (fun k => blkOf Ao = some k) w w7 := HMO5.out.trans (HN7.out.mono (fun _ _ e => e.elim))
              have hih := IHH.out Aq nq cq qs A7 (n + 1) c7 (ps ++ [⟨true, zn0, (0 : Int)⟩]) w7 hMO7 (HOQ.out.new HN7.out) (Al.imp (fun _ _ h => PthIs.new h HN7.out) HQP.out) HS7.out (by omega) (by have := HN7.out.size; omega) (by omega)
              have HMO7 := Lib.hid hMO7
              clear hMO7
              (try simp only [List.getElem_toArray, List.getElem_cons_zero, List.getElem_cons_succ])
              go_simp
              refine hih.mono ?_
              clear hih
              rintro e w9 ⟨A9, n9, c9, qs9, rfl, own9, al9, hle9, mo9, far9⟩
              have HO9 := Lib.hid own9
              have HAL9 := Lib.hid al9
              have HMO9 := Lib.hid mo9
              have HFAR9 := Lib.hid far9
              clear own9 al9 mo9 far9
              go_wp2_with fail
              refine hK.out _ _ ((HN7.out.mono (fun _ _ e => e.elim)).trans HMO9.out) (fun _ => ?_)
              clear hK K
              (try simp only [Act.put, List.getElem_toArray, List.getElem_cons_zero, List.getElem_cons_succ, List.setIfInBounds_toArray, List.set_cons_zero, List.set_cons_succ])
              refine headW_done (by kernel_rfl) ?_
              go_wp2_with fail
              go_roundw
              case rel =>
                refine ⟨k + 1, A9, n9, c9, by omega, by go_num, rfl, Lib.hid ⟨?_, ⟨_, HO9.out, ?_⟩, ?_, ?_, ?_⟩⟩
                · exact (HX5.out.mod HN7.out (fun e => e)).mod HMO9.out (fun e => ((HX5.out.tb).ne (HTBQ.out xb e) (by decide)) rfl)
                · rw [HNX.out, ← List.append_assoc]; exact HAL9.out
                · rw [HSUM.out]
                  omega
                · exact HMO7.out.step HMO9.out (fun i hi e => by
                    rcases HFARQ.out i e with h | h
                    · exact h
                    · omega)
                · intro g e
                  rcases HFAR9.out g e with h | h
                  · exact HFARQ.out g h
                  · right; have := HMO7.out.size; omega
              case measure => simp [intOf]; omega
            · obtain rfl : xmn = k := by omega
              have hmz : nq ≤ no + WT := by
                have h := take_sum_le v.mem (fun p => vW d p.2 + (6 * p.1.size + 4)) xmn
                rw [HWM.out] at h
                omega
              have HO9 := Lib.hid hoq0
              have HQ9 := Lib.hid hqp
              clear hoq0 hqp
              go_wp2_with fail
              go_ret
              exact ⟨Aq, nq, cq, qs, rfl, HO9.out, by rw [HNE.out]; exact HQ9.out, hmz, HMO.out, by intro g e; have h := HFARQ.out g e; omega⟩
theorem leavesP_v : ∀ d, LvPSpec d
  | 0 => fun x v Ao no co qs os A n c ps B w ht => ht.elim
  | d + 1 => leavesP_walk d (leavesP_v d)

end Go.Proofs.YtpgcbehpknghdaaGreatDoor

namespace Go.Proofs.YtpgcbehpknghdaaGreatDoor
open Go.RowKit
set_option linter.unusedVariables false
set_option linter.unusedSimpArgs false

theorem leavesT_len : ∀ (d : Nat) (v : VT) (p q : List St), q ∈ leavesT d v p → q.length ≤ p.length + vDeep d v
  | 0, v, p, q, h => by
    rw [leavesT, List.mem_singleton] at h
    subst h
    omega
  | d + 1, v, p, q, h => by
    rw [leavesT] at h
    split at h
    · rw [List.mem_singleton] at h
      subst h
      omega
    · rw [List.mem_append, List.mem_flatMap, List.mem_flatMap] at h
      simp only [vDeep]
      rcases h with ⟨i, hi, h⟩ | ⟨m, hm, h⟩
      · rw [List.mem_range] at hi
        rw [List.getD_eq_getElem?_getD, List.getElem?_eq_getElem hi] at h
        have h1 := leavesT_len d _ _ _ h
        have h2 := max_map_get (vDeep d) hi
        simp only [List.length_append, List.length_singleton, Option.getD_some] at h1
        omega
      · obtain ⟨i, hi, rfl⟩ := List.getElem_of_mem hm
        have h1 := leavesT_len d _ _ _ h
        have h2 := max_map_get (fun p : ByteArray × VT => vDeep d p.2) hi
        simp only [List.length_append, List.length_singleton] at h1
        omega
theorem leavesT_50 {d : Nat} {v : VT} (h : vCheck d v = 0) {q : List St} (hq : q ∈ leavesT d v []) : q.length ≤ 50 := by
  have h1 := leavesT_len d v [] q hq
  unfold vCheck at h
  split at h
  · cases h
  · rename_i hb
    unfold vBig at hb
    simp only [List.length_nil] at h1
    omega
def RLvs (w : World) (F : Int) (L : List (List St)) (e : Ending) (w' : World) : Prop := New w w' ∧ ∃ (A : Option Addr) (n c : Nat) (qs : List PA), e = .returned (.tuple #[.slice A n c, .int .i64 F]) ∧ n ≤ 500000 ∧ (F = 0 → Sl w' 32 1 PA.enc A n qs ∧ Al (PthIs w') qs L)
set_option maxRecDepth 100000 in
set_option maxHeartbeats 700000 in
theorem valLeaves_v (d : Nat) (x : VA) (v : VT) (w : World) (ht : Tree w (fun _ => True) d x v) (hw : Wide 100 d v) (hW : vW d v ≤ 400000) (hd : d ≤ 800) (hU : Utf8T w) :
    Calls Tryz.prog 18 #[x.val] w (RLvs w (vCheck d v) (leavesT d v [])) := by
  have HCK := Lib.hid (fun W (h : New w W) => check_v d x v _ W (ht.new h) ⟨by omega, hw.mono (by omega)⟩ (hU.new h))
  have HLV := Lib.hid (fun W (h : New w W) => leavesP_v d x v none 0 0 [] [] none 0 0 [] W.heap.size W (ht.new h) hw Own.nil trivial (Sl.nil) (by omega) (Nat.le_refl _) (by omega))
  have HLL := Lib.hid (fun (h : vCheck d v = 0) q hq => leavesT_50 (d := d) (v := v) h (q := q) hq)
  generalize vCheck d v = F at *
  generalize leavesT d v [] = L at *
  have hvw : 0 + vW d v ≤ 400000 := by omega
  generalize vW d v = M at *
  clear ht hw hU
  obtain ⟨xk, xf, xn, xw, xla, xln, xlc, xma, xmn, xmc⟩ := x
  have hx := Blk.new w 29 #[.int .i64 xk, .bool xf, .int .i64 xn, .string xw, .slice xla xln xlc, .slice xma xmn xmc]
  have m1 : New w (w.alloc (.cells #[.int .i64 xk, .bool xf, .int .i64 xn, .string xw, .slice xla xln xlc, .slice xma xmn xmc] 29)) := (Mod.refl _ _).alloc _
  go_enter Tryz.func18, Tryz.ntmps18
  go_upto_region 1 with (fail)
  generalize w.alloc (.cells #[.int .i64 xk, .bool xf, .int .i64 xn, .string xw, .slice xla xln xlc, .slice xma xmn xmc] 29) = w1 at *
  generalize hxb : w.heap.size = xb at *
  have HX := Lib.hid hx
  have HM := Lib.hid m1
  have hcall := HCK.out w1 m1
  clear hx m1
  have e0 := HX.out.cell 0
  have e1 := HX.out.cell 1
  have e2 := HX.out.cell 2
  have e3 := HX.out.cell 3
  have e4 := HX.out.cell 4
  have e5 := HX.out.cell 5
  have el := HX.out.lt
  have ef := HX.out.frozen
  simp only [List.getElem?_toArray, List.getElem?_cons_zero, List.getElem?_cons_succ] at e0 e1 e2 e3 e4 e5
  go_wp2_with fail
  refine hcall.mono ?_
  clear hcall
  rintro e w2 ⟨rfl, m2⟩
  have HX2 := Lib.hid (HX.out.mod m2 (fun e => e))
  have HM2 := Lib.hid (HM.out.trans m2)
  clear e0 e1 e2 e3 e4 e5 el ef
  clear m2 HX HM
  by_cases hF : F = 0
  · subst hF
    have hcall := HLV.out w2 HM2.out
    have e0 := HX2.out.cell 0
    have e1 := HX2.out.cell 1
    have e2 := HX2.out.cell 2
    have e3 := HX2.out.cell 3
    have e4 := HX2.out.cell 4
    have e5 := HX2.out.cell 5
    have el := HX2.out.lt
    have ef := HX2.out.frozen
    simp only [List.getElem?_toArray, List.getElem?_cons_zero, List.getElem?_cons_succ] at e0 e1 e2 e3 e4 e5
    go_wp2_with fail
    refine hcall.mono ?_
    clear hcall
    rintro e w3 ⟨A, n, c, qs, rfl, own, al, hle, mo, far⟩
    have HN3 : Hid (New w w3) := Lib.hid (HM2.out.trans (mo.mono (fun _ _ e => by cases e)))
    rw [List.nil_append] at al
    have HS := Lib.hid own.sl
    have HAL := Lib.hid al
    have hqn := own.sl.1
    have hln := al.len
    clear e0 e1 e2 e3 e4 e5 el ef
    clear own al mo far HX2 HM2
    go_wp2_with fail
    go_loopw [17] (fun i wr => ∃ k : Nat, k ≤ n ∧ i = .int .i64 k ∧ Hid (New w3 wr)) (fun i _ => n - (intOf i).toNat)
    case atStart => exact ⟨0, Nat.zero_le _, rfl, Lib.hid (Mod.refl _ _)⟩
    case round =>
      rename World => wr
      obtain ⟨k, hk, rfl, HM⟩ := hrel
      by_cases hlt : k < n
      · have hkx : k < qs.length := by omega
        have hkl : k < L.length := by omega
        obtain ⟨g1, o1, hA1, ht1, hc1⟩ := (HS.out.new HM.out).2 (by omega)
        subst hA1
        have a0 := hc1 k hkx 0 (by omega)
        simp only [PA.enc, Nat.add_zero, Nat.mul_one] at a0
        have l1 := ht1.lt
        have hb1 : (0 : Int) ≤ k := by omega
        have hb2 : (k : Int) < n := by omega
        have h50 : qs[k].n ≤ 50 := by
          have h1 := (HAL.out.get k hkx hkl).1.1
          have h2 := HLL.out trivial L[k] (List.getElem_mem _)
          omega
        clear hc1 ht1
        generalize qs[k] = x at *
        obtain ⟨xa, xn, xc⟩ := x
        simp only at a0 h50
        have h50b : ¬ ((50 : Int) < xn) := by omega
        clear h50
        go_wp2_with fail
        go_roundw
        case rel => exact ⟨k + 1, by omega, by go_num, HM⟩
        case measure => simp [intOf]; omega
      · obtain rfl : k = n := by omega
        go_wp2_with fail
        refine bodyPost_ret (v := .tuple #[.slice A k c, .int .i64 0]) (by simp [results, Tryz.results18, go_sem]) rfl ?_
        exact ⟨HN3.out.trans HM.out, A, k, c, qs, rfl, by omega, fun _ => ⟨HS.out.new HM.out, Al.imp (fun _ _ h => PthIs.new h HM.out) HAL.out⟩⟩
  · have hFb : (F != 0) = true := by simpa using hF
    go_wp2_with fail
    refine bodyPost_ret (v := .tuple #[.slice none 0 0, .int .i64 F]) (by simp [results, Tryz.results18, go_sem]) rfl ?_
    exact ⟨HM2.out, none, 0, 0, [], rfl, by omega, fun h => absurd h hF⟩

end Go.Proofs.YtpgcbehpknghdaaGreatDoor
