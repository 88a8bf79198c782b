/- The reference's meter: making one, what is left. Conditions: limits were checked, what was let in was checked. -/
import Derived.Test.YtinnckbffblecaaGreatRefReplay
import Derived.Test.YtinnckbffblecaaGreatMeter4
import Derived.Test.YtinnckbffblecaaGreatAsksRef
namespace Go.Proofs.YtinnckbffblecaaGreat
open Go.RowKit Go.MapKept
set_option linter.unusedVariables false
set_option linter.unusedSimpArgs false



structure CounterAt (w : World) (B gc mb : Nat) (Al : Option Addr) (cl : Nat) (ls : List Lim) (now : Int) (π : List (ByteArray × PastD)) : Prop where
  b0 : B ≤ gc
  blk : Blk w gc 109 #[.slice Al ls.length cl, .map (some mb), .int .i64 now]
  ref : RefAt w B mb π
  lims : LimRows w Al ls.length ls
theorem CounterAt.new {w w' : World} {B gc mb : Nat} {Al : Option Addr} {cl : Nat} {ls : List Lim} {now : Int} {π : List (ByteArray × PastD)} (h : CounterAt w B gc mb Al cl ls now π) (hm : New w w') : CounterAt w' B gc mb Al cl ls now π :=
  ⟨h.b0, h.blk.new'' hm, h.ref.new hm, h.lims.new hm⟩
theorem CounterAt.setNow {w : World} {B gc mb : Nat} {Al : Option Addr} {cl : Nat} {ls : List Lim} {now : Int} {π : List (ByteArray × PastD)} (h : CounterAt w B gc mb Al cl ls now π) (t : Int) : CounterAt (w.setCell ⟨gc, 2, none⟩ (.int .i64 t)) B gc mb Al cl ls t π := by
  have hm : Only gc w (w.setCell ⟨gc, 2, none⟩ (.int .i64 t)) := Mod.setCell (S := fun k => k = gc) (p := ⟨gc, 2, none⟩) (Mod.refl _ _) (.inl rfl) _
  refine ⟨h.b0, by simpa using h.blk.set 2 (.int .i64 t), ⟨h.ref.b0, h.ref.map.mod hm (fun e => h.ref.map.ne_blk h.blk.tb e.symm), fun who s hg => (h.ref.own who s hg).mod hm (fun x hx e => ?_), h.ref.apart⟩, h.lims.mod hm (fun g hg e => hg.ne h.blk.tb (by decide) e)⟩
  rcases (h.ref.own who s hg).blk with ⟨h1, _⟩ | ⟨g', h1, _, ht⟩
  · rw [h1] at hx; cases hx
  · rw [h1] at hx; injection hx with hx; simp only at hx; subst hx; exact ht.ne h.blk.tb (by decide) e

def RNewCo (w : World) (Al : Option Addr) (cl : Nat) (ls : List Lim) (e : Ending) (w' : World) : Prop :=
  ∃ gc mb, e = .returned (.pointer (some ⟨gc, 0, none⟩)) ∧ CounterAt w' w.heap.size gc mb Al cl ls 0 [] ∧ New w w'
set_option maxHeartbeats 1000000 in
theorem ref_newCounter (Al : Option Addr) (cl : Nat) (ls : List Lim) (w : World) (hl : LimRows w Al ls.length ls) : Calls Tryz.prog 30 #[.slice Al ls.length cl] w (RNewCo w Al cl ls) := by
  have hmm := @run_makeMap Tryz.prog
  go_enter Tryz.func30, Tryz.ntmps30
  go_wp2_with fail
  go_ret
  refine ⟨w.heap.size + 1, w.heap.size, rfl, ⟨by omega, Blk.new' _ _ (by simp), ⟨Nat.le_refl _, ?_, fun who s h => by simp [gget_nil] at h, fun a b s s' _ h => by simp [gget_nil] at h⟩, hl.new (by with_reducible (repeat (first | exact Mod.refl _ _ | refine Mod.drewN ?_ _ | refine Mod.drew ?_ | refine Mod.alloc ?_ _)))⟩, (by with_reducible (repeat (first | exact Mod.refl _ _ | refine Mod.drewN ?_ _ | refine Mod.drew ?_ | refine Mod.alloc ?_ _)))⟩
  exact MapOf.made (by rw [Below.heap_alloc _ _ _ (by simp), heap_alloc_new])

theorem ref_momentFault (t : Int) (w : World) : Calls Tryz.prog 63 #[.int .i64 t] w fun e w' => e = .returned (.int .i64 (if isMoment t then 0 else 1)) ∧ w = w' := by
  have hmo := ref_moment2 t w
  cases hm : isMoment t
  · rw [hm] at hmo
    simp only [Bool.false_eq_true, if_false]
    clear hm
    go_enter Tryz.func63, Tryz.ntmps63
    go_wp2_with fail
    refine hmo.mono ?_
    clear hmo
    rintro e w1 ⟨rfl, rfl⟩
    go_wp2_with fail
    go_ret
    exact ⟨rfl, rfl⟩
  · rw [hm] at hmo
    simp only [if_true]
    clear hm
    go_enter Tryz.func63, Tryz.ntmps63
    go_wp2_with fail
    refine hmo.mono ?_
    clear hmo
    rintro e w1 ⟨rfl, rfl⟩
    go_wp2_with fail
    go_ret
    exact ⟨rfl, rfl⟩
theorem ref_keyFault (s : ByteArray) (w : World) (hs : s.size ≤ maxLen) : Calls Tryz.prog 64 #[.string s] w fun e w' => e = .returned (.int .i64 (if isKey s then 0 else 5)) ∧ w = w' := by
  have hmo := ref_key s w hs
  cases hm : isKey s
  · rw [hm] at hmo
    simp only [Bool.false_eq_true, if_false]
    clear hm
    go_enter Tryz.func64, Tryz.ntmps64
    go_wp2_with fail
    refine hmo.mono ?_
    clear hmo
    rintro e w1 ⟨rfl, rfl⟩
    go_wp2_with fail
    go_ret
    exact ⟨rfl, rfl⟩
  · rw [hm] at hmo
    simp only [if_true]
    clear hm
    go_enter Tryz.func64, Tryz.ntmps64
    go_wp2_with fail
    refine hmo.mono ?_
    clear hmo
    rintro e w1 ⟨rfl, rfl⟩
    go_wp2_with fail
    go_ret
    exact ⟨rfl, rfl⟩

def leftRL (ls : List Lim) (p : List AskD) (t : Int) : List Int := ls.map fun l => leftR l p t
def RLeftR (w : World) (B gc mb : Nat) (Al : Option Addr) (cl : Nat) (ls : List Lim) (now : Int) (π : List (ByteArray × PastD)) (t : Int) (who : ByteArray) (e : Ending) (w' : World) : Prop :=
  (leftF now t who ≠ 0 ∧ e = .returned (.tuple #[.slice none 0 0, .int .i64 (leftF now t who)]) ∧ New w w') ∨
  (leftF now t who = 0 ∧ ∃ A n c, e = .returned (.tuple #[.slice A n c, .int .i64 0]) ∧ IntSl w' A n (leftRL ls (curR (pureR π) who) t) ∧ CounterAt w' B gc mb Al cl ls t π ∧ Only gc w w')
theorem orL_left (t : Int) (who : ByteArray) : orL [if isMoment t then 0 else 1, if isKey who then 0 else 5] = if isMoment t then (if isKey who then 0 else 5) else 1 := by
  cases isMoment t <;> cases isKey who <;> simp [orL]

set_option maxRecDepth 100000 in
set_option maxHeartbeats 4000000 in
theorem counter_left (gc mb B : Nat) (Al : Option Addr) (cl : Nat) (ls : List Lim) (now : Int) (π : List (ByteArray × PastD)) (t : Int) (who : ByteArray) (w : World)
    (hM : CounterAt w B gc mb Al cl ls now π) (hR : ∀ l ∈ ls, RLim' l) (hI : RInv ls (pureR π) now) (hpl : ∀ who s, gget π who = some s → s.p.length ≤ 10000) (hnow : 0 ≤ now) (hws : who.size ≤ maxLen) (hn : ls.length ≤ 1000) :
    Calls Tryz.prog 33 #[.pointer (some ⟨gc, 0, none⟩), .int .i64 t, .string who] w (RLeftR w B gc mb Al cl ls now π t who) := by
  have hgl := hM.blk.lt
  have c2 := hM.blk.cell 2
  have fg := hM.blk.frozen 2
  simp at c2
  have HM := Lib.hid hM
  have HR := Lib.hid hR
  have HI := Lib.hid hI
  have HPL := Lib.hid hpl
  have hmf : Calls Tryz.prog 63 #[.int .i64 t] w fun e w' => e = .returned (.int .i64 (if isMoment t then 0 else 1)) ∧ w = w' := ref_momentFault t w
  have hkf : Calls Tryz.prog 64 #[.string who] w fun e w' => e = .returned (.int .i64 (if isKey who then 0 else 5)) ∧ w = w' := ref_keyFault who w hws
  have hlf : leftF now t who = if orL [if isMoment t then 0 else 1, if isKey who then 0 else 5] ≠ 0 then orL [if isMoment t then 0 else 1, if isKey who then 0 else 5] else if t < now then 7 else 0 := by
    rw [orL_left]
    unfold leftF
    cases isMoment t <;> cases isKey who <;> simp
  have hmom : orL [if isMoment t then 0 else 1, if isKey who then 0 else 5] = 0 → 0 ≤ t ∧ t < 345686400000 := fun h => by
    rw [orL_left] at h
    cases hm : isMoment t with
    | false => rw [hm] at h; simp at h
    | true => unfold isMoment at hm; simpa using hm
  have HLF := Lib.hid hlf
  have HMO := Lib.hid hmom
  clear hlf hmom hM hR hI hpl
  generalize (if isMoment t then (0 : Int) else 1) = F1 at *
  generalize (if isKey who then (0 : Int) else 5) = F2 at *
  have hor := fun g W (hb : Blk W g 36 #[.int .i64 F1, .int .i64 F2]) => cmpOr_any [F1, F2] g 2 W hb rfl (by omega)
  generalize orL [F1, F2] = F at *
  go_enter Tryz.func33, Tryz.ntmps33
  go_wp2_with fail
  refine hmf.mono ?_
  clear hmf
  rintro e w1 ⟨rfl, rfl⟩
  go_wp2_with fail
  refine hkf.mono ?_
  clear hkf
  rintro e w1 ⟨rfl, rfl⟩
  go_wp2_with fail
  refine (hor _ _ (Blk.new _ _ _)).mono ?_
  clear hor
  rintro e w1 ⟨rfl, rfl⟩
  have hA1 : New w (w.alloc (.cells #[.int .i64 F1, .int .i64 F2] 36)) := (by with_reducible (repeat (first | exact Mod.refl _ _ | refine Mod.drewN ?_ _ | refine Mod.drew ?_ | refine Mod.alloc ?_ _)))
  have HM1 := Lib.hid (HM.out.new hA1)
  generalize w.alloc (.cells #[.int .i64 F1, .int .i64 F2] 36) = w1 at *
  have HA1 := Lib.hid hA1
  have c2 := HM1.out.blk.cell 2
  have fg := HM1.out.blk.frozen 2
  have hgl1 := HM1.out.blk.lt
  simp at c2
  clear hA1
  by_cases hF : F = 0
  · subst hF
    by_cases hlt : t < now
    · have hd : decide (t < now) = true := by simpa using hlt
      have hl7 : leftF now t who = 7 := by rw [HLF.out]; simp [hlt]
      have H7 := Lib.hid hl7
      clear hl7
      go_wp2_with fail
      go_ret2
      exact .inl ⟨by rw [H7.out]; decide, by rw [H7.out]; rfl, HA1.out⟩
    · have hd : decide (t < now) = false := by simpa using hlt
      have hl0 : leftF now t who = 0 := by rw [HLF.out]; simp [hlt]
      have H0 := Lib.hid hl0
      obtain ⟨ht0, ht1⟩ := HMO.out rfl
      have c0 := HM1.out.blk.cell 0
      simp at c0
      have hM2 := HM1.out.setNow t
      have hon : Only gc w1 (w1.setCell ⟨gc, 2, none⟩ (.int .i64 t)) := Mod.setCell (S := fun k => k = gc) (p := ⟨gc, 2, none⟩) (Mod.refl _ _) (.inl rfl) _
      have HM2 := Lib.hid hM2
      have HON := Lib.hid hon
      clear hl0 hM2 hon
      go_wp2_with fail
      generalize w1.setCell ⟨gc, 2, none⟩ (.int .i64 t) = W at *
      go_loopw [9, 11, 36] (fun o _ i wr => ∃ (j c : Nat) (A : Option Addr), j ≤ ls.length ∧ i = .int .i64 j ∧ o = .slice A j c ∧ Hid (IntOwn wr W.heap.size A j c ((leftRL ls (curD π who).p t).take j)) ∧ Hid (New W wr)) (fun _ _ i _ => ls.length - (intOf i).toNat)
      case atStart => exact ⟨0, 0, none, Nat.zero_le _, rfl, rfl, Lib.hid Own.nil, Lib.hid (Mod.refl _ _)⟩
      case round =>
        rename World => wr
        obtain ⟨j, c, A, hj, rfl, rfl, HO, HNR⟩ := hrel
        by_cases hjl : j < ls.length
        · obtain ⟨gl, ol, hAl, htl, hcl⟩ := (HM2.out.lims.new HNR.out).2 (by omega)
          subst hAl
          have l0 := hcl j hjl 0 (by omega)
          have l1 := hcl j hjl 1 (by omega)
          have l2 := hcl j hjl 2 (by omega)
          have l3 := hcl j hjl 3 (by omega)
          have l4 := hcl j hjl 4 (by omega)
          simp only [Lim.enc, Nat.add_zero] at l0 l1 l2 l3 l4
          have hgll := htl.lt
          have hTK : (leftRL ls (curD π who).p t).take (j + 1) = (leftRL ls (curD π who).p t).take j ++ [leftR ls[j] (curD π who).p t] := by
            rw [List.take_succ_eq_append_getElem (by simpa [leftRL] using hjl)]
            simp [leftRL]
          have HTK := Lib.hid hTK
          have hcp := HI.out.cur who
          have hpo := HI.out.pour who (show now ≤ t by omega)
          rw [curR_pure] at hcp hpo
          have hcl10 : (curD π who).p.length ≤ 10000 := by
            unfold curD
            cases e : gget π who with
            | none => simp [past0]
            | some s => exact HPL.out _ _ e
          have hlk : ∀ W', New W W' → (Instr.lookup 106 (.map (some mb)) (.string who) false).run Tryz.prog W' = .ok (.slice (curD π who).A (curD π who).p.length (curD π who).cp) W' := fun W' hW => by
            have h1 := run_lookup (P := Tryz.prog) (K := strKeys) Tryz.underlying106 Tryz.underlying9 (z := .slice none 0 0) (by kernel_rfl) (HM2.out.ref.new hW).map who
            rw [aget_val PastD.val] at h1
            refine h1.trans ?_
            unfold curD
            cases gget π who <;> rfl
          have hla := fun W' (hW : New W W') => ref_leftAt ls[j] (HR.out _ (List.getElem_mem hjl)) (curD π who).p (curD π who).A _ (curD π who).cp t W' ((HM2.out.ref.cur who).sl.new hW) hcp.1.each (hpo _ (List.getElem_mem hjl)) (by omega) ⟨ht0, by omega⟩
          have HLK := Lib.hid hlk
          have HLA := Lib.hid hla
          have c1 := (HM2.out.blk.new'' HNR.out).cell 1
          have hgcl := (HM2.out.blk.new'' HNR.out).lt
          simp at c1
          have hb1 : (0 : Int) ≤ j := by omega
          have hb2 : (j : Int) < ls.length := by omega
          clear hcl hTK hcp hpo hlk hla
          generalize ls[j] = l at *
          generalize curD π who = cur at *
          simp only [Lim.val] at HLA
          go_wp2_with fail
          have bx := Blk.new wr 28 #[.string l.key, .int .i64 l.kind, .int .i64 l.most, .int .i64 l.per, .int .i64 l.burst]
          have mx : New W (wr.alloc (.cells #[.string l.key, .int .i64 l.kind, .int .i64 l.most, .int .i64 l.per, .int .i64 l.burst] 28)) := HNR.out.alloc _
          have own0 : IntOwn (wr.alloc (.cells #[.string l.key, .int .i64 l.kind, .int .i64 l.most, .int .i64 l.per, .int .i64 l.burst] 28)) W.heap.size A j c ((leftRL ls cur.p t).take j) := HO.out.alloc _
          have k1 : (wr.alloc (.cells #[.string l.key, .int .i64 l.kind, .int .i64 l.most, .int .i64 l.per, .int .i64 l.burst] 28)).cell? ⟨gc, 1, none⟩ = some (.map (some mb)) := (((Mod.refl (fun _ => False) wr).alloc _).cell (p := ⟨gc, 1, none⟩) hgcl (fun e => e)).trans c1
          have hgx : gc < (wr.alloc (.cells #[.string l.key, .int .i64 l.kind, .int .i64 l.most, .int .i64 l.per, .int .i64 l.burst] 28)).heap.size := by simp; omega
          generalize wr.alloc (.cells #[.string l.key, .int .i64 l.kind, .int .i64 l.most, .int .i64 l.per, .int .i64 l.burst] 28) = wx at *
          refine wp_region_held_ord (fun w' => w'.cell? ⟨wr.heap.size, 0, none⟩ = some (.string l.key) ∧ w'.cell? ⟨wr.heap.size, 1, none⟩ = some (.int .i64 l.kind) ∧ w'.cell? ⟨wr.heap.size, 2, none⟩ = some (.int .i64 l.most) ∧ w'.cell? ⟨wr.heap.size, 3, none⟩ = some (.int .i64 l.per) ∧ w'.cell? ⟨wr.heap.size, 4, none⟩ = some (.int .i64 l.burst) ∧ w'.cell? ⟨gc, 1, none⟩ = some (.map (some mb)) ∧ (Instr.lookup 106 (.map (some mb)) (.string who) false).run Tryz.prog w' = .ok (.slice cur.A cur.p.length cur.cp) w' ∧ gc < w'.heap.size ∧ wr.heap.size < w'.heap.size) [9, 10] [0, 1, 2, 3, 4, 5, 6, 7, 8, 9, 10] (by kernel_rfl) (by kernel_rfl) (fun _ _ d _ _ h => by cases d <;> exact h) ?_ (fun hHeld => ?_)
          · exact ⟨(bx.cell 0).trans rfl, (bx.cell 1).trans rfl, (bx.cell 2).trans rfl, (bx.cell 3).trans rfl, (bx.cell 4).trans rfl, k1, HLK.out _ (mx.drew), hgx, bx.lt⟩
          simp only [List.length_cons, List.length_nil, List.drop_succ_cons, List.drop_zero]
          refine heldO_take ?_ (by rfl) (by rfl) (by rfl) (fun w hSw => ?_) ?_
          rotate_left
          · (try dsimp only at hSw); go_simp; any_goals (with_reducible rfl)
          simp only [Act.put, List.setIfInBounds_toArray, List.set_cons_zero, List.set_cons_succ]
          refine heldO_take ?_ (by rfl) (by rfl) (by rfl) (fun w hSw => ?_) ?_
          rotate_left
          · (try dsimp only at hSw); go_simp; any_goals (with_reducible rfl)
          simp only [Act.put, List.setIfInBounds_toArray, List.set_cons_zero, List.set_cons_succ]
          refine heldO_take ?_ (by rfl) (by rfl) (by rfl) (fun w hSw => ?_) ?_
          rotate_left
          · (try dsimp only at hSw); go_simp; any_goals (with_reducible rfl)
          simp only [Act.put, List.setIfInBounds_toArray, List.set_cons_zero, List.set_cons_succ]
          refine heldO_take ?_ (by rfl) (by rfl) (by rfl) (fun w hSw => ?_) ?_
          rotate_left
          · (try dsimp only at hSw); go_simp; any_goals (with_reducible rfl)
          simp only [Act.put, List.setIfInBounds_toArray, List.set_cons_zero, List.set_cons_succ]
          refine heldO_take ?_ (by rfl) (by rfl) (by rfl) (fun w hSw => ?_) ?_
          rotate_left
          · (try dsimp only at hSw); go_simp; any_goals (with_reducible rfl)
          simp only [Act.put, List.setIfInBounds_toArray, List.set_cons_zero, List.set_cons_succ]
          refine heldO_take ?_ (by rfl) (by rfl) (by rfl) (fun w hSw => ?_) ?_
          rotate_left
          · (try dsimp only at hSw); go_simp; any_goals (with_reducible rfl)
          simp only [Act.put, List.setIfInBounds_toArray, List.set_cons_zero, List.set_cons_succ]
          refine heldO_take ?_ (by rfl) (by rfl) (by rfl) (fun w hSw => ?_) ?_
          rotate_left
          · (try dsimp only at hSw); go_simp; any_goals (with_reducible rfl)
          simp only [Act.put, List.setIfInBounds_toArray, List.set_cons_zero, List.set_cons_succ]
          refine heldO_take ?_ (by rfl) (by rfl) (by rfl) (fun w hSw => ?_) ?_
          rotate_left
          · (try dsimp only at hSw); go_simp; any_goals (with_reducible rfl)
          simp only [Act.put, List.setIfInBounds_toArray, List.set_cons_zero, List.set_cons_succ]
          refine heldO_take ?_ (by rfl) (by rfl) (by rfl) (fun w hSw => ?_) ?_
          rotate_left
          · (try dsimp only at hSw); go_simp; any_goals (with_reducible rfl)
          simp only [Act.put, List.setIfInBounds_toArray, List.set_cons_zero, List.set_cons_succ]
          have hcall := HLA.out (wx.drewN 1) (mx.drewN 1)
          refine heldO_step (by rfl) (by rfl) (by rfl) (fun K hK => ?_)
          go_simp
          refine hcall.mono ?_
          clear hcall
          rintro e w5 ⟨rfl, hm5⟩
          have m15 : New wx w5 := ((Mod.refl _ wx).drewN 1).trans hm5
          have b5 := bx.new'' m15
          have k15 := (m15.cell (p := ⟨gc, 1, none⟩) hgx (fun e => e)).trans k1
          have hg5 : gc < w5.heap.size := by have := m15.size; omega
          go_wp2_with fail
          refine hK.out _ _ ⟨(b5.cell 0).trans rfl, (b5.cell 1).trans rfl, (b5.cell 2).trans rfl, (b5.cell 3).trans rfl, (b5.cell 4).trans rfl, k15, HLK.out _ (mx.trans m15), hg5, b5.lt⟩ (fun hHeld => ?_)
          clear hK K
          try simp only [Act.put, List.setIfInBounds_toArray, List.set_cons_zero, List.set_cons_succ]
          generalize leftR l cur.p t = X at *
          have own5 : IntOwn w5 W.heap.size A j c ((leftRL ls cur.p t).take j) := own0.new m15
          have ownA : IntOwn (w5.alloc (.cells #[.int .i64 X] 3)) W.heap.size A j c ((leftRL ls cur.p t).take j) := own5.alloc _
          have blkA : Blk (w5.alloc (.cells #[.int .i64 X] 3)) w5.heap.size 3 (encL 1 intEnc X).toArray := Blk.new _ _ _
          have mA : New wx (w5.alloc (.cells #[.int .i64 X] 3)) := m15.alloc _
          have b6 := bx.new'' mA
          have k16 := (mA.cell (p := ⟨gc, 1, none⟩) hgx (fun e => e)).trans k1
          have hg6 : gc < (w5.alloc (.cells #[.int .i64 X] 3)).heap.size := by simp; omega
          have hBB : W.heap.size ≤ (w5.alloc (.cells #[.int .i64 X] 3)).heap.size := by have := (mx.trans mA).size; omega
          have HBB := Lib.hid hBB
          clear hBB
          refine heldO_step (by rfl) (by rfl) (by rfl) (fun K hK => ?_)
          go_simp
          refine hK.out _ _ ⟨(b6.cell 0).trans rfl, (b6.cell 1).trans rfl, (b6.cell 2).trans rfl, (b6.cell 3).trans rfl, (b6.cell 4).trans rfl, k16, HLK.out _ (mx.trans mA), hg6, b6.lt⟩ (fun hHeld => ?_)
          clear hK K
          try simp only [Act.put, List.setIfInBounds_toArray, List.set_cons_zero, List.set_cons_succ]
          refine heldO_nil ?_
          go_wp2_with (at_builtin; refine wpList_push rfl _ _ _ rfl 8 Tryz.underlying22 einfo_int rfl ownA X w5.heap.size rfl blkA (fun _ _ => rfl) (by omega) (by omega) HBB.out ?_; intro g9 cap9 w9 own9 hm9 hat9 hlt9)
          have hmw : New W w9 := Own.push_mod (a := W) ownA (mx.trans mA) hm9 (Nat.le_refl _)
          exact ⟨⟨j + 1, cap9, some ⟨g9, 0, none⟩, by omega, by go_num, rfl, Lib.hid (by rw [HTK.out]; exact own9), Lib.hid hmw⟩, by simp [intOf]; omega⟩
        · obtain rfl : j = ls.length := by omega
          have hll : (leftRL ls (curD π who).p t).length = ls.length := by simp [leftRL]
          have hO2 := HO.out
          rw [List.take_of_length_le (by omega)] at hO2
          have HO2 := Lib.hid hO2
          clear hll hO2
          go_wp2_with fail
          go_ret2
          refine .inr ⟨H0.out, A, _, c, rfl, ?_, HM2.out.new HNR.out, ((HA1.out.mono (fun _ _ e => e.elim)).trans HON.out).trans (HNR.out.mono (fun _ _ e => e.elim))⟩
          rw [curR_pure]
          exact HO2.out.sl
  · have hF' : (F != 0) = true := by simpa using hF
    have hlF : leftF now t who = F := by rw [HLF.out, if_pos hF]
    have HL := Lib.hid hlF
    have HNE := Lib.hid hF
    clear hlF hF
    go_wp2_with fail
    go_ret2
    exact .inl ⟨by rw [HL.out]; exact HNE.out, by rw [HL.out]; rfl, HA1.out⟩

end Go.Proofs.YtinnckbffblecaaGreat
