/- Meter.Ask of an ask that was checked and comes in time. Conditions: limits were checked, few subjects, modest numbers. -/
import Derived.Test.YtinnckbffblecaaGreatMeter2
namespace Go.Proofs.YtinnckbffblecaaGreat
open Go.RowKit
set_option linter.unusedVariables false
set_option linter.unusedSimpArgs false

def RAskOk (w : World) (B gm mb : Nat) (Al : Option Addr) (cl : Nat) (ls : List Lim) (σ : List (ByteArray × SubD)) (k : Nat) (a : AskD) (e : Ending) (w' : World) : Prop :=
  e = .returned (.tuple #[(verdC ls (curC ls (pureS σ) a.who) a vd0).val, .int .i64 0]) ∧ ∃ σ', MeterAt w' B gm mb Al cl ls a.at_ σ' ∧ pureS σ' = putC ls (pureS σ) a ∧
    (∀ who s, gget σ' who = some s → CtrsOk ls a.at_ (k + 1) s.ds) ∧ σ'.length ≤ σ.length + 1 ∧ Mod (fun x => x = gm ∨ x = mb ∨ SF σ x) w w' ∧ ∀ x, SF σ' x → SF σ x ∨ w.heap.size ≤ x

theorem curC_pure (ls : List Lim) (σ : List (ByteArray × SubD)) (who : ByteArray) : curC ls (pureS σ) who = ((gget σ who).map (fun s => s.ds.map CtrD.c)).getD (ls.map newC) := by
  unfold curC pureS; rw [gget_gmap]
theorem ctrsOk_later {ls : List Lim} {τ τ' : Int} {k k' : Nat} {ds : List CtrD} (h : CtrsOk ls τ k ds) (ht : τ ≤ τ') (hk : k ≤ k') : CtrsOk ls τ' k' ds := fun i h1 h2 => ctrOk_later (h i h1 h2) ht hk
theorem ctrsOk_new {ls : List Lim} (hR : ∀ l ∈ ls, RLim' l) {ds : List CtrD} (h : ds.map CtrD.c = ls.map newC) : CtrsOk ls 0 0 ds := fun i h1 h2 => by
  have : (ds.map CtrD.c)[i]'(by simpa using h2) = (ls.map newC)[i]'(by simpa using h1) := by simp only [h]
  simp only [List.getElem_map] at this
  rw [this]
  exact ctrOk_new (hR _ (List.getElem_mem h1))
theorem ctrsOk_add {ls : List Lim} (hR : ∀ l ∈ ls, RLim' l) {τ : Int} {k : Nat} {ds ds' : List CtrD} (h : CtrsOk ls τ k ds) {a : AskD} (ha : RAskD a) (ht : τ ≤ a.at_) (hlen : ds.length = ls.length) (hc : ds'.map CtrD.c = addL ls (ds.map CtrD.c) a)
    (hm : ∀ i (h1 : i < ls.length) (h2 : i < (ds.map CtrD.c).length), a.cost ≤ mostC ls[i] (ds.map CtrD.c)[i] a.at_) : CtrsOk ls a.at_ (k + 1) ds' := fun i h1 h2 => by
  have hl2 : i < ds.length := by omega
  have : (ds'.map CtrD.c)[i]'(by simpa using h2) = (addL ls (ds.map CtrD.c) a)[i]'(by rw [addL_length (by simp [hlen])]; exact h1) := by simp only [hc]
  simp only [List.getElem_map, addL, List.getElem_zipWith] at this
  rw [this]
  have hmi := hm i h1 (by simpa using hl2)
  simp only [List.getElem_map] at hmi
  exact ctrOk_add (hR _ (List.getElem_mem h1)) (h i h1 hl2) ha ht hmi

section
variable {w w' : World} {B gm mb : Nat} {Al : Option Addr} {cl : Nat} {ls : List Lim} {now : Int} {σ : List (ByteArray × SubD)}
/-- a block of a type that the meter has none of -/
theorem MeterAt.far (h : MeterAt w B gm mb Al cl ls now σ) {g : Nat} {T : TypeId} (hg : TB w g T) (h0 : T ≠ 113) (h7 : T ≠ 28) (h1 : T ≠ 157) (h2 : T ≠ 165) (h3 : T ≠ 162) (h4 : T ≠ 167) (h5 : T ≠ 211) (h6 : T ≠ 118) :
    gm ≠ g ∧ mb ≠ g ∧ (∀ x, blkOf Al = some x → x ≠ g) ∧ ∀ x, SF σ x → x ≠ g := by
  refine ⟨h.blk.tb.ne hg h0.symm, fun e => h.map.ne_blk hg e.symm, fun x hx => ?_, fun x hx => ?_⟩
  · rcases h.lims.blk with ⟨e, _⟩ | ⟨g', e, _, ht⟩
    · rw [e] at hx; cases hx
    · rw [e] at hx; injection hx with hx; simp only at hx; subst hx; exact ht.ne hg h7.symm
  · obtain ⟨_, t, ht, htb⟩ := SF.tb h hx
    exact htb.ne hg (ctrT_ne ht h1 h2 h3 h4 h5 h6)
theorem MeterAt.only (h : MeterAt w B gm mb Al cl ls now σ) {g : Nat} (hf : gm ≠ g ∧ mb ≠ g ∧ (∀ x, blkOf Al = some x → x ≠ g) ∧ ∀ x, SF σ x → x ≠ g) (hm : Only g w w') : MeterAt w' B gm mb Al cl ls now σ :=
  h.mod hm hf.1 hf.2.1 hf.2.2.1 hf.2.2.2
theorem MeterAt.apartGm (h : MeterAt w B gm mb Al cl ls now σ) : mb ≠ gm ∧ (∀ x, blkOf Al = some x → x ≠ gm) ∧ ∀ x, SF σ x → x ≠ gm := by
  refine ⟨fun e => h.map.ne_blk h.blk.tb e.symm, fun x hx => ?_, fun x hx => ?_⟩
  · rcases h.lims.blk with ⟨e, _⟩ | ⟨g', e, _, ht⟩
    · rw [e] at hx; cases hx
    · rw [e] at hx; injection hx with hx; simp only at hx; subst hx; exact ht.ne h.blk.tb (by decide)
  · obtain ⟨_, t, ht, htb⟩ := SF.tb h hx
    exact htb.ne h.blk.tb (ctrT_ne ht (by decide) (by decide) (by decide) (by decide) (by decide) (by decide))
theorem MeterAt.setNow (h : MeterAt w B gm mb Al cl ls now σ) (t : Int) : MeterAt (w.setCell ⟨gm, 1, none⟩ (.int .i64 t)) B gm mb Al cl ls t σ := by
  have hm : Only gm w (w.setCell ⟨gm, 1, none⟩ (.int .i64 t)) := Mod.setCell (S := fun k => k = gm) (p := ⟨gm, 1, none⟩) (Mod.refl _ _) (.inl rfl) _
  obtain ⟨h1, h2, h3⟩ := h.apartGm
  exact ⟨h.b0, by simpa using h.blk.set 1 (.int .i64 t), h.lims.mod hm h2, h.map.mod hm h1, fun who s hg => (h.subs who s hg).mod hm (fun x hx => h3 x ⟨who, s, hg, hx⟩), h.apart⟩
theorem Blk.copy3 {W : World} {g : Nat} {T : TypeId} {x y z : Value} (hb : Blk W g T #[x, y, z]) (u v t : Value) : Blk (((W.setCell ⟨g, 0, none⟩ u).setCell ⟨g, 1, none⟩ v).setCell ⟨g, 2, none⟩ t) g T #[u, v, t] := by
  simpa using ((hb.set 0 u).set 1 v).set 2 t
theorem Only.cell3 (w : World) (g : Nat) (u v x : Value) : Only g w (((w.setCell ⟨g, 0, none⟩ u).setCell ⟨g, 1, none⟩ v).setCell ⟨g, 2, none⟩ x) :=
  Mod.setCell (S := fun k => k = g) (p := ⟨g, 2, none⟩) (Mod.setCell (S := fun k => k = g) (p := ⟨g, 1, none⟩) (Mod.setCell (S := fun k => k = g) (p := ⟨g, 0, none⟩) (Mod.refl _ _) (.inl rfl) _) (.inl rfl) _) (.inl rfl) _
end

/-- a subject is stored -/
theorem MeterAt.put {w w' : World} {B gm mb : Nat} {Al : Option Addr} {cl : Nat} {ls : List Lim} {now : Int} {σ : List (ByteArray × SubD)} (h : MeterAt w B gm mb Al cl ls now σ) {who : ByteArray} {s : SubD} (hs : SubAt w B ls s)
    (hap : ∀ b s', b ≠ who → gget σ b = some s' → ∀ x, s.F x → ¬ s'.F x) (hmap : MapOf strKeys w' mb ((gput σ who s).map fun p => (p.1, p.2.val ls.length))) (ho : Only mb w w') : MeterAt w' B gm mb Al cl ls now (gput σ who s) := by
  have hmo : ∀ x t, TB w x t → x ≠ mb := fun x t ht => h.map.ne_blk ht
  have hsub : ∀ s' : SubD, SubAt w B ls s' → SubAt w' B ls s' := fun s' h' => h'.mod ho (fun x hx => by obtain ⟨_, t, _, ht⟩ := h'.tb x hx; exact hmo x t ht)
  refine ⟨h.b0, h.blk.mod ho (hmo _ _ h.blk.tb), h.lims.mod ho (fun x hx => ?_), hmap, fun b s' hg => ?_, fun a b s1 s2 hab h1 h2 => ?_⟩
  · rcases h.lims.blk with ⟨e, _⟩ | ⟨g', e, _, ht⟩
    · rw [e] at hx; cases hx
    · rw [e] at hx; injection hx with hx; simp only at hx; subst hx; exact hmo _ _ ht
  · rw [gget_gput] at hg
    split at hg
    · injection hg with hg; subst hg; exact hsub _ hs
    · exact hsub _ (h.subs b s' hg)
  · rw [gget_gput] at h1 h2
    split at h1
    · rename_i ea
      injection h1 with h1
      subst h1
      split at h2
      · rename_i eb; exact absurd (ea.trans eb.symm) hab
      · rename_i eb; exact hap b s2 eb h2
    · rename_i ea
      split at h2
      · injection h2 with h2
        subst h2
        exact fun x hx hx' => hap a s1 ea h1 x hx' hx
      · exact h.apart a b s1 s2 hab h1 h2
/-- what was let in is added to its counters -/
theorem MeterAt.added {w0 w : World} {B gm mb : Nat} {Al : Option Addr} {cl : Nat} {ls : List Lim} {now : Int} {σ : List (ByteArray × SubD)} {who : ByteArray} {s : SubD} {a : AskD} {ds : List CtrD} (h : MeterAt w0 B gm mb Al cl ls now (gput σ who s)) {j : Nat} (hA : Adding w0 w B ls s a j ds) :
    MeterAt w B gm mb Al cl ls now (gput σ who ⟨s.A, s.cp, ds⟩) := by
  have hself : gget (gput σ who s) who = some s := by rw [gget_gput, if_pos rfl]
  have hsf : ∀ x, s.F x → SF (gput σ who s) x := fun x hx => ⟨who, s, hself, hx⟩
  obtain ⟨k1, k2, k3⟩ := h.apartGm
  have hmo : ∀ x, s.F x → x ≠ mb := fun x hx => by obtain ⟨_, t, _, ht⟩ := SF.tb h (hsf x hx); exact h.map.ne_blk ht
  have hoth : ∀ b s', b ≠ who → gget σ b = some s' → ∀ x, s'.F x → ¬ s.F x := fun b s' hb hg x h1 h2 => h.apart b who s' s hb (by rw [gget_gput, if_neg hb]; exact hg) hself x h1 h2
  have hfar : ∀ x, (⟨s.A, s.cp, ds⟩ : SubD).F x → s.F x ∨ w0.heap.size ≤ x := fun x hx => by
    rcases hx with hx | ⟨d, hd, hx⟩
    · exact .inl (.inl hx)
    · exact hA.far d hd x hx
  refine ⟨h.b0, h.blk.mod hA.mod (fun e => k3 _ (hsf _ e) rfl), h.lims.mod hA.mod (fun x hx e => ?_), ?_, fun b s' hg => ?_, fun a' b s1 s2 hab h1 h2 => ?_⟩
  · obtain ⟨_, t, ht, htb⟩ := SF.tb h (hsf x e)
    rcases h.lims.blk with ⟨e, _⟩ | ⟨g', e, _, ht'⟩
    · rw [e] at hx; cases hx
    · rw [e] at hx; injection hx with hx; simp only at hx; subst hx
      exact htb.ne ht' (ctrT_ne ht (by decide) (by decide) (by decide) (by decide) (by decide) (by decide)) rfl
  · have e : (gput σ who ⟨s.A, s.cp, ds⟩).map (fun p => (p.1, p.2.val ls.length)) = (gput σ who s).map (fun p => (p.1, p.2.val ls.length)) := by
      rw [← aput_val (SubD.val ls.length), ← aput_val (SubD.val ls.length)]; rfl
    rw [e]
    exact h.map.mod hA.mod (fun e => hmo _ e rfl)
  · rw [gget_gput] at hg
    split at hg
    · injection hg with hg; subst hg
      refine ⟨?_, hA.ctrs⟩
      have := hA.own
      rw [← hA.vals] at this
      exact this
    · rename_i eb
      exact (h.subs b s' (by rw [gget_gput, if_neg eb]; exact hg)).mod hA.mod (fun x hx => hoth b s' eb hg x hx)
  · have hlt : ∀ b s', b ≠ who → gget σ b = some s' → ∀ x, s'.F x → x < w0.heap.size := fun b s' hb hg => (h.subs b s' (by rw [gget_gput, if_neg hb]; exact hg)).lt
    rw [gget_gput] at h1 h2
    split at h1
    · rename_i ea
      injection h1 with h1
      subst h1
      split at h2
      · rename_i eb; exact absurd (ea.trans eb.symm) hab
      · rename_i eb
        intro x hx hx'
        rcases hfar x hx with h3 | h3
        · exact hoth b s2 eb h2 x hx' h3
        · have := hlt b s2 eb h2 x hx'; omega
    · rename_i ea
      split at h2
      · injection h2 with h2
        subst h2
        intro x hx hx'
        rcases hfar x hx' with h3 | h3
        · exact hoth a' s1 ea h1 x hx h3
        · have := hlt a' s1 ea h1 x hx; omega
      · exact h.apart a' b s1 s2 hab (by rw [gget_gput, if_neg ea]; exact h1) (by rename_i eb; rw [gget_gput, if_neg eb]; exact h2)

theorem Adding.cur {w0 w : World} {B : Nat} {ls : List Lim} {s : SubD} {a : AskD} {j : Nat} {ds : List CtrD} (h : Adding w0 w B ls s a j ds) (hj : j < ls.length) (hjd : j < ds.length) (hjs : j < s.ds.length) : ds[j].c = s.ds[j].c ∧ ds[j].val = s.ds[j].val := by
  have hlen := h.ctrs.len
  have hlv : s.ds.length = ls.length := by have := congrArg List.length h.vals; simp at this; omega
  have hla : (addL ls (s.ds.map CtrD.c) a).length = ls.length := addL_length (by rw [List.length_map]; exact hlv) a
  have hlt : ((addL ls (s.ds.map CtrD.c) a).take j).length = j := by rw [List.length_take, hla, Nat.min_eq_left (by omega)]
  constructor
  · have h1 : (ds.map CtrD.c)[j]? = ((addL ls (s.ds.map CtrD.c) a).take j ++ (s.ds.map CtrD.c).drop j)[j]? := by rw [h.cs]
    rw [List.getElem?_append_right (by rw [hlt]; omega), hlt, Nat.sub_self, List.getElem?_drop, Nat.add_zero, List.getElem?_map, List.getElem?_map, List.getElem?_eq_getElem hjs, List.getElem?_eq_getElem hjd] at h1
    injection h1 with h1
  · have h1 : (ds.map CtrD.val)[j]? = (s.ds.map CtrD.val)[j]? := by rw [h.vals]
    rw [List.getElem?_map, List.getElem?_map, List.getElem?_eq_getElem hjs, List.getElem?_eq_getElem hjd] at h1
    injection h1 with h1

set_option maxRecDepth 100000 in
set_option maxHeartbeats 2000000 in
theorem meter_ask (gm mb B : Nat) (Al : Option Addr) (cl : Nat) (ls : List Lim) (now : Int) (σ : List (ByteArray × SubD)) (k : Nat) (a : AskD) (w : World)
    (hM : MeterAt w B gm mb Al cl ls now σ) (hR : ∀ l ∈ ls, RLim' l) (hok : ∀ who s, gget σ who = some s → CtrsOk ls now k s.ds) (hk : k ≤ 1000) (hnow : 0 ≤ now) (ha : askFault a = 0) (hat : now ≤ a.at_) (hws : a.who.size ≤ maxLen) (hσ : σ.length < 2000) (hn : ls.length ≤ 1000) (hB : B ≤ w.heap.size) :
    Calls Tryz.prog 39 #[.pointer (some ⟨gm, 0, none⟩), a.val] w (RAskOk w B gm mb Al cl ls σ k a) := by
  have hra := askFault_right ha
  have hfa := limit_askFault a
  rw [ha] at hfa
  have hgml := hM.blk.lt
  have hmbl := hM.map.lt
  obtain ⟨at_, who, cost, long⟩ := a
  simp only [AskD.val] at *
  have HM := Lib.hid hM
  have HR := Lib.hid hR
  have HOK := Lib.hid hok
  have HRA := Lib.hid hra
  clear hM hR hok hra ha
  go_enter Tryz.func39, Tryz.ntmps39
  go_wp2_with fail
  refine (hfa _ hws).mono ?_
  clear hfa
  rintro e w1 ⟨rfl, hm⟩
  obtain ⟨hm1, hz1, n1⟩ := hm.pre
  have b1 : Blk w1 (w.heap.size + 1) 57 #[.bool false, .string ⟨#[]⟩, .int .i64 0] := by
    have := n1 (fun h => h)
    rw [show (w.alloc (Obj.cells #[.int .i64 at_, .string who, .int .i64 cost, .int .i64 long] 70)).heap.size = w.heap.size + 1 by simp] at this
    exact this
  obtain ⟨hm2, hz2, n2⟩ := hm1.pre
  have b0 : Blk w1 w.heap.size 70 _ := n2 (fun h => h)
  clear hm hm1 n1 n2
  have hM1 := HM.out.new hm2
  have e0 := b0.cell 0
  have e1 := b0.cell 1
  have e2 := b0.cell 2
  have e3 := b0.cell 3
  simp at e0 e1 e2 e3
  go_wp2_with fail
  refine (meter_timeFault gm _ _ now at_ _ hM1.blk hat).mono ?_
  rintro e w2 ⟨rfl, rfl⟩
  have hcs := meter_counters gm mb B Al ls.length cl (.int .i64 now) ls σ who w1 hM1.blk hM1.lims.sl hM1.map HR.out hn (by have := hm2.size; omega)
  have HM1 := Lib.hid hM1
  clear hM1
  go_wp2_with fail
  refine hcs.mono ?_
  clear hcs
  rintro e w2 ⟨s, rfl, hm3, hs⟩
  clear e0 e1 e2 e3
  have b0 := b0.mod hm3 (fun h => h)
  have b1 := b1.mod hm3 (fun h => h)
  have hM2 := HM1.out.new hm3
  have hm4 := hm2.trans hm3
  have hsat : SubAt w2 B ls s ∧ CtrsOk ls now k s.ds ∧ curC ls (pureS σ) who = s.ds.map CtrD.c ∧ (∀ x, s.F x → SF σ x ∨ w1.heap.size ≤ x) := by
    rw [curC_pure]
    rcases hs with hs | ⟨h1, h2, h3, h4⟩
    · exact ⟨hM2.subs who s hs, HOK.out who s hs, by rw [hs]; rfl, fun x hx => .inl ⟨who, s, hs, hx⟩⟩
    · exact ⟨h2, ctrsOk_later (ctrsOk_new HR.out h3) hnow (by omega), by rw [h1]; exact h3.symm, fun x hx => .inr (h4 x hx)⟩
  obtain ⟨hsub, hcok, hcur, hsf⟩ := hsat
  have hvd := fun W (hW : New w2 W) => meter_verdict gm B Al s.A ls.length cl s.cp (.int .i64 now) (.map (some mb)) ls s.ds now k ⟨at_, who, cost, long⟩ W (hM2.blk.mod hW (fun e => e)) (hM2.lims.sl.new hW) (hsub.own.sl.new hW) (hsub.ctrs.new hW) hcok (by omega) HR.out HRA.out hat hn
  have hsize2 := hm3.size
  have e0 := b0.cell 0
  have e1 := b0.cell 1
  have e2 := b0.cell 2
  have e3 := b0.cell 3
  simp at e0 e1 e2 e3
  have HM2 := Lib.hid hM2
  have HS := Lib.hid hs
  have HSUB := Lib.hid hsub
  have HCOK := Lib.hid hcok
  have HCUR := Lib.hid hcur
  have HSF := Lib.hid hsf
  have hvd := hvd w2 (Mod.refl _ _)
  simp only [AskD.val] at hvd
  simp only [SubD.val]
  clear hs hsub hcok hcur hsf hM2
  go_wp2_with fail
  refine hvd.mono ?_
  clear hvd
  rintro e w3 ⟨rfl, hm5⟩
  clear e0 e1 e2 e3
  have b0 := b0.mod hm5 (fun h => h)
  have b1 := b1.mod hm5 (fun h => h)
  have hm6 := hm4.trans hm5
  have hz5 := hm5.size
  have hsz3 : w.heap.size + 1 < w3.heap.size := by have := b1.lt; omega
  have hsz0 : w.heap.size < w3.heap.size := by omega
  have hM3 := HM2.out.new hm5
  have hs3 := HSUB.out.new hm5
  have e0 := b0.cell 0
  have e1 := b0.cell 1
  have e2 := b0.cell 2
  have e3 := b0.cell 3
  have g1 := hM3.blk.cell 1
  have g2 := hM3.blk.cell 2
  have fg := hM3.blk.frozen 1
  have r0 := b1.cell 0
  have r1 := b1.cell 1
  have r2 := b1.cell 2
  have fr := b1.frozen
  have hgml3 := hM3.blk.lt
  simp at e0 e1 e2 e3 g1 g2 r0 r1 r2
  have n5 : w.heap.size + 1 ≠ gm := by omega
  have n6 : w3.heap.size ≠ gm := by omega
  have n7 : w.heap.size + 1 ≠ w3.heap.size := by omega
  have HM3 := Lib.hid hM3
  have HS3 := Lib.hid hs3
  have HM6 := Lib.hid hm6
  have HVV : Hid (verdC ls (curC ls (pureS σ) who) ⟨at_, who, cost, long⟩ vd0 = verdC ls (s.ds.map CtrD.c) ⟨at_, who, cost, long⟩ vd0) := Lib.hid (by rw [HCUR.out])
  have hvok := fun h => (verdC_ok (ls := ls) (cs := s.ds.map CtrD.c) (a := ⟨at_, who, cost, long⟩) (v := vd0) h).2
  have HVOK := Lib.hid hvok
  clear hM3 hs3 hm6 hm2 hm3 hm4 hm5 hvok
  simp only at *
  generalize hv : verdC ls (s.ds.map CtrD.c) ⟨at_, who, cost, long⟩ vd0 = v at *
  have HV := Lib.hid hv
  clear hv
  obtain ⟨ok, by_, wt⟩ := v
  simp only [Vd.val]
  have HP1 : Hid (putC ls (pureS σ) ⟨at_, who, cost, long⟩ = if ok = true then gput (pureS σ) who (addL ls (s.ds.map CtrD.c) ⟨at_, who, cost, long⟩) else pureS σ) := Lib.hid (by
    unfold putC
    rw [HCUR.out]
    simp only [HV.out])
  cases ok with
  | false =>
    have HPF : Hid (putC ls (pureS σ) ⟨at_, who, cost, long⟩ = pureS σ) := Lib.hid (by rw [HP1.out]; simp)
    have hnr := HM3.out.far b1.tb (by decide) (by decide) (by decide) (by decide) (by decide) (by decide) (by decide) (by decide)
    have HNR := Lib.hid hnr
    have HB1 := Lib.hid b1
    clear hnr
    go_wp2_with fail
    have bq := (Blk.copy3 (HB1.out.mod (Mod.setCell (S := fun k => k = gm) (p := ⟨gm, 1, none⟩) (Mod.refl _ _) (.inl rfl) (.int .i64 at_)) n5) (.bool false) (.string by_) (.int .i64 wt)).new'' ((Mod.refl _ _).alloc (.cells #[.bool false, .string by_, .int .i64 wt] 57))
    have q0 := bq.cell 0
    have q1 := bq.cell 1
    have q2 := bq.cell 2
    simp at q0 q1 q2
    clear r0 r1 r2 fr g1 g2 fg e0 e1 e2 e3
    refine bodyPost_ret (v := .tuple #[Vd.val ⟨false, by_, wt⟩, .int .i64 0]) (by simp [results, Tryz.results39, go_sem, q0, q1, q2, Vd.val]) rfl ?_
    have hM4 := HM3.out.setNow at_
    have hM5 := hM4.only HNR.out (Only.cell3 (w3.setCell ⟨gm, 1, none⟩ (.int .i64 at_)) (w.heap.size + 1) (.bool false) (.string by_) (.int .i64 wt))
    refine ⟨by rw [HVV.out], σ, hM5.new ((Mod.refl _ _).alloc _), HPF.out.symm, fun who' s' hs' => ctrsOk_later (HOK.out who' s' hs') hat (by omega), by omega, ?_, fun x hx => .inl hx⟩
    refine Mod.alloc (Mod.setCell (Mod.setCell (Mod.setCell (Mod.setCell (HM6.out.mono (fun _ _ e => e.elim)) (.inl (.inl rfl)) _) (.inr ?_) _) (.inr ?_) _) (.inr ?_) _) _ <;> simp
  | true =>
    have HPT : Hid (putC ls (pureS σ) ⟨at_, who, cost, long⟩ = gput (pureS σ) who (addL ls (s.ds.map CtrD.c) ⟨at_, who, cost, long⟩)) := Lib.hid (by rw [HP1.out]; simp)
    have hN : New w3 (w3.alloc (.cells #[.bool true, .string by_, .int .i64 wt] 57)) := (by with_reducible (repeat (first | exact Mod.refl _ _ | refine Mod.drewN ?_ _ | refine Mod.drew ?_ | refine Mod.alloc ?_ _)))
    have hlen := fun ty => run_len_map (P := Tryz.prog) 111 ty Tryz.underlying111 (HM3.out.map.mod hN (fun h => h))
    simp only [List.length_map] at hlen
    have hl2 : ¬ (2000 : Int) ≤ (σ.length : Int) := by omega
    have hl3 : decide ((2000 : Int) ≤ (σ.length : Int)) = false := by simpa using hl2
    obtain ⟨w4, hrun, hmap4, ho4, hs4⟩ := run_mapUpdate (P := Tryz.prog) (K := strKeys) (w := (w3.alloc (.cells #[.bool true, .string by_, .int .i64 wt] 57)).drew) Tryz.underlying111 Tryz.underlying9 (HM3.out.map.mod hN.drew (fun h => h)) who (.slice s.A ls.length s.cp)
    have hrun' : (Instr.mapUpdate 111 (.map (some mb)) (.string who) (.slice s.A ls.length s.cp)).run Tryz.prog (w3.alloc (.cells #[.bool true, .string by_, .int .i64 wt] 57)).drew = .ok () w4 := hrun
    have hmap5 : MapOf strKeys w4 mb ((gput σ who s).map fun p => (p.1, p.2.val ls.length)) := by rw [← aput_val (SubD.val ls.length)]; exact hmap4
    have hM3' := HM3.out.new hN.drew
    have hap : ∀ b s', b ≠ who → gget σ b = some s' → ∀ x, s.F x → ¬ s'.F x := fun b s' hb hg x hx hx' => by
      rcases HS.out with h1 | ⟨_, _, _, h4⟩
      · exact HM3.out.apart who b s s' (fun e => hb e.symm) h1 hg x hx hx'
      · have h5 := h4 x hx
        have h6 := (HM1.out.subs b s' hg).lt x hx'
        omega
    have hM4 := hM3'.put (HS3.out.new hN.drew) hap hmap5 ho4
    have hs4' := hM4.subs who s (by rw [gget_gput, if_pos rfl])
    have hmo := fun g t (h : TB w3 g t) => HM3.out.map.ne_blk h
    have b04 := (b0.mod hN.drew (fun h => h)).mod ho4 (hmo _ _ b0.tb)
    have b14 := (b1.mod hN.drew (fun h => h)).mod ho4 (hmo _ _ b1.tb)
    have b3 : Blk (w3.alloc (.cells #[.bool true, .string by_, .int .i64 wt] 57)).drew w3.heap.size 57 #[.bool true, .string by_, .int .i64 wt] := Blk.new w3 _ _
    have b34 := b3.mod ho4 (fun e => hM3'.map.ne_blk b3.tb e)
    have hm7 : Mod (fun x => x = gm ∨ x = mb ∨ SF σ x) w w4 := ((HM6.out.mono (fun _ _ h => h.elim)).trans (hN.drew.mono (fun _ _ h => h.elim))).trans (ho4.mono (fun _ _ e => .inr (.inl e)))
    have hsF : ∀ x, s.F x → SF σ x ∨ w.heap.size ≤ x := fun x hx => by
      rcases HSF.out x hx with h1 | h1
      · exact .inl h1
      · right; omega
    have hz4 : w3.heap.size < w4.heap.size := b34.lt
    have HM4 := Lib.hid hM4
    have HS4 := Lib.hid hs4'
    have HB4 := Lib.hid b04
    have HB14 := Lib.hid b14
    have HB34 := Lib.hid b34
    have HM7 := Lib.hid hm7
    have HSX := Lib.hid hsF
    clear hM4 hs4' b04 b14 b34 b3 hm7 hsF hmo hap hM3' hmap5 hmap4 ho4 hrun hs4 hN
    generalize (gget σ who).isSome = kn at *
    cases kn
    all_goals
      go_wp2_with fail
      go_region
      clear hrun' hlen hl2 hl3 e0 e1 e2 e3 g1 g2 fg r0 r1 r2 fr
      have hlsl : s.ds.length = ls.length := HS4.out.ctrs.len
      have HLS := Lib.hid hlsl
      clear hlsl
      go_wp2_with fail
      go_loopw [12, 60] (fun _ i wr => ∃ (j : Nat) (ds : List CtrD), j ≤ ls.length ∧ i = .int .i64 j ∧ Hid (Adding w4 wr B ls s ⟨at_, who, cost, long⟩ j ds)) (fun _ i _ => ls.length - (intOf i).toNat)
      case atStart => exact ⟨0, s.ds, Nat.zero_le _, rfl, Lib.hid (Adding.start HS4.out _)⟩
      case round =>
        rename World => wr
        obtain ⟨j, ds, hj, rfl, HA⟩ := hrel
        have hne : ∀ g T, TB w4 g T → T ≠ 157 → T ≠ 165 → T ≠ 162 → T ≠ 167 → T ≠ 211 → T ≠ 118 → ¬ s.F g := fun g T hg h1 h2 h3 h4 h5 h6 hx => by
          obtain ⟨_, t, ht, htb⟩ := HS4.out.tb g hx
          exact htb.ne hg (ctrT_ne ht h1 h2 h3 h4 h5 h6) rfl
        have b05 := HB4.out.mod HA.out.mod (hne _ _ HB4.out.tb (by decide) (by decide) (by decide) (by decide) (by decide) (by decide))
        have HNE := Lib.hid hne
        clear hne
        have e0 := b05.cell 0
        have e2 := b05.cell 2
        have e3 := b05.cell 3
        have hbxl := b05.lt
        simp at e0 e2 e3
        clear b05
        by_cases hlt : j < ls.length
        · have hjd : j < ds.length := by rw [HA.out.ctrs.len]; exact hlt
          have hjs : j < s.ds.length := by rw [HLS.out]; exact hlt
          obtain ⟨g2, o2, hA2, ht2, hc2⟩ := HA.out.own.sl.2 (by omega)
          have d0 := hc2 j (by simpa using hjs) 0 (by omega)
          simp only [List.getElem_map, Nat.add_zero, Nat.mul_one, valEnc] at d0
          obtain ⟨hcur1, hcur2⟩ := HA.out.cur hlt hjd hjs
          rw [← hcur2] at d0
          have hvo := HVOK.out trivial j hlt (by simpa using hjs)
          simp only [List.getElem_map] at hvo
          rw [← hcur1] at hvo
          have hck := HCOK.out j hlt hjs
          rw [← hcur1] at hck
          have hzr := HA.out.mod.size
          obtain ⟨fm, mm, hcall⟩ := ctr_add ls[j] ds[j] wr B (HA.out.ctrs.each j hlt hjd) (HR.out _ (List.getElem_mem hlt)) hck (by omega) ⟨at_, who, cost, long⟩ HRA.out hat (by omega) hvo
          obtain ⟨mm1, mm2, mm3⟩ := mm
          have hstep := fun (w' : World) (d' : CtrD) (h1 : d'.T = ds[j].T) (h2 : d'.g = ds[j].g) (h3 : d'.c = addC ls[j] ds[j].c ⟨at_, who, cost, long⟩) (h4 : d'.At w' B ls[j]) (h5 : Mod ds[j].F wr w') (h6 : ∀ x, d'.F x → ds[j].F x ∨ wr.heap.size ≤ x) => HA.out.step hlt hjd h1 h2 h3 h4 h5 h6
          have hwrap : ∀ e w', RCAdd wr B ls[j] ds[j] ⟨at_, who, cost, long⟩ e w' → e = .returned (.tuple #[]) ∧ ∃ ds', Adding w4 w' B ls s ⟨at_, who, cost, long⟩ (j + 1) ds' := by
            rintro e w' ⟨rfl, d', h1, h2, h3, h4, h5, h6⟩
            exact ⟨rfl, _, hstep w' d' h1 h2 h3 h4 h5 h6⟩
          have HWR := Lib.hid hwrap
          have hgl2 := ht2.lt
          have hb1 : (0 : Int) ≤ j := by omega
          have hb2 : (j : Int) < ls.length := by omega
          clear hstep hwrap hcur1 hcur2 hvo hck hc2
          generalize hd : ds[j] = d at *
          have HD := Lib.hid hd
          clear hd
          simp only [CtrD.val] at d0
          rw [hA2]
          go_wp2_with fail
          refine (hcall.mono (fun e w' h => HWR.out e w' h)).mono ?_
          clear hcall mm1 mm2 mm3
          rintro e w5 ⟨rfl, ds', hA'⟩
          go_wp2_with fail
          exact ⟨⟨j + 1, ds', by omega, by go_num, Lib.hid hA'⟩, by simp [intOf]; omega⟩
        · obtain rfl : j = ls.length := by omega
          have hMr := HM4.out.added HA.out
          have b14 := HB14.out.mod HA.out.mod (HNE.out _ _ HB14.out.tb (by decide) (by decide) (by decide) (by decide) (by decide) (by decide))
          have b34 := HB34.out.mod HA.out.mod (HNE.out _ _ HB34.out.tb (by decide) (by decide) (by decide) (by decide) (by decide) (by decide))
          have hnr := hMr.far b14.tb (by decide) (by decide) (by decide) (by decide) (by decide) (by decide) (by decide) (by decide)
          have v0 := b34.cell 0
          have v1 := b34.cell 1
          have v2 := b34.cell 2
          have r0 := b14.cell 0
          have r1 := b14.cell 1
          have r2 := b14.cell 2
          have fr := b14.frozen
          have g1 := hMr.blk.cell 1
          have fg := hMr.blk.frozen 1
          have hgl := hMr.blk.lt
          have hrl := b14.lt
          simp at v0 v1 v2 r0 r1 r2 g1
          have bq := Blk.copy3 (b14.mod (Mod.setCell (S := fun k => k = gm) (p := ⟨gm, 1, none⟩) (Mod.refl _ _) (.inl rfl) (.int .i64 at_)) n5) (.bool true) (.string by_) (.int .i64 wt)
          have hM6 := (hMr.setNow at_).only hnr (Only.cell3 (wr.setCell ⟨gm, 1, none⟩ (.int .i64 at_)) (w.heap.size + 1) (.bool true) (.string by_) (.int .i64 wt))
          have hms : Mod (fun x => x = gm ∨ x = mb ∨ SF σ x) w (((((wr.setCell ⟨gm, 1, none⟩ (.int .i64 at_))).setCell ⟨w.heap.size + 1, 0, none⟩ (.bool true)).setCell ⟨w.heap.size + 1, 1, none⟩ (.string by_)).setCell ⟨w.heap.size + 1, 2, none⟩ (.int .i64 wt)) := by
            refine Mod.setCell (Mod.setCell (Mod.setCell (Mod.setCell (HM7.out.step HA.out.mod (fun x hx e => ?_)) (.inl (.inl rfl)) _) (.inr ?_) _) (.inr ?_) _) (.inr ?_) _
            · rcases HSX.out x e with h1 | h1
              · exact .inr (.inr h1)
              · omega
            all_goals simp
          have hcs := HA.out.cs
          rw [List.drop_of_length_le (by rw [List.length_map, HLS.out]; omega), List.append_nil, List.take_of_length_le (by rw [addL_length (by rw [List.length_map]; exact HLS.out)]; omega)] at hcs
          have hpu : pureS (gput σ who ⟨s.A, s.cp, ds⟩) = putC ls (pureS σ) ⟨at_, who, cost, long⟩ := by
            rw [HPT.out]
            unfold pureS
            rw [gput_gmap]
            simp only [hcs]
          have hok' : ∀ who' s', gget (gput σ who ⟨s.A, s.cp, ds⟩) who' = some s' → CtrsOk ls at_ (k + 1) s'.ds := fun who' s' hg => by
            rw [gget_gput] at hg
            split at hg
            · injection hg with hg
              subst hg
              exact ctrsOk_add HR.out HCOK.out HRA.out hat HLS.out hcs (HVOK.out trivial)
            · exact ctrsOk_later (HOK.out who' s' hg) hat (by omega)
          have hfin : ∀ x, SF (gput σ who ⟨s.A, s.cp, ds⟩) x → SF σ x ∨ w.heap.size ≤ x := fun x hx => by
            obtain ⟨who', s', hg, hx⟩ := hx
            rw [gget_gput] at hg
            split at hg
            · injection hg with hg
              subst hg
              have hz0 := HM7.out.size
              rcases hx with hx | ⟨d, hd, hx⟩
              · exact HSX.out x (.inl hx)
              · rcases HA.out.far d hd x hx with h1 | h1
                · exact HSX.out x h1
                · right; omega
            · exact .inl ⟨who', s', hg, hx⟩
          have HPO := Lib.hid (And.intro hM6 (And.intro hms (And.intro hpu (And.intro hok' hfin))))
          have HBQ := Lib.hid bq
          clear hM6 hms hpu hok' hfin hcs bq hMr hnr b14 b34
          go_wp2_with fail
          have q0 := HBQ.out.cell 0
          have q1 := HBQ.out.cell 1
          have q2 := HBQ.out.cell 2
          simp at q0 q1 q2
          clear r0 r1 r2 fr g1 fg v0 v1 v2 e0 e2 e3
          refine bodyPost_ret (v := .tuple #[Vd.val ⟨true, by_, wt⟩, .int .i64 0]) (by simp [results, Tryz.results39, go_sem, q0, q1, q2, Vd.val]) rfl ?_
          obtain ⟨p1, p2, p3, p4, p5⟩ := HPO.out
          exact ⟨by rw [HVV.out], gput σ who ⟨s.A, s.cp, ds⟩, p1, p3, p4, gput_length _ _ _, p2, p5⟩

end Go.Proofs.YtinnckbffblecaaGreat
