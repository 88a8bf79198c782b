/- Reading values, the reference's side: an item of a list. Conditions: a text of at most 240000 bytes. -/
import Derived.Test.YtjmnkdkdjnmejaaGreatDoorRrList
import Derived.Test.YtjmnkdkdjnmejaaGreatDoorRvP4
namespace Go.Proofs.YtjmnkdkdjnmejaaGreatDoor
open Go.RowKit
set_option linter.unusedVariables false
set_option linter.unusedSimpArgs false
theorem Kids.push2 {α β : Type} {Tr : World → (Nat → Prop) → α → β → Prop} {t : TypeId} {sz : Nat} {enc : α → Nat → Value} {w w' : World} {B : Nat} {G S : Nat → Prop} {A : Option Addr} {m c : Nat} {xs : List α} {vs : List β} {g9 cap : Nat} {y : α} {u : β} (hT : TrOk Tr) (h : Kids Tr t sz enc w B G A m c xs vs) (hy : Tr w (fun g => G g ∧ blkOf A ≠ some g) y u) (ho : Own w' B t sz enc (some ⟨g9, 0, none⟩) (m + 1) cap (xs ++ [y])) (hm : Mod S w w') (hS : ∀ g, G g → S g → blkOf A = some g) (hat : blkOf A = some g9 ∨ w.heap.size ≤ g9) :
    Kids Tr t sz enc w' B G (some ⟨g9, 0, none⟩) (m + 1) cap (xs ++ [y]) (vs ++ [u]) := by
  have key : ∀ x v, Tr w (fun g => G g ∧ blkOf A ≠ some g) x v → Tr w' (fun g => G g ∧ blkOf (some (⟨g9, 0, none⟩ : Addr)) ≠ some g) x v := fun x v hx => by
    have h1 : Tr w (fun g => (G g ∧ blkOf A ≠ some g) ∧ blkOf (some (⟨g9, 0, none⟩ : Addr)) ≠ some g) x v := hT.imp (fun g hg hl => ⟨hg, fun e => by
      injection e with e
      simp only at e
      rcases hat with h9 | h9
      · exact hg.2 (by rw [h9, e])
      · omega⟩) hx
    have h2 := hT.mod hm (fun g hg _ e => hg.1.2 (hS g hg.1.1 e)) h1
    exact hT.imp (fun g hg _ => ⟨hg.1.1, hg.2⟩) h2
  have hl := h.own.1
  have hl2 := h.len
  refine ⟨ho, by simp [hl2], fun i hi hi' => ?_⟩
  simp only [List.length_append, List.length_cons, List.length_nil] at hi hi'
  by_cases e : i < m
  · rw [List.getElem_append_left (by omega), List.getElem_append_left (by omega)]
    exact key _ _ (h.tree i (by omega) (by omega))
  · rw [List.getElem_append_right (by omega), List.getElem_append_right (by omega)]
    simp only [List.getElem_singleton]
    exact key _ _ hy
theorem item1_fin {s : ByteArray} {b vb i : Nat} {f : RFr} {w wp wf : World} {la ma : Option Addr} {ln lc mn mc j g9 cap9 : Nat} {A : VA} {xs : List VA} (hi9 : i ≤ 240000) (hbv : b < vb) (hf : f.mem = false) (hfo : FrOk f i) (hbx : BoxAt w vb i f la ln lc ma mn mc)
    (hxs : Kids (TrV i) 30 6 VA.enc w (vb + 1) (fun g => vb < g) la ln lc xs f.items) (hm : Only b w wp) (hj : j ≤ s.size)
    (hor : (∃ v, i < j ∧ Blk wp b 53 (RRc s j (-1)) ∧ Tree wp (fun g => vb < g ∧ blkOf la ≠ some g) j A v ∧ ∀ st, Leads s.data.toList (.run true st i) (putS st v j)) ∨ (∃ p : Nat, Blk wp b 53 (RRc s j (p : Int)) ∧ ∀ st, Leads s.data.toList (.run true st i) (.bad p)))
    (hbb : Mod (fun k => k = vb ∨ blkOf la = some k) wp wf) (ho : Own wf (vb + 1) 30 6 VA.enc (some ⟨g9, 0, none⟩) (ln + 1) cap9 (xs ++ [A])) (hg : vb < g9 ∧ (blkOf la = some g9 ∨ g9 = wp.heap.size))
    (hv : Blk wf vb 30 #[.int .i64 4, .bool false, .int .i64 0, .string ⟨#[]⟩, .slice (some ⟨g9, 0, none⟩) (ln + 1) cap9, .slice ma mn mc]) (hmm : Mod (fun k => k = b ∨ vb ≤ k) w wf) :
    RItem s b vb i f w (.returned (.tuple #[])) wf := by
  have hla : ∀ g, blkOf la = some g → vb < g := fun g e => (hxs.own.far' g e).1
  have hbn : ¬ (b = vb ∨ blkOf la = some b) := fun e => by
    rcases e with e | e
    · omega
    · have := hla b e; omega
  have hst : ∀ st, startS s.data.toList f st i = .run true (f :: st) i := fun st => by unfold startS; rw [hf]; rfl
  refine ⟨rfl, hmm, j, hj, ?_⟩
  rcases hor with ⟨v, h1, h2, h3, h4⟩ | ⟨p, h2, h4⟩
  · refine .inl ⟨f.put v, h1, ?_, ?_, h2.mod hbb hbn, ?_, fun st => ?_⟩
    · simp [RFr.put, hf]
    · have e1 : (f.put v).items = f.items ++ [v] := by simp [RFr.put, hf]
      have e2 : (f.put v).mems = f.mems := by simp [RFr.put, hf]
      refine ⟨by rw [e1]; have := hfo.li; simp; omega, by rw [e2]; have := hfo.lm; omega, by rw [e2]; exact hfo.nd, (fun _ => by rw [e2]; exact hfo.em hf), (fun e => absurd e (by simp [RFr.put, hf]))⟩
    · have e0 : (f.put v).mem = false := by simp [RFr.put, hf]
      have e1 : (f.put v).items = f.items ++ [v] := by simp [RFr.put, hf]
      have e2 : (f.put v).mems = [] := by simp [RFr.put, hf, hfo.em hf]
      obtain ⟨ms, hms⟩ := hbx.mes
      have hk1 := (hxs.mod (trV_ok i) hm (fun g hg _ e => by have h5 : g = b := e; have h6 : vb < g := hg; omega) (fun g hg e => by have h5 : g = b := e; have := hla g hg; omega)).lift (Tr' := TrV j) (fun G x v q => Tree.upto (Nat.le_of_lt h1) q)
      refine ⟨some ⟨g9, 0, none⟩, ln + 1, cap9, ma, mn, mc, ⟨?_, ⟨xs ++ [A], ?_⟩, ⟨ms, ?_⟩⟩⟩
      · rw [e0]; exact hv
      · rw [e1]
        exact hk1.push2 (trV_ok j) h3 ho hbb (fun g hg e => by
          rcases e with e | e
          · have h6 : vb < g := hg; omega
          · exact e) (hg.2.imp id (fun h => Nat.le_of_eq h.symm))
      · rw [e2]
        have hms0 : mn = 0 := by have h5 := hms.len; rw [hfo.em hf] at h5; simpa using h5.symm
        have ho1 := hms.own.mod hm (fun g hg e => by have h5 : g = b := e; have := (hms.own.far' g hg).1; omega)
        refine ⟨ho1.mod hbb (fun g hg e => ?_), by simp [hms0], fun i hi hi' => absurd hi' (by simp)⟩
        rcases e with e | e
        · have := (hms.own.far' g hg).1; omega
        · exact (ho1.far' g hg).2.2.ne (hk1.own.far' g e).2.2 (by decide) rfl
    · rw [hst st]
      have h5 := h4 (f :: st)
      exact h5
  · refine .inr ⟨p, h2.mod hbb hbn, ?_, fun st => ?_⟩
    · obtain ⟨ms, hms⟩ := hbx.mes
      have ho1 := hms.own.mod hm (fun g hg e => by have h5 : g = b := e; have := (hms.own.far' g hg).1; omega)
      have hl1 := hxs.own.mod hm (fun g hg e => by have h5 : g = b := e; have := hla g hg; omega)
      refine ⟨some ⟨g9, 0, none⟩, ln + 1, cap9, ma, mn, mc, ms, by rw [hf]; exact hv, ho1.mod hbb (fun g hg e => ?_), by have h3 := hms.len; have h4 := hfo.lm; omega⟩
      rcases e with e | e
      · have := (hms.own.far' g hg).1; omega
      · exact (ho1.far' g hg).2.2.ne (hl1.far' g e).2.2 (by decide) rfl
    · rw [hst st]
      exact h4 (f :: st)
theorem memItem_fin2 {s : ByteArray} {b vb i : Nat} {f : RFr} {w wp wf : World} {la ma : Option Addr} {ln lc mn mc j g9 cap9 : Nat} {A : VA} {ms : List MA} {nm : ByteArray} (hi9 : i ≤ 240000) (hbv : b < vb) (hf : f.mem = true) (hfo : FrOk f i) (hhas : f.has nm = false) (hbx : BoxAt w vb i f la ln lc ma mn mc)
    (hms : Kids (TrM i) 60 7 MA.enc w (vb + 1) (fun g => vb < g) ma mn mc ms f.mems) (hm : Only b w wp) (hj : j ≤ s.size)
    (hor : (∃ v, i < j ∧ Blk wp b 53 (RRc s j (-1)) ∧ Tree wp (fun g => vb < g ∧ blkOf ma ≠ some g) j A v ∧ ∀ st, Leads s.data.toList (memS s.data.toList f st i) (putS ({ f with name := nm } :: st) v j)) ∨ (∃ p : Nat, Blk wp b 53 (RRc s j (p : Int)) ∧ ∀ st, Leads s.data.toList (memS s.data.toList f st i) (.bad p)))
    (hbb : Mod (fun k => k = vb ∨ blkOf ma = some k) wp wf) (ho : Own wf (vb + 1) 60 7 MA.enc (some ⟨g9, 0, none⟩) (mn + 1) cap9 (ms ++ [⟨nm, A⟩])) (hg : vb < g9 ∧ (blkOf ma = some g9 ∨ wp.heap.size ≤ g9))
    (hv : Blk wf vb 30 #[.int .i64 5, .bool false, .int .i64 0, .string ⟨#[]⟩, .slice la ln lc, .slice (some ⟨g9, 0, none⟩) (mn + 1) cap9]) (hmm : Mod (fun k => k = b ∨ vb ≤ k) w wf) :
    RItem s b vb i f w (.returned (.tuple #[])) wf := by
  have hma : ∀ g, blkOf ma = some g → vb < g := fun g e => (hms.own.far' g e).1
  have hbn : ¬ (b = vb ∨ blkOf ma = some b) := fun e => by
    rcases e with e | e
    · omega
    · have := hma b e; omega
  have hst : ∀ st, startS s.data.toList f st i = memS s.data.toList f st i := fun st => by unfold startS; rw [hf]; rfl
  refine ⟨rfl, hmm, j, hj, ?_⟩
  rcases hor with ⟨v, h1, h2, h3, h4⟩ | ⟨p, h2, h4⟩
  · have e0 : (({ f with name := nm } : RFr).put v).mem = true := by simp [RFr.put, hf]
    have e1 : (({ f with name := nm } : RFr).put v).items = [] := by simp [RFr.put, hf, hfo.ei hf]
    have e2 : (({ f with name := nm } : RFr).put v).mems = f.mems ++ [(nm, v)] := by simp [RFr.put, hf]
    refine .inl ⟨({ f with name := nm } : RFr).put v, h1, by rw [e0, hf], ?_, h2.mod hbb hbn, ?_, fun st => ?_⟩
    · refine ⟨by rw [e1]; exact Nat.zero_le _, by rw [e2]; have := hfo.lm; simp; omega, ?_, (fun e => absurd (e0.symm.trans e) (by simp)), (fun _ => e1)⟩
      rw [e2, List.map_append, List.nodup_append]
      refine ⟨hfo.nd, by simp, fun a ha c hc => ?_⟩
      simp only [List.map_cons, List.map_nil, List.mem_singleton] at hc
      subst hc
      intro e
      subst e
      have h6 : (f.mems.map (·.1)).any (fun x => decide (x = a)) = true := List.any_eq_true.2 ⟨a, ha, by simp⟩
      rw [RFr.has_any, hhas] at h6
      cases h6
    · obtain ⟨xs, hxs⟩ := hbx.its
      have hk1 := (hms.mod (trM_ok i) hm (fun g hg _ e => by have h5 : g = b := e; have h6 : vb < g := hg; omega) (fun g hg e => by have h5 : g = b := e; have := hma g hg; omega)).lift (Tr' := TrM j) (fun G x v q => ⟨q.1, Tree.upto (Nat.le_of_lt h1) q.2⟩)
      refine ⟨la, ln, lc, some ⟨g9, 0, none⟩, mn + 1, cap9, ⟨?_, ⟨xs, ?_⟩, ⟨ms ++ [⟨nm, A⟩], ?_⟩⟩⟩
      · rw [e0]; exact hv
      · rw [e1]
        have hln0 : ln = 0 := by have h5 := hxs.len; rw [hfo.ei hf] at h5; simpa using h5.symm
        have ho1 := hxs.own.mod hm (fun g hg e => by have h5 : g = b := e; have := (hxs.own.far' g hg).1; omega)
        refine ⟨ho1.mod hbb (fun g hg e => ?_), by simp [hln0], fun i hi hi' => absurd hi' (by simp)⟩
        rcases e with e | e
        · have := (hxs.own.far' g hg).1; omega
        · exact (ho1.far' g hg).2.2.ne (hk1.own.far' g e).2.2 (by decide) rfl
      · rw [e2]
        exact hk1.push2 (trM_ok j) (y := ⟨nm, A⟩) (u := (nm, v)) ⟨rfl, h3⟩ ho hbb (fun g hg e => by
          rcases e with e | e
          · have h6 : vb < g := hg; omega
          · exact e) hg.2
    · rw [hst st]
      exact h4 st
  · refine .inr ⟨p, h2.mod hbb hbn, ⟨la, ln, lc, some ⟨g9, 0, none⟩, mn + 1, cap9, _, by rw [hf]; exact hv, ho, by have h3 := hms.len; have h5 := hfo.lm; omega⟩, fun st => ?_⟩
    rw [hst st]
    exact h4 st
theorem kids_names {w : World} {d B : Nat} {G : Nat → Prop} {A : Option Addr} {m c : Nat} {ms : List MA} {ps : List (ByteArray × VT)} (h : Kids (TrM d) 60 7 MA.enc w B G A m c ms ps) (nm : ByteArray) : ms.any (fun p => decide (p.name = nm)) = ps.any (fun p => decide (p.1 = nm)) := by
  have hl : ms.length = ps.length := by rw [h.own.1, h.len]
  have hn : ms.map (·.name) = ps.map (·.1) := by
    apply List.ext_getElem
    · simp [hl]
    · intro i h1 h2
      simp only [List.getElem_map]
      simp only [List.length_map] at h1 h2
      exact (h.tree i h1 h2).1
  have e1 : ms.any (fun p => decide (p.name = nm)) = (ms.map (·.name)).any (fun x => decide (x = nm)) := by simp [List.any_map, Function.comp_def]
  have e2 : ps.any (fun p => decide (p.1 = nm)) = (ps.map (·.1)).any (fun x => decide (x = nm)) := by simp [List.any_map, Function.comp_def]
  rw [e1, e2, hn]
theorem enters_val1 (args : Array Value) (w : World) : (callFunc 42 args).run Tryz.prog w = .ok (.enter 42 args) w := by
  go_simp
theorem Tree.adopt {w0 w : World} {d vb : Nat} {A : VA} {v : VT} {la : Option Addr} (h : Tree w (fun g => w0.heap.size ≤ g) d A v) (hv : vb < w0.heap.size) (hl : ∀ g, blkOf la = some g → g < w0.heap.size) : Tree w (fun g => vb < g ∧ blkOf la ≠ some g) d A v :=
  Tree.imp (fun g hg _ => by
    have h1 : w0.heap.size ≤ g := hg
    exact ⟨by omega, fun e => by have := hl g e; omega⟩) _ _ _ h
set_option maxHeartbeats 1500000
set_option maxRecDepth 100000 in
theorem ref_item1 (s : ByteArray) (b vb pb i : Nat) (f : RFr) (w : World) (hs : s.size ≤ 240000) (hi : i ≤ s.size) (hf : f.mem = false) (hfo : FrOk f i) (hbv : b < pb) (hpv : pb < vb)
    (hb : Blk w b 53 (RRc s i (-1))) (hx : BoxEx w vb i f) (hp : Blk w pb 51 #[.pointer (some ⟨b, 0, none⟩)])
    (hval : ∀ W, New w W → Calls Tryz.prog 19 #[.pointer (some ⟨b, 0, none⟩)] W (RVl s b i W)) :
    Calls Tryz.prog 42 #[.pointer (some ⟨vb, 0, none⟩), .pointer (some ⟨pb, 0, none⟩)] w (RItem s b vb i f w) := by
  obtain ⟨la, ln, lc, ma, mn, mc, hx⟩ := hx
  obtain ⟨xs, hxs⟩ := hx.its
  obtain ⟨ms, hms⟩ := hx.mes
  have hbk := hx.blk
  rw [hf] at hbk
  simp only [Bool.false_eq_true, if_false] at hbk
  have hln : ln ≤ 240000 := by have h1 := hxs.len; have h2 := hfo.li; omega
  have HBX := hId hbk
  have HKV := hId hxs
  have HKM := hId hms
  have HFO := hId hfo
  have HPB := hId hp
  have HVAL := hId hval
  have HF := hId hf
  have hvl0 := hbk.lt
  have HBA := hId hx
  have HSX : Hid (∀ W, Mod (fun k => k = b ∨ vb ≤ k) w W → W.cell? ⟨pb, 0, none⟩ = some (.pointer (some ⟨b, 0, none⟩)) ∧ pb < W.heap.size ∧ vb < W.heap.size) := hId (fun W hW => by
    have h1 := HPB.out.mod hW (fun e => by rcases e with e | e <;> omega)
    exact ⟨(h1.cell 0).trans rfl, h1.lt, Nat.lt_of_lt_of_le HBX.out.lt hW.size⟩)
  have c4 := hbk.cell 4
  simp only [lqt, lqz, lqs] at c4
  clear hbk hxs hms hp hval hx hb
  go_enter Tryz.func42, Tryz.ntmps42
  go_upto_region 0 with (fail)
  refine wp_region_held_drew (S := Mod (fun k => k = b ∨ vb ≤ k) w) (by kernel_rfl) (by with_reducible (repeat (first | exact Mod.refl _ _ | refine Mod.drewN ?_ _ | refine Mod.drew ?_ | refine Mod.alloc ?_ _))) (fun hHeld => ?_)
  simp only [List.size_toArray, List.length_cons, List.length_nil, Nat.reduceAdd]
  refine wpAnyH_take (i := 0) (v := ?_) rfl (by kernel_rfl) (by kernel_rfl) (by kernel_rfl) (fun _ _ _ h => h) (Or.inl ⟨by rfl, fun W hSw => ?_⟩) (by assumption) ?_
  rotate_left
  · (have hq := HSX.out W hSw); (try simp only [lgt, lgz, lgs]); go_simp; any_goals (with_reducible rfl)
  simp only [Act.put, lgt, lgz, lgs, lst, lsz, lss]
  refine wpAnyH_take (i := 2) (v := ?_) rfl (by kernel_rfl) (by kernel_rfl) (by kernel_rfl) (fun _ _ _ h => h) (Or.inl ⟨by rfl, fun W hSw => ?_⟩) (by assumption) ?_
  rotate_left
  · (have hq := HSX.out W hSw); (try simp only [lgt, lgz, lgs]); go_simp; any_goals (with_reducible rfl)
  simp only [Act.put, lgt, lgz, lgs, lst, lsz, lss]
  refine wpAnyH_ready (rs := [1, 3, 5]) (by kernel_rfl) (by simp) ?_
  refine AllReadyH.cons rfl (fun K hK => ?_) (AllReadyH.cons rfl (fun K hK => ?_) (AllReadyH.cons rfl (fun K hK => ?_) AllReadyH.nil))
  · -- the header first
    (try simp only [lgt, lgz, lgs])
    go_simp
    refine hK.out _ _ hHeld (fun hHeld => ?_)
    clear hK K
    (try simp only [Act.put, lgt, lgz, lgs, lst, lsz, lss])
    refine wpAnyH_take (i := 4) (v := ?_) rfl (by kernel_rfl) (by kernel_rfl) (by kernel_rfl) (fun _ _ _ h => h) (Or.inl ⟨by rfl, fun W hSw => ?_⟩) (by assumption) ?_
    rotate_left
    · (have hq := HSX.out W hSw); (try simp only [lgt, lgz, lgs]); go_simp; any_goals (with_reducible rfl)
    simp only [Act.put, lgt, lgz, lgs, lst, lsz, lss]
    clear c4
    have HNW : Hid (New w w.drew) := hId (by with_reducible (repeat (first | exact Mod.refl _ _ | refine Mod.drewN ?_ _ | refine Mod.drew ?_ | refine Mod.alloc ?_ _)))
    refine wpAnyH_ready (rs := [3, 5]) (by kernel_rfl) (by simp) ?_
    refine AllReadyH.cons rfl (fun K hK => ?_) (AllReadyH.cons rfl (fun K hK => ?_) AllReadyH.nil)
    · (try simp only [lgt, lgz, lgs])
      go_simp
      refine (HVAL.out _ HNW.out).mono ?_
      rintro e w3 ⟨hm3, A, j, rfl, hj, hor⟩
      obtain ⟨xk, xf, xn, xw, xla, xln, xlc, xma, xmn, xmc⟩ := A
      have HM3 : Hid (Only b w w3) := hId ((HNW.out.mono (fun _ _ e => e.elim)).trans hm3)
      have HS3 : Hid (Mod (fun k => k = b ∨ vb ≤ k) w w3) := hId (HM3.out.mono (fun k _ e => .inl e))
      have HOR : Hid ((∃ v, i < j ∧ Blk w3 b 53 (RRc s j (-1)) ∧ Tree w3 (fun g => vb < g ∧ blkOf la ≠ some g) j ⟨xk, xf, xn, xw, xla, xln, xlc, xma, xmn, xmc⟩ v ∧ ∀ st, Leads s.data.toList (.run true st i) (putS st v j)) ∨ (∃ p : Nat, Blk w3 b 53 (RRc s j (p : Int)) ∧ ∀ st, Leads s.data.toList (.run true st i) (.bad p))) := hId (by
        rcases hor with ⟨v, h1, h2, h3, h4⟩ | h
        · exact .inl ⟨v, h1, h2, h3.adopt (Nat.lt_of_lt_of_le HBX.out.lt HNW.out.size) (fun g hg => Nat.lt_of_lt_of_le (HKV.out.own.far' g hg).2.1 HNW.out.size), h4⟩
        · exact .inr h)
      have hmz := hId hm3
      clear hm3 hor
      simp only [VA.val]
      go_wp2_with fail
      refine hK.out _ _ HS3.out (fun hHeld => ?_)
      clear hK K
      (try simp only [Act.put, lgt, lgz, lgs, lst, lsz, lss])
      refine wpAnyH_ready (rs := [5]) (by kernel_rfl) (by simp) ?_
      refine AllReadyH.cons rfl (fun K hK => ?_) AllReadyH.nil
      -- the zero element, behind the call
      (try simp only [lgt, lgz, lgs])
      go_simp
      have HM4 : Hid (Only b w (w3.alloc (.cells #[.int .i64 0, .bool false, .int .i64 0, .string ⟨#[]⟩, .slice none 0 0, .slice none 0 0] 30))) := hId (HM3.out.alloc _)
      have HZB : Hid (Blk (w3.alloc (.cells #[.int .i64 0, .bool false, .int .i64 0, .string ⟨#[]⟩, .slice none 0 0, .slice none 0 0] 30)) w3.heap.size 30 (encL 6 VA.enc VA.zero).toArray) := hId (Blk.new w3 _ _)
      have HOR4 : Hid ((∃ v, i < j ∧ Blk (w3.alloc (.cells #[.int .i64 0, .bool false, .int .i64 0, .string ⟨#[]⟩, .slice none 0 0, .slice none 0 0] 30)) b 53 (RRc s j (-1)) ∧ Tree (w3.alloc (.cells #[.int .i64 0, .bool false, .int .i64 0, .string ⟨#[]⟩, .slice none 0 0, .slice none 0 0] 30)) (fun g => vb < g ∧ blkOf la ≠ some g) j ⟨xk, xf, xn, xw, xla, xln, xlc, xma, xmn, xmc⟩ v ∧ ∀ st, Leads s.data.toList (.run true st i) (putS st v j)) ∨ (∃ p : Nat, Blk (w3.alloc (.cells #[.int .i64 0, .bool false, .int .i64 0, .string ⟨#[]⟩, .slice none 0 0, .slice none 0 0] 30)) b 53 (RRc s j (p : Int)) ∧ ∀ st, Leads s.data.toList (.run true st i) (.bad p))) := hId (by
        have hn : New w3 (w3.alloc (.cells #[.int .i64 0, .bool false, .int .i64 0, .string ⟨#[]⟩, .slice none 0 0, .slice none 0 0] 30)) := (Mod.refl _ _).alloc _
        rcases HOR.out with ⟨v, h1, h2, h3, h4⟩ | ⟨p, h2, h4⟩
        · exact .inl ⟨v, h1, h2.mod hn (fun e => e), h3.new hn, h4⟩
        · exact .inr ⟨p, h2.mod hn (fun e => e), h4⟩)
      refine hK.out _ _ (HM4.out.mono (fun k _ e => .inl e)) (fun hHeld => ?_)
      clear hK K HOR HM3
      (try simp only [Act.put, lgt, lgz, lgs, lst, lsz, lss])
      have HOR := HOR4
      have HM3 := HM4
      clear HOR4 HM4
      generalize w3.alloc (.cells #[.int .i64 0, .bool false, .int .i64 0, .string ⟨#[]⟩, .slice none 0 0, .slice none 0 0] 30) = w4 at *
      generalize w3.heap.size = zb at *
      have own2 := HKV.out.own.mod HM3.out (fun g hg e => by have := (HKV.out.own.far' g hg).1; omega)
      refine wpAnyH_ready (rs := [6]) (by kernel_rfl) (by simp) ?_
      refine AllReadyH.cons rfl (fun K hK => ?_) AllReadyH.nil
      rw [if_pos (by rfl)]
      have HZZ : Hid (vb + 1 ≤ w4.heap.size) := hId (Nat.le_trans HBX.out.lt HM3.out.size)
      refine wp_push (.tmp 3) (.tmp 7) _ rfl 88 Tryz.underlying27 einfo_val rfl (by exact own2) VA.zero zb rfl (by exact HZB.out) (fun j hj => VA.one _ j hj) (by omega) (by omega) HZZ.out ?_
      intro g9 cap9 wc own9 hm9 hat9 hlt9
      refine hK.out _ _ ((HM3.out.mono (fun k _ e => Or.inl e)).step hm9 (fun k hk e => .inr (Nat.le_of_lt (HKV.out.own.far' k e).1))) (fun hHeld => ?_)
      clear hK K
      (try simp only [Act.put, lgt, lgz, lgs, lst, lsz, lss])
      have hvl : xs.length = ln := HKV.out.own.1
      have HFLN : Hid (ln < (xs ++ [VA.zero]).length) := hId (by simp; omega)
      have HHS : Hid (Mod (fun k => k = b ∨ vb ≤ k) w wc) := hId hHeld
      have HCELL : Hid (∀ j, j < 6 → wc.cell? ⟨g9, ln * 6 + j, none⟩ = some (VA.zero.enc j)) := hId (fun j hj => by
        obtain ⟨g', o', hA, htb, hc⟩ := own9.sl.2 (by omega)
        injection hA with hA
        injection hA with hA1 hA2
        subst hA1 hA2
        have := hc ln (by simp; omega) j hj
        simpa [← hvl] using this)
      have HROW := hId own9
      have HLT := hId hlt9
      have HG9 : Hid (vb < g9 ∧ (blkOf la = some g9 ∨ g9 = w4.heap.size)) := hId (by
        refine ⟨?_, hat9⟩
        rcases hat9 with h | h
        · have := (own2.far' g9 h).1; omega
        · have := HZZ.out; omega)
      have hvb9 := (HBX.out.mod HM3.out (by omega)).mod hm9 (fun e => by have := (own2.far' _ e).1; omega)
      have HVB := hId hvb9
      have HBB : Hid (Mod (fun k => k = vb ∨ blkOf la = some k) w4 wc) := hId (hm9.mono (fun k _ e => .inr e))
      have HMM : Hid (Only b w w4) := HM3
      have HORP := HOR
      have HSETL : Hid ((xs ++ [VA.zero]).set ln (⟨xk, xf, xn, xw, xla, xln, xlc, xma, xmn, xmc⟩ : VA) = xs ++ [⟨xk, xf, xn, xw, xla, xln, xlc, xma, xmn, xmc⟩]) := hId (by simp [← hvl])
      clear own2 own9 hm9 hat9 hlt9 HZB HM3 hvl hvb9
      have g0 : (0 : Int) ≤ (ln : Int) := by omega
      have g1 : (ln : Int) < (ln : Int) + 1 := by omega
      generalize w4 = wp at *
      refine wpAnyH_take (i := 7) (v := ?_) rfl (by kernel_rfl) (by kernel_rfl) (by kernel_rfl) (fun _ _ _ h => h) (Or.inl ⟨by rfl, fun W hSw => ?_⟩) (by assumption) ?_
      rotate_left
      · (have hq := HSX.out W hSw); (try simp only [lgt, lgz, lgs]); go_simp; any_goals (with_reducible rfl)
      simp only [Act.put, lgt, lgz, lgs, lst, lsz, lss]
      refine wpAnyH_take (i := 9) (v := ?_) rfl (by kernel_rfl) (by kernel_rfl) (by kernel_rfl) (fun _ _ _ h => h) (Or.inl ⟨by rfl, fun W hSw => ?_⟩) (by assumption) ?_
      rotate_left
      · (have hq := HSX.out W hSw); (try simp only [lgt, lgz, lgs]); go_simp; any_goals (with_reducible rfl)
      simp only [Act.put, lgt, lgz, lgs, lst, lsz, lss]
      refine wpAnyH_ready (rs := [8, 10]) (by kernel_rfl) (by simp) ?_
      refine AllReadyH.cons rfl (fun K hK => ?_) (AllReadyH.cons rfl (fun K hK => ?_) AllReadyH.nil)
      · have c0 := HCELL.out 0 (by decide)
        have c1 := HCELL.out 1 (by decide)
        have c2 := HCELL.out 2 (by decide)
        have c3 := HCELL.out 3 (by decide)
        have c4 := HCELL.out 4 (by decide)
        have c5 := HCELL.out 5 (by decide)
        have f0 := HROW.out.frozen (ln * 6)
        have f1 := HROW.out.frozen (ln * 6 + 1)
        have f2 := HROW.out.frozen (ln * 6 + 2)
        have f3 := HROW.out.frozen (ln * 6 + 3)
        have f4 := HROW.out.frozen (ln * 6 + 4)
        have f5 := HROW.out.frozen (ln * 6 + 5)
        have gl := HLT.out
        simp only [VA.enc, VA.zero, Nat.add_zero] at c0 c1 c2 c3 c4 c5
        (try simp only [lgt, lgz, lgs])
        go_simp
        clear c0 c1 c2 c3 c4 c5 f0 f1 f2 f3 f4 f5 gl
        have hset := HROW.out.set6 (i := ln) HFLN.out (⟨xk, xf, xn, xw, xla, xln, xlc, xma, xmn, xmc⟩ : VA)
        simp only [VA.enc] at hset
        have hms : Only g9 wc ((((((wc.setCell ⟨g9, ln * 6, none⟩ (.int .i64 xk)).setCell ⟨g9, ln * 6 + 1, none⟩ (.bool xf)).setCell ⟨g9, ln * 6 + 2, none⟩ (.int .i64 xn)).setCell ⟨g9, ln * 6 + 3, none⟩ (.string xw)).setCell ⟨g9, ln * 6 + 4, none⟩ (.slice xla xln xlc)).setCell ⟨g9, ln * 6 + 5, none⟩ (.slice xma xmn xmc)) := by
          with_reducible repeat (first | exact Mod.refl _ _ | refine Only.set ?_ _ _)
        have HSET := hId hset
        have HMS := hId hms
        clear hset hms
        generalize ((((((wc.setCell ⟨g9, ln * 6, none⟩ (.int .i64 xk)).setCell ⟨g9, ln * 6 + 1, none⟩ (.bool xf)).setCell ⟨g9, ln * 6 + 2, none⟩ (.int .i64 xn)).setCell ⟨g9, ln * 6 + 3, none⟩ (.string xw)).setCell ⟨g9, ln * 6 + 4, none⟩ (.slice xla xln xlc)).setCell ⟨g9, ln * 6 + 5, none⟩ (.slice xma xmn xmc)) = wd at *
        refine hK.out _ _ (HHS.out.step HMS.out (fun k _ e => by subst e; exact .inr (Nat.le_of_lt HG9.out.1))) (fun hHeld => ?_)
        clear hK K
        (try simp only [Act.put, lgt, lgz, lgs, lst, lsz, lss])
        have HROW1 := HSET
        have HHS1 : Hid (Mod (fun k => k = b ∨ vb ≤ k) w wd) := hId hHeld
        have HVB2 := hId (HVB.out.mod HMS.out (fun e => by have h7 := HG9.out.1; have h8 : vb = g9 := e; omega))
        have HBB2 : Hid (Mod (fun k => k = vb ∨ blkOf la = some k) wp wd) := hId (HBB.out.step HMS.out (fun k hk e => by
          subst e
          rcases HG9.out.2 with h | h
          · exact .inr h
          · omega))
        have HMM2 := HMM
        have HLT2 : Hid (g9 < wd.heap.size) := hId (Nat.lt_of_lt_of_le HLT.out HMS.out.size)
        clear HROW HHS HVB HBB HMM HLT HSET HCELL
        have HROW := HROW1
        have HHS := HHS1
        have HVB := HVB2
        have HBB := HBB2
        have HMM := HMM2
        have HLT := HLT2
        clear HROW1 HHS1 HVB2 HBB2 HMM2 HLT2
        refine wpAnyH_ready (rs := [10]) (by kernel_rfl) (by simp) ?_
        refine AllReadyH.cons rfl (fun K hK => ?_) AllReadyH.nil
        have o4c := HVB.out.cell 4
        have o4f := HVB.out.frozen 4
        have o4l := HVB.out.lt
        simp only [lqt, lqz, lqs] at o4c
        (try simp only [lgt, lgz, lgs])
        go_simp
        clear o4c o4f o4l
        have HMS : Hid (Only vb wd (wd.setCell ⟨vb, 4, none⟩ (.slice (some ⟨g9, 0, none⟩) (ln + 1) cap9))) := hId ((Mod.refl (fun k => k = vb) wd).setCell (p := ⟨vb, 4, none⟩) (.inl rfl) _)
        refine hK.out _ _ (HHS.out.step HMS.out (fun k _ e => by subst e; exact .inr (Nat.le_refl _))) (fun hHeld => ?_)
        clear hK K
        (try simp only [Act.put, lgt, lgz, lgs, lst, lsz, lss])
        have HVB2 := hId (HVB.out.set 4 (.slice (some ⟨g9, 0, none⟩) (ln + 1) cap9))
        have HROW1 := hId (HROW.out.mod HMS.out (fun k e e2 => by have h7 := HG9.out.1; injection e with e; have h8 : g9 = k := e; have h9 : k = vb := e2; omega))
        have HBB2 : Hid (Mod (fun k => k = vb ∨ blkOf la = some k) wp (wd.setCell ⟨vb, 4, none⟩ (.slice (some ⟨g9, 0, none⟩) (ln + 1) cap9))) := hId (HBB.out.step HMS.out (fun k hk e => .inl e))
        have HMM2 := HMM
        have HLT2 : Hid (g9 < (wd.setCell ⟨vb, 4, none⟩ (.slice (some ⟨g9, 0, none⟩) (ln + 1) cap9)).heap.size) := hId (Nat.lt_of_lt_of_le HLT.out HMS.out.size)
        have HHS1 := hId hHeld
        have HROW := HROW1
        have HHS := HHS1
        have HVB := HVB2
        have HBB := HBB2
        have HMM := HMM2
        have HLT := HLT2
        clear HROW1 HHS1 HVB2 HBB2 HMM2 HLT2
        refine wpAnyH_done (by kernel_rfl) ?_ _
        clear hHeld
        go_wp2_with fail
        go_end0
        have hrow := HROW.out
        rw [HSETL.out] at hrow
        exact item1_fin (by omega) (by omega) HF.out HFO.out HBA.out HKV.out HMM.out hj HORP.out HBB.out hrow HG9.out HVB.out HHS.out
      · have o4c := HVB.out.cell 4
        have o4f := HVB.out.frozen 4
        have o4l := HVB.out.lt
        simp only [lqt, lqz, lqs] at o4c
        (try simp only [lgt, lgz, lgs])
        go_simp
        clear o4c o4f o4l
        have HMS : Hid (Only vb wc (wc.setCell ⟨vb, 4, none⟩ (.slice (some ⟨g9, 0, none⟩) (ln + 1) cap9))) := hId ((Mod.refl (fun k => k = vb) wc).setCell (p := ⟨vb, 4, none⟩) (.inl rfl) _)
        refine hK.out _ _ (HHS.out.step HMS.out (fun k _ e => by subst e; exact .inr (Nat.le_refl _))) (fun hHeld => ?_)
        clear hK K
        (try simp only [Act.put, lgt, lgz, lgs, lst, lsz, lss])
        have HVB2 := hId (HVB.out.set 4 (.slice (some ⟨g9, 0, none⟩) (ln + 1) cap9))
        have HROW1 := hId (HROW.out.mod HMS.out (fun k e e2 => by have h7 := HG9.out.1; injection e with e; have h8 : g9 = k := e; have h9 : k = vb := e2; omega))
        have HBB2 : Hid (Mod (fun k => k = vb ∨ blkOf la = some k) wp (wc.setCell ⟨vb, 4, none⟩ (.slice (some ⟨g9, 0, none⟩) (ln + 1) cap9))) := hId (HBB.out.step HMS.out (fun k hk e => .inl e))
        have HMM2 := HMM
        have HLT2 : Hid (g9 < (wc.setCell ⟨vb, 4, none⟩ (.slice (some ⟨g9, 0, none⟩) (ln + 1) cap9)).heap.size) := hId (Nat.lt_of_lt_of_le HLT.out HMS.out.size)
        have HHS1 := hId hHeld
        have HCELL := hId (fun j hj => (HMS.out.cell (p := ⟨g9, ln * 6 + j, none⟩) HLT.out (fun e => by have := HG9.out.1; have e2 : g9 = vb := e; omega)).trans (HCELL.out j hj))
        have HROW := HROW1
        have HHS := HHS1
        have HVB := HVB2
        have HBB := HBB2
        have HMM := HMM2
        have HLT := HLT2
        clear HROW1 HHS1 HVB2 HBB2 HMM2 HLT2
        generalize wc.setCell ⟨vb, 4, none⟩ (.slice (some ⟨g9, 0, none⟩) (ln + 1) cap9) = we at *
        clear hHeld
        have hHeld := HHS.out
        refine wpAnyH_ready (rs := [8]) (by kernel_rfl) (by simp) ?_
        refine AllReadyH.cons rfl (fun K hK => ?_) AllReadyH.nil
        have c0 := HCELL.out 0 (by decide)
        have c1 := HCELL.out 1 (by decide)
        have c2 := HCELL.out 2 (by decide)
        have c3 := HCELL.out 3 (by decide)
        have c4 := HCELL.out 4 (by decide)
        have c5 := HCELL.out 5 (by decide)
        have f0 := HROW.out.frozen (ln * 6)
        have f1 := HROW.out.frozen (ln * 6 + 1)
        have f2 := HROW.out.frozen (ln * 6 + 2)
        have f3 := HROW.out.frozen (ln * 6 + 3)
        have f4 := HROW.out.frozen (ln * 6 + 4)
        have f5 := HROW.out.frozen (ln * 6 + 5)
        have gl := HLT.out
        simp only [VA.enc, VA.zero, Nat.add_zero] at c0 c1 c2 c3 c4 c5
        (try simp only [lgt, lgz, lgs])
        go_simp
        clear c0 c1 c2 c3 c4 c5 f0 f1 f2 f3 f4 f5 gl
        have hset := HROW.out.set6 (i := ln) HFLN.out (⟨xk, xf, xn, xw, xla, xln, xlc, xma, xmn, xmc⟩ : VA)
        simp only [VA.enc] at hset
        have hms : Only g9 we ((((((we.setCell ⟨g9, ln * 6, none⟩ (.int .i64 xk)).setCell ⟨g9, ln * 6 + 1, none⟩ (.bool xf)).setCell ⟨g9, ln * 6 + 2, none⟩ (.int .i64 xn)).setCell ⟨g9, ln * 6 + 3, none⟩ (.string xw)).setCell ⟨g9, ln * 6 + 4, none⟩ (.slice xla xln xlc)).setCell ⟨g9, ln * 6 + 5, none⟩ (.slice xma xmn xmc)) := by
          with_reducible repeat (first | exact Mod.refl _ _ | refine Only.set ?_ _ _)
        have HSET := hId hset
        have HMS := hId hms
        clear hset hms
        generalize ((((((we.setCell ⟨g9, ln * 6, none⟩ (.int .i64 xk)).setCell ⟨g9, ln * 6 + 1, none⟩ (.bool xf)).setCell ⟨g9, ln * 6 + 2, none⟩ (.int .i64 xn)).setCell ⟨g9, ln * 6 + 3, none⟩ (.string xw)).setCell ⟨g9, ln * 6 + 4, none⟩ (.slice xla xln xlc)).setCell ⟨g9, ln * 6 + 5, none⟩ (.slice xma xmn xmc)) = wd at *
        refine hK.out _ _ (HHS.out.step HMS.out (fun k _ e => by subst e; exact .inr (Nat.le_of_lt HG9.out.1))) (fun hHeld => ?_)
        clear hK K
        (try simp only [Act.put, lgt, lgz, lgs, lst, lsz, lss])
        have HROW1 := HSET
        have HHS1 : Hid (Mod (fun k => k = b ∨ vb ≤ k) w wd) := hId hHeld
        have HVB2 := hId (HVB.out.mod HMS.out (fun e => by have h7 := HG9.out.1; have h8 : vb = g9 := e; omega))
        have HBB2 : Hid (Mod (fun k => k = vb ∨ blkOf la = some k) wp wd) := hId (HBB.out.step HMS.out (fun k hk e => by
          subst e
          rcases HG9.out.2 with h | h
          · exact .inr h
          · omega))
        have HMM2 := HMM
        have HLT2 : Hid (g9 < wd.heap.size) := hId (Nat.lt_of_lt_of_le HLT.out HMS.out.size)
        clear HROW HHS HVB HBB HMM HLT HSET HCELL
        have HROW := HROW1
        have HHS := HHS1
        have HVB := HVB2
        have HBB := HBB2
        have HMM := HMM2
        have HLT := HLT2
        clear HROW1 HHS1 HVB2 HBB2 HMM2 HLT2
        refine wpAnyH_done (by kernel_rfl) ?_ _
        clear hHeld
        go_wp2_with fail
        go_end0
        have hrow := HROW.out
        rw [HSETL.out] at hrow
        exact item1_fin (by omega) (by omega) HF.out HFO.out HBA.out HKV.out HMM.out hj HORP.out HBB.out hrow HG9.out HVB.out HHS.out
    · -- the zero element, ahead of the call
      (try simp only [lgt, lgz, lgs])
      go_simp
      have HZB0 : Hid (Blk (w.alloc (.cells #[.int .i64 0, .bool false, .int .i64 0, .string ⟨#[]⟩, .slice none 0 0, .slice none 0 0] 30)).drew w.heap.size 30 (encL 6 VA.enc VA.zero).toArray) := hId ((Blk.new w 30 (encL 6 VA.enc VA.zero).toArray).mod (show New (w.alloc (.cells #[.int .i64 0, .bool false, .int .i64 0, .string ⟨#[]⟩, .slice none 0 0, .slice none 0 0] 30)) (w.alloc (.cells #[.int .i64 0, .bool false, .int .i64 0, .string ⟨#[]⟩, .slice none 0 0, .slice none 0 0] 30)).drew from (by with_reducible (repeat (first | exact Mod.refl _ _ | refine Mod.drewN ?_ _ | refine Mod.drew ?_ | refine Mod.alloc ?_ _)))) (fun e => e))
      have HNW : Hid (New w (w.alloc (.cells #[.int .i64 0, .bool false, .int .i64 0, .string ⟨#[]⟩, .slice none 0 0, .slice none 0 0] 30)).drew) := hId (by with_reducible (repeat (first | exact Mod.refl _ _ | refine Mod.drewN ?_ _ | refine Mod.drew ?_ | refine Mod.alloc ?_ _)))
      refine hK.out _ _ (HNW.out.mono (fun _ _ e => e.elim)) (fun hHeld => ?_)
      clear hK K
      (try simp only [Act.put, lgt, lgz, lgs, lst, lsz, lss])
      obtain ⟨zb, hzb⟩ : ∃ zb, w.heap.size = zb := ⟨_, rfl⟩
      rw [hzb] at HZB0
      simp only [hzb]
      have hzn : zb ≠ b := by omega
      generalize (w.alloc (.cells #[.int .i64 0, .bool false, .int .i64 0, .string ⟨#[]⟩, .slice none 0 0, .slice none 0 0] 30)).drew = w2 at *
      clear hzb
      refine wpAnyH_ready (rs := [3]) (by kernel_rfl) (by simp) ?_
      refine AllReadyH.cons rfl (fun K hK => ?_) AllReadyH.nil
      (try simp only [lgt, lgz, lgs])
      go_simp
      refine (HVAL.out _ HNW.out).mono ?_
      rintro e w3 ⟨hm3, A, j, rfl, hj, hor⟩
      obtain ⟨xk, xf, xn, xw, xla, xln, xlc, xma, xmn, xmc⟩ := A
      have HM3 : Hid (Only b w w3) := hId ((HNW.out.mono (fun _ _ e => e.elim)).trans hm3)
      have HS3 : Hid (Mod (fun k => k = b ∨ vb ≤ k) w w3) := hId (HM3.out.mono (fun k _ e => .inl e))
      have HOR : Hid ((∃ v, i < j ∧ Blk w3 b 53 (RRc s j (-1)) ∧ Tree w3 (fun g => vb < g ∧ blkOf la ≠ some g) j ⟨xk, xf, xn, xw, xla, xln, xlc, xma, xmn, xmc⟩ v ∧ ∀ st, Leads s.data.toList (.run true st i) (putS st v j)) ∨ (∃ p : Nat, Blk w3 b 53 (RRc s j (p : Int)) ∧ ∀ st, Leads s.data.toList (.run true st i) (.bad p))) := hId (by
        rcases hor with ⟨v, h1, h2, h3, h4⟩ | h
        · exact .inl ⟨v, h1, h2, h3.adopt (Nat.lt_of_lt_of_le HBX.out.lt HNW.out.size) (fun g hg => Nat.lt_of_lt_of_le (HKV.out.own.far' g hg).2.1 HNW.out.size), h4⟩
        · exact .inr h)
      have hmz := hId hm3
      clear hm3 hor
      simp only [VA.val]
      go_wp2_with fail
      refine hK.out _ _ HS3.out (fun hHeld => ?_)
      clear hK K
      (try simp only [Act.put, lgt, lgz, lgs, lst, lsz, lss])
      have HZB := hId (HZB0.out.mod hmz.out (fun e => hzn e))
      clear HZB0 hmz
      have own2 := HKV.out.own.mod HM3.out (fun g hg e => by have := (HKV.out.own.far' g hg).1; omega)
      refine wpAnyH_ready (rs := [6]) (by kernel_rfl) (by simp) ?_
      refine AllReadyH.cons rfl (fun K hK => ?_) AllReadyH.nil
      rw [if_pos (by rfl)]
      have HZZ : Hid (vb + 1 ≤ w3.heap.size) := hId (Nat.le_trans HBX.out.lt HM3.out.size)
      refine wp_push (.tmp 3) (.tmp 7) _ rfl 88 Tryz.underlying27 einfo_val rfl (by exact own2) VA.zero zb rfl (by exact HZB.out) (fun j hj => VA.one _ j hj) (by omega) (by omega) HZZ.out ?_
      intro g9 cap9 wc own9 hm9 hat9 hlt9
      refine hK.out _ _ ((HM3.out.mono (fun k _ e => Or.inl e)).step hm9 (fun k hk e => .inr (Nat.le_of_lt (HKV.out.own.far' k e).1))) (fun hHeld => ?_)
      clear hK K
      (try simp only [Act.put, lgt, lgz, lgs, lst, lsz, lss])
      have hvl : xs.length = ln := HKV.out.own.1
      have HFLN : Hid (ln < (xs ++ [VA.zero]).length) := hId (by simp; omega)
      have HHS : Hid (Mod (fun k => k = b ∨ vb ≤ k) w wc) := hId hHeld
      have HCELL : Hid (∀ j, j < 6 → wc.cell? ⟨g9, ln * 6 + j, none⟩ = some (VA.zero.enc j)) := hId (fun j hj => by
        obtain ⟨g', o', hA, htb, hc⟩ := own9.sl.2 (by omega)
        injection hA with hA
        injection hA with hA1 hA2
        subst hA1 hA2
        have := hc ln (by simp; omega) j hj
        simpa [← hvl] using this)
      have HROW := hId own9
      have HLT := hId hlt9
      have HG9 : Hid (vb < g9 ∧ (blkOf la = some g9 ∨ g9 = w3.heap.size)) := hId (by
        refine ⟨?_, hat9⟩
        rcases hat9 with h | h
        · have := (own2.far' g9 h).1; omega
        · have := HZZ.out; omega)
      have hvb9 := (HBX.out.mod HM3.out (by omega)).mod hm9 (fun e => by have := (own2.far' _ e).1; omega)
      have HVB := hId hvb9
      have HBB : Hid (Mod (fun k => k = vb ∨ blkOf la = some k) w3 wc) := hId (hm9.mono (fun k _ e => .inr e))
      have HMM : Hid (Only b w w3) := HM3
      have HORP := HOR
      have HSETL : Hid ((xs ++ [VA.zero]).set ln (⟨xk, xf, xn, xw, xla, xln, xlc, xma, xmn, xmc⟩ : VA) = xs ++ [⟨xk, xf, xn, xw, xla, xln, xlc, xma, xmn, xmc⟩]) := hId (by simp [← hvl])
      clear own2 own9 hm9 hat9 hlt9 HZB HM3 hvl hvb9
      have g0 : (0 : Int) ≤ (ln : Int) := by omega
      have g1 : (ln : Int) < (ln : Int) + 1 := by omega
      generalize w3 = wp at *
      refine wpAnyH_take (i := 7) (v := ?_) rfl (by kernel_rfl) (by kernel_rfl) (by kernel_rfl) (fun _ _ _ h => h) (Or.inl ⟨by rfl, fun W hSw => ?_⟩) (by assumption) ?_
      rotate_left
      · (have hq := HSX.out W hSw); (try simp only [lgt, lgz, lgs]); go_simp; any_goals (with_reducible rfl)
      simp only [Act.put, lgt, lgz, lgs, lst, lsz, lss]
      refine wpAnyH_take (i := 9) (v := ?_) rfl (by kernel_rfl) (by kernel_rfl) (by kernel_rfl) (fun _ _ _ h => h) (Or.inl ⟨by rfl, fun W hSw => ?_⟩) (by assumption) ?_
      rotate_left
      · (have hq := HSX.out W hSw); (try simp only [lgt, lgz, lgs]); go_simp; any_goals (with_reducible rfl)
      simp only [Act.put, lgt, lgz, lgs, lst, lsz, lss]
      refine wpAnyH_ready (rs := [8, 10]) (by kernel_rfl) (by simp) ?_
      refine AllReadyH.cons rfl (fun K hK => ?_) (AllReadyH.cons rfl (fun K hK => ?_) AllReadyH.nil)
      · have c0 := HCELL.out 0 (by decide)
        have c1 := HCELL.out 1 (by decide)
        have c2 := HCELL.out 2 (by decide)
        have c3 := HCELL.out 3 (by decide)
        have c4 := HCELL.out 4 (by decide)
        have c5 := HCELL.out 5 (by decide)
        have f0 := HROW.out.frozen (ln * 6)
        have f1 := HROW.out.frozen (ln * 6 + 1)
        have f2 := HROW.out.frozen (ln * 6 + 2)
        have f3 := HROW.out.frozen (ln * 6 + 3)
        have f4 := HROW.out.frozen (ln * 6 + 4)
        have f5 := HROW.out.frozen (ln * 6 + 5)
        have gl := HLT.out
        simp only [VA.enc, VA.zero, Nat.add_zero] at c0 c1 c2 c3 c4 c5
        (try simp only [lgt, lgz, lgs])
        go_simp
        clear c0 c1 c2 c3 c4 c5 f0 f1 f2 f3 f4 f5 gl
        have hset := HROW.out.set6 (i := ln) HFLN.out (⟨xk, xf, xn, xw, xla, xln, xlc, xma, xmn, xmc⟩ : VA)
        simp only [VA.enc] at hset
        have hms : Only g9 wc ((((((wc.setCell ⟨g9, ln * 6, none⟩ (.int .i64 xk)).setCell ⟨g9, ln * 6 + 1, none⟩ (.bool xf)).setCell ⟨g9, ln * 6 + 2, none⟩ (.int .i64 xn)).setCell ⟨g9, ln * 6 + 3, none⟩ (.string xw)).setCell ⟨g9, ln * 6 + 4, none⟩ (.slice xla xln xlc)).setCell ⟨g9, ln * 6 + 5, none⟩ (.slice xma xmn xmc)) := by
          with_reducible repeat (first | exact Mod.refl _ _ | refine Only.set ?_ _ _)
        have HSET := hId hset
        have HMS := hId hms
        clear hset hms
        generalize ((((((wc.setCell ⟨g9, ln * 6, none⟩ (.int .i64 xk)).setCell ⟨g9, ln * 6 + 1, none⟩ (.bool xf)).setCell ⟨g9, ln * 6 + 2, none⟩ (.int .i64 xn)).setCell ⟨g9, ln * 6 + 3, none⟩ (.string xw)).setCell ⟨g9, ln * 6 + 4, none⟩ (.slice xla xln xlc)).setCell ⟨g9, ln * 6 + 5, none⟩ (.slice xma xmn xmc)) = wd at *
        refine hK.out _ _ (HHS.out.step HMS.out (fun k _ e => by subst e; exact .inr (Nat.le_of_lt HG9.out.1))) (fun hHeld => ?_)
        clear hK K
        (try simp only [Act.put, lgt, lgz, lgs, lst, lsz, lss])
        have HROW1 := HSET
        have HHS1 : Hid (Mod (fun k => k = b ∨ vb ≤ k) w wd) := hId hHeld
        have HVB2 := hId (HVB.out.mod HMS.out (fun e => by have h7 := HG9.out.1; have h8 : vb = g9 := e; omega))
        have HBB2 : Hid (Mod (fun k => k = vb ∨ blkOf la = some k) wp wd) := hId (HBB.out.step HMS.out (fun k hk e => by
          subst e
          rcases HG9.out.2 with h | h
          · exact .inr h
          · omega))
        have HMM2 := HMM
        have HLT2 : Hid (g9 < wd.heap.size) := hId (Nat.lt_of_lt_of_le HLT.out HMS.out.size)
        clear HROW HHS HVB HBB HMM HLT HSET HCELL
        have HROW := HROW1
        have HHS := HHS1
        have HVB := HVB2
        have HBB := HBB2
        have HMM := HMM2
        have HLT := HLT2
        clear HROW1 HHS1 HVB2 HBB2 HMM2 HLT2
        refine wpAnyH_ready (rs := [10]) (by kernel_rfl) (by simp) ?_
        refine AllReadyH.cons rfl (fun K hK => ?_) AllReadyH.nil
        have o4c := HVB.out.cell 4
        have o4f := HVB.out.frozen 4
        have o4l := HVB.out.lt
        simp only [lqt, lqz, lqs] at o4c
        (try simp only [lgt, lgz, lgs])
        go_simp
        clear o4c o4f o4l
        have HMS : Hid (Only vb wd (wd.setCell ⟨vb, 4, none⟩ (.slice (some ⟨g9, 0, none⟩) (ln + 1) cap9))) := hId ((Mod.refl (fun k => k = vb) wd).setCell (p := ⟨vb, 4, none⟩) (.inl rfl) _)
        refine hK.out _ _ (HHS.out.step HMS.out (fun k _ e => by subst e; exact .inr (Nat.le_refl _))) (fun hHeld => ?_)
        clear hK K
        (try simp only [Act.put, lgt, lgz, lgs, lst, lsz, lss])
        have HVB2 := hId (HVB.out.set 4 (.slice (some ⟨g9, 0, none⟩) (ln + 1) cap9))
        have HROW1 := hId (HROW.out.mod HMS.out (fun k e e2 => by have h7 := HG9.out.1; injection e with e; have h8 : g9 = k := e; have h9 : k = vb := e2; omega))
        have HBB2 : Hid (Mod (fun k => k = vb ∨ blkOf la = some k) wp (wd.setCell ⟨vb, 4, none⟩ (.slice (some ⟨g9, 0, none⟩) (ln + 1) cap9))) := hId (HBB.out.step HMS.out (fun k hk e => .inl e))
        have HMM2 := HMM
        have HLT2 : Hid (g9 < (wd.setCell ⟨vb, 4, none⟩ (.slice (some ⟨g9, 0, none⟩) (ln + 1) cap9)).heap.size) := hId (Nat.lt_of_lt_of_le HLT.out HMS.out.size)
        have HHS1 := hId hHeld
        have HROW := HROW1
        have HHS := HHS1
        have HVB := HVB2
        have HBB := HBB2
        have HMM := HMM2
        have HLT := HLT2
        clear HROW1 HHS1 HVB2 HBB2 HMM2 HLT2
        refine wpAnyH_done (by kernel_rfl) ?_ _
        clear hHeld
        go_wp2_with fail
        go_end0
        have hrow := HROW.out
        rw [HSETL.out] at hrow
        exact item1_fin (by omega) (by omega) HF.out HFO.out HBA.out HKV.out HMM.out hj HORP.out HBB.out hrow HG9.out HVB.out HHS.out
      · have o4c := HVB.out.cell 4
        have o4f := HVB.out.frozen 4
        have o4l := HVB.out.lt
        simp only [lqt, lqz, lqs] at o4c
        (try simp only [lgt, lgz, lgs])
        go_simp
        clear o4c o4f o4l
        have HMS : Hid (Only vb wc (wc.setCell ⟨vb, 4, none⟩ (.slice (some ⟨g9, 0, none⟩) (ln + 1) cap9))) := hId ((Mod.refl (fun k => k = vb) wc).setCell (p := ⟨vb, 4, none⟩) (.inl rfl) _)
        refine hK.out _ _ (HHS.out.step HMS.out (fun k _ e => by subst e; exact .inr (Nat.le_refl _))) (fun hHeld => ?_)
        clear hK K
        (try simp only [Act.put, lgt, lgz, lgs, lst, lsz, lss])
        have HVB2 := hId (HVB.out.set 4 (.slice (some ⟨g9, 0, none⟩) (ln + 1) cap9))
        have HROW1 := hId (HROW.out.mod HMS.out (fun k e e2 => by have h7 := HG9.out.1; injection e with e; have h8 : g9 = k := e; have h9 : k = vb := e2; omega))
        have HBB2 : Hid (Mod (fun k => k = vb ∨ blkOf la = some k) wp (wc.setCell ⟨vb, 4, none⟩ (.slice (some ⟨g9, 0, none⟩) (ln + 1) cap9))) := hId (HBB.out.step HMS.out (fun k hk e => .inl e))
        have HMM2 := HMM
        have HLT2 : Hid (g9 < (wc.setCell ⟨vb, 4, none⟩ (.slice (some ⟨g9, 0, none⟩) (ln + 1) cap9)).heap.size) := hId (Nat.lt_of_lt_of_le HLT.out HMS.out.size)
        have HHS1 := hId hHeld
        have HCELL := hId (fun j hj => (HMS.out.cell (p := ⟨g9, ln * 6 + j, none⟩) HLT.out (fun e => by have := HG9.out.1; have e2 : g9 = vb := e; omega)).trans (HCELL.out j hj))
        have HROW := HROW1
        have HHS := HHS1
        have HVB := HVB2
        have HBB := HBB2
        have HMM := HMM2
        have HLT := HLT2
        clear HROW1 HHS1 HVB2 HBB2 HMM2 HLT2
        generalize wc.setCell ⟨vb, 4, none⟩ (.slice (some ⟨g9, 0, none⟩) (ln + 1) cap9) = we at *
        clear hHeld
        have hHeld := HHS.out
        refine wpAnyH_ready (rs := [8]) (by kernel_rfl) (by simp) ?_
        refine AllReadyH.cons rfl (fun K hK => ?_) AllReadyH.nil
        have c0 := HCELL.out 0 (by decide)
        have c1 := HCELL.out 1 (by decide)
        have c2 := HCELL.out 2 (by decide)
        have c3 := HCELL.out 3 (by decide)
        have c4 := HCELL.out 4 (by decide)
        have c5 := HCELL.out 5 (by decide)
        have f0 := HROW.out.frozen (ln * 6)
        have f1 := HROW.out.frozen (ln * 6 + 1)
        have f2 := HROW.out.frozen (ln * 6 + 2)
        have f3 := HROW.out.frozen (ln * 6 + 3)
        have f4 := HROW.out.frozen (ln * 6 + 4)
        have f5 := HROW.out.frozen (ln * 6 + 5)
        have gl := HLT.out
        simp only [VA.enc, VA.zero, Nat.add_zero] at c0 c1 c2 c3 c4 c5
        (try simp only [lgt, lgz, lgs])
        go_simp
        clear c0 c1 c2 c3 c4 c5 f0 f1 f2 f3 f4 f5 gl
        have hset := HROW.out.set6 (i := ln) HFLN.out (⟨xk, xf, xn, xw, xla, xln, xlc, xma, xmn, xmc⟩ : VA)
        simp only [VA.enc] at hset
        have hms : Only g9 we ((((((we.setCell ⟨g9, ln * 6, none⟩ (.int .i64 xk)).setCell ⟨g9, ln * 6 + 1, none⟩ (.bool xf)).setCell ⟨g9, ln * 6 + 2, none⟩ (.int .i64 xn)).setCell ⟨g9, ln * 6 + 3, none⟩ (.string xw)).setCell ⟨g9, ln * 6 + 4, none⟩ (.slice xla xln xlc)).setCell ⟨g9, ln * 6 + 5, none⟩ (.slice xma xmn xmc)) := by
          with_reducible repeat (first | exact Mod.refl _ _ | refine Only.set ?_ _ _)
        have HSET := hId hset
        have HMS := hId hms
        clear hset hms
        generalize ((((((we.setCell ⟨g9, ln * 6, none⟩ (.int .i64 xk)).setCell ⟨g9, ln * 6 + 1, none⟩ (.bool xf)).setCell ⟨g9, ln * 6 + 2, none⟩ (.int .i64 xn)).setCell ⟨g9, ln * 6 + 3, none⟩ (.string xw)).setCell ⟨g9, ln * 6 + 4, none⟩ (.slice xla xln xlc)).setCell ⟨g9, ln * 6 + 5, none⟩ (.slice xma xmn xmc)) = wd at *
        refine hK.out _ _ (HHS.out.step HMS.out (fun k _ e => by subst e; exact .inr (Nat.le_of_lt HG9.out.1))) (fun hHeld => ?_)
        clear hK K
        (try simp only [Act.put, lgt, lgz, lgs, lst, lsz, lss])
        have HROW1 := HSET
        have HHS1 : Hid (Mod (fun k => k = b ∨ vb ≤ k) w wd) := hId hHeld
        have HVB2 := hId (HVB.out.mod HMS.out (fun e => by have h7 := HG9.out.1; have h8 : vb = g9 := e; omega))
        have HBB2 : Hid (Mod (fun k => k = vb ∨ blkOf la = some k) wp wd) := hId (HBB.out.step HMS.out (fun k hk e => by
          subst e
          rcases HG9.out.2 with h | h
          · exact .inr h
          · omega))
        have HMM2 := HMM
        have HLT2 : Hid (g9 < wd.heap.size) := hId (Nat.lt_of_lt_of_le HLT.out HMS.out.size)
        clear HROW HHS HVB HBB HMM HLT HSET HCELL
        have HROW := HROW1
        have HHS := HHS1
        have HVB := HVB2
        have HBB := HBB2
        have HMM := HMM2
        have HLT := HLT2
        clear HROW1 HHS1 HVB2 HBB2 HMM2 HLT2
        refine wpAnyH_done (by kernel_rfl) ?_ _
        clear hHeld
        go_wp2_with fail
        go_end0
        have hrow := HROW.out
        rw [HSETL.out] at hrow
        exact item1_fin (by omega) (by omega) HF.out HFO.out HBA.out HKV.out HMM.out hj HORP.out HBB.out hrow HG9.out HVB.out HHS.out
  · have HNW : Hid (New w w.drew) := hId (by with_reducible (repeat (first | exact Mod.refl _ _ | refine Mod.drewN ?_ _ | refine Mod.drew ?_ | refine Mod.alloc ?_ _)))
    clear c4
    (try simp only [lgt, lgz, lgs])
    go_simp
    refine (HVAL.out _ HNW.out).mono ?_
    rintro e w3 ⟨hm3, A, j, rfl, hj, hor⟩
    obtain ⟨xk, xf, xn, xw, xla, xln, xlc, xma, xmn, xmc⟩ := A
    have HM3 : Hid (Only b w w3) := hId ((HNW.out.mono (fun _ _ e => e.elim)).trans hm3)
    have HS3 : Hid (Mod (fun k => k = b ∨ vb ≤ k) w w3) := hId (HM3.out.mono (fun k _ e => .inl e))
    have HOR : Hid ((∃ v, i < j ∧ Blk w3 b 53 (RRc s j (-1)) ∧ Tree w3 (fun g => vb < g ∧ blkOf la ≠ some g) j ⟨xk, xf, xn, xw, xla, xln, xlc, xma, xmn, xmc⟩ v ∧ ∀ st, Leads s.data.toList (.run true st i) (putS st v j)) ∨ (∃ p : Nat, Blk w3 b 53 (RRc s j (p : Int)) ∧ ∀ st, Leads s.data.toList (.run true st i) (.bad p))) := hId (by
      rcases hor with ⟨v, h1, h2, h3, h4⟩ | h
      · exact .inl ⟨v, h1, h2, h3.adopt (Nat.lt_of_lt_of_le HBX.out.lt HNW.out.size) (fun g hg => Nat.lt_of_lt_of_le (HKV.out.own.far' g hg).2.1 HNW.out.size), h4⟩
      · exact .inr h)
    have hmz := hId hm3
    clear hm3 hor
    simp only [VA.val]
    go_wp2_with fail
    refine hK.out _ _ HS3.out (fun hHeld => ?_)
    clear hK K
    (try simp only [Act.put, lgt, lgz, lgs, lst, lsz, lss])
    refine wpAnyH_ready (rs := [1, 5]) (by kernel_rfl) (by simp) ?_
    refine AllReadyH.cons rfl (fun K hK => ?_) (AllReadyH.cons rfl (fun K hK => ?_) AllReadyH.nil)
    · have e4 := (HBX.out.mod HM3.out (by omega)).cell 4
      simp only [lqt, lqz, lqs] at e4
      (try simp only [lgt, lgz, lgs])
      go_simp
      refine hK.out _ _ hHeld (fun hHeld => ?_)
      clear hK K
      (try simp only [Act.put, lgt, lgz, lgs, lst, lsz, lss])
      refine wpAnyH_take (i := 4) (v := ?_) rfl (by kernel_rfl) (by kernel_rfl) (by kernel_rfl) (fun _ _ _ h => h) (Or.inl ⟨by rfl, fun W hSw => ?_⟩) (by assumption) ?_
      rotate_left
      · (have hq := HSX.out W hSw); (try simp only [lgt, lgz, lgs]); go_simp; any_goals (with_reducible rfl)
      simp only [Act.put, lgt, lgz, lgs, lst, lsz, lss]
      clear e4
      refine wpAnyH_ready (rs := [5]) (by kernel_rfl) (by simp) ?_
      refine AllReadyH.cons rfl (fun K hK => ?_) AllReadyH.nil
      -- the zero element, behind the call
      (try simp only [lgt, lgz, lgs])
      go_simp
      have HM4 : Hid (Only b w (w3.alloc (.cells #[.int .i64 0, .bool false, .int .i64 0, .string ⟨#[]⟩, .slice none 0 0, .slice none 0 0] 30))) := hId (HM3.out.alloc _)
      have HZB : Hid (Blk (w3.alloc (.cells #[.int .i64 0, .bool false, .int .i64 0, .string ⟨#[]⟩, .slice none 0 0, .slice none 0 0] 30)) w3.heap.size 30 (encL 6 VA.enc VA.zero).toArray) := hId (Blk.new w3 _ _)
      have HOR4 : Hid ((∃ v, i < j ∧ Blk (w3.alloc (.cells #[.int .i64 0, .bool false, .int .i64 0, .string ⟨#[]⟩, .slice none 0 0, .slice none 0 0] 30)) b 53 (RRc s j (-1)) ∧ Tree (w3.alloc (.cells #[.int .i64 0, .bool false, .int .i64 0, .string ⟨#[]⟩, .slice none 0 0, .slice none 0 0] 30)) (fun g => vb < g ∧ blkOf la ≠ some g) j ⟨xk, xf, xn, xw, xla, xln, xlc, xma, xmn, xmc⟩ v ∧ ∀ st, Leads s.data.toList (.run true st i) (putS st v j)) ∨ (∃ p : Nat, Blk (w3.alloc (.cells #[.int .i64 0, .bool false, .int .i64 0, .string ⟨#[]⟩, .slice none 0 0, .slice none 0 0] 30)) b 53 (RRc s j (p : Int)) ∧ ∀ st, Leads s.data.toList (.run true st i) (.bad p))) := hId (by
        have hn : New w3 (w3.alloc (.cells #[.int .i64 0, .bool false, .int .i64 0, .string ⟨#[]⟩, .slice none 0 0, .slice none 0 0] 30)) := (Mod.refl _ _).alloc _
        rcases HOR.out with ⟨v, h1, h2, h3, h4⟩ | ⟨p, h2, h4⟩
        · exact .inl ⟨v, h1, h2.mod hn (fun e => e), h3.new hn, h4⟩
        · exact .inr ⟨p, h2.mod hn (fun e => e), h4⟩)
      refine hK.out _ _ (HM4.out.mono (fun k _ e => .inl e)) (fun hHeld => ?_)
      clear hK K HOR HM3
      (try simp only [Act.put, lgt, lgz, lgs, lst, lsz, lss])
      have HOR := HOR4
      have HM3 := HM4
      clear HOR4 HM4
      generalize w3.alloc (.cells #[.int .i64 0, .bool false, .int .i64 0, .string ⟨#[]⟩, .slice none 0 0, .slice none 0 0] 30) = w4 at *
      generalize w3.heap.size = zb at *
      have own2 := HKV.out.own.mod HM3.out (fun g hg e => by have := (HKV.out.own.far' g hg).1; omega)
      refine wpAnyH_ready (rs := [6]) (by kernel_rfl) (by simp) ?_
      refine AllReadyH.cons rfl (fun K hK => ?_) AllReadyH.nil
      rw [if_pos (by rfl)]
      have HZZ : Hid (vb + 1 ≤ w4.heap.size) := hId (Nat.le_trans HBX.out.lt HM3.out.size)
      refine wp_push (.tmp 3) (.tmp 7) _ rfl 88 Tryz.underlying27 einfo_val rfl (by exact own2) VA.zero zb rfl (by exact HZB.out) (fun j hj => VA.one _ j hj) (by omega) (by omega) HZZ.out ?_
      intro g9 cap9 wc own9 hm9 hat9 hlt9
      refine hK.out _ _ ((HM3.out.mono (fun k _ e => Or.inl e)).step hm9 (fun k hk e => .inr (Nat.le_of_lt (HKV.out.own.far' k e).1))) (fun hHeld => ?_)
      clear hK K
      (try simp only [Act.put, lgt, lgz, lgs, lst, lsz, lss])
      have hvl : xs.length = ln := HKV.out.own.1
      have HFLN : Hid (ln < (xs ++ [VA.zero]).length) := hId (by simp; omega)
      have HHS : Hid (Mod (fun k => k = b ∨ vb ≤ k) w wc) := hId hHeld
      have HCELL : Hid (∀ j, j < 6 → wc.cell? ⟨g9, ln * 6 + j, none⟩ = some (VA.zero.enc j)) := hId (fun j hj => by
        obtain ⟨g', o', hA, htb, hc⟩ := own9.sl.2 (by omega)
        injection hA with hA
        injection hA with hA1 hA2
        subst hA1 hA2
        have := hc ln (by simp; omega) j hj
        simpa [← hvl] using this)
      have HROW := hId own9
      have HLT := hId hlt9
      have HG9 : Hid (vb < g9 ∧ (blkOf la = some g9 ∨ g9 = w4.heap.size)) := hId (by
        refine ⟨?_, hat9⟩
        rcases hat9 with h | h
        · have := (own2.far' g9 h).1; omega
        · have := HZZ.out; omega)
      have hvb9 := (HBX.out.mod HM3.out (by omega)).mod hm9 (fun e => by have := (own2.far' _ e).1; omega)
      have HVB := hId hvb9
      have HBB : Hid (Mod (fun k => k = vb ∨ blkOf la = some k) w4 wc) := hId (hm9.mono (fun k _ e => .inr e))
      have HMM : Hid (Only b w w4) := HM3
      have HORP := HOR
      have HSETL : Hid ((xs ++ [VA.zero]).set ln (⟨xk, xf, xn, xw, xla, xln, xlc, xma, xmn, xmc⟩ : VA) = xs ++ [⟨xk, xf, xn, xw, xla, xln, xlc, xma, xmn, xmc⟩]) := hId (by simp [← hvl])
      clear own2 own9 hm9 hat9 hlt9 HZB HM3 hvl hvb9
      have g0 : (0 : Int) ≤ (ln : Int) := by omega
      have g1 : (ln : Int) < (ln : Int) + 1 := by omega
      generalize w4 = wp at *
      refine wpAnyH_take (i := 7) (v := ?_) rfl (by kernel_rfl) (by kernel_rfl) (by kernel_rfl) (fun _ _ _ h => h) (Or.inl ⟨by rfl, fun W hSw => ?_⟩) (by assumption) ?_
      rotate_left
      · (have hq := HSX.out W hSw); (try simp only [lgt, lgz, lgs]); go_simp; any_goals (with_reducible rfl)
      simp only [Act.put, lgt, lgz, lgs, lst, lsz, lss]
      refine wpAnyH_take (i := 9) (v := ?_) rfl (by kernel_rfl) (by kernel_rfl) (by kernel_rfl) (fun _ _ _ h => h) (Or.inl ⟨by rfl, fun W hSw => ?_⟩) (by assumption) ?_
      rotate_left
      · (have hq := HSX.out W hSw); (try simp only [lgt, lgz, lgs]); go_simp; any_goals (with_reducible rfl)
      simp only [Act.put, lgt, lgz, lgs, lst, lsz, lss]
      refine wpAnyH_ready (rs := [8, 10]) (by kernel_rfl) (by simp) ?_
      refine AllReadyH.cons rfl (fun K hK => ?_) (AllReadyH.cons rfl (fun K hK => ?_) AllReadyH.nil)
      · have c0 := HCELL.out 0 (by decide)
        have c1 := HCELL.out 1 (by decide)
        have c2 := HCELL.out 2 (by decide)
        have c3 := HCELL.out 3 (by decide)
        have c4 := HCELL.out 4 (by decide)
        have c5 := HCELL.out 5 (by decide)
        have f0 := HROW.out.frozen (ln * 6)
        have f1 := HROW.out.frozen (ln * 6 + 1)
        have f2 := HROW.out.frozen (ln * 6 + 2)
        have f3 := HROW.out.frozen (ln * 6 + 3)
        have f4 := HROW.out.frozen (ln * 6 + 4)
        have f5 := HROW.out.frozen (ln * 6 + 5)
        have gl := HLT.out
        simp only [VA.enc, VA.zero, Nat.add_zero] at c0 c1 c2 c3 c4 c5
        (try simp only [lgt, lgz, lgs])
        go_simp
        clear c0 c1 c2 c3 c4 c5 f0 f1 f2 f3 f4 f5 gl
        have hset := HROW.out.set6 (i := ln) HFLN.out (⟨xk, xf, xn, xw, xla, xln, xlc, xma, xmn, xmc⟩ : VA)
        simp only [VA.enc] at hset
        have hms : Only g9 wc ((((((wc.setCell ⟨g9, ln * 6, none⟩ (.int .i64 xk)).setCell ⟨g9, ln * 6 + 1, none⟩ (.bool xf)).setCell ⟨g9, ln * 6 + 2, none⟩ (.int .i64 xn)).setCell ⟨g9, ln * 6 + 3, none⟩ (.string xw)).setCell ⟨g9, ln * 6 + 4, none⟩ (.slice xla xln xlc)).setCell ⟨g9, ln * 6 + 5, none⟩ (.slice xma xmn xmc)) := by
          with_reducible repeat (first | exact Mod.refl _ _ | refine Only.set ?_ _ _)
        have HSET := hId hset
        have HMS := hId hms
        clear hset hms
        generalize ((((((wc.setCell ⟨g9, ln * 6, none⟩ (.int .i64 xk)).setCell ⟨g9, ln * 6 + 1, none⟩ (.bool xf)).setCell ⟨g9, ln * 6 + 2, none⟩ (.int .i64 xn)).setCell ⟨g9, ln * 6 + 3, none⟩ (.string xw)).setCell ⟨g9, ln * 6 + 4, none⟩ (.slice xla xln xlc)).setCell ⟨g9, ln * 6 + 5, none⟩ (.slice xma xmn xmc)) = wd at *
        refine hK.out _ _ (HHS.out.step HMS.out (fun k _ e => by subst e; exact .inr (Nat.le_of_lt HG9.out.1))) (fun hHeld => ?_)
        clear hK K
        (try simp only [Act.put, lgt, lgz, lgs, lst, lsz, lss])
        have HROW1 := HSET
        have HHS1 : Hid (Mod (fun k => k = b ∨ vb ≤ k) w wd) := hId hHeld
        have HVB2 := hId (HVB.out.mod HMS.out (fun e => by have h7 := HG9.out.1; have h8 : vb = g9 := e; omega))
        have HBB2 : Hid (Mod (fun k => k = vb ∨ blkOf la = some k) wp wd) := hId (HBB.out.step HMS.out (fun k hk e => by
          subst e
          rcases HG9.out.2 with h | h
          · exact .inr h
          · omega))
        have HMM2 := HMM
        have HLT2 : Hid (g9 < wd.heap.size) := hId (Nat.lt_of_lt_of_le HLT.out HMS.out.size)
        clear HROW HHS HVB HBB HMM HLT HSET HCELL
        have HROW := HROW1
        have HHS := HHS1
        have HVB := HVB2
        have HBB := HBB2
        have HMM := HMM2
        have HLT := HLT2
        clear HROW1 HHS1 HVB2 HBB2 HMM2 HLT2
        refine wpAnyH_ready (rs := [10]) (by kernel_rfl) (by simp) ?_
        refine AllReadyH.cons rfl (fun K hK => ?_) AllReadyH.nil
        have o4c := HVB.out.cell 4
        have o4f := HVB.out.frozen 4
        have o4l := HVB.out.lt
        simp only [lqt, lqz, lqs] at o4c
        (try simp only [lgt, lgz, lgs])
        go_simp
        clear o4c o4f o4l
        have HMS : Hid (Only vb wd (wd.setCell ⟨vb, 4, none⟩ (.slice (some ⟨g9, 0, none⟩) (ln + 1) cap9))) := hId ((Mod.refl (fun k => k = vb) wd).setCell (p := ⟨vb, 4, none⟩) (.inl rfl) _)
        refine hK.out _ _ (HHS.out.step HMS.out (fun k _ e => by subst e; exact .inr (Nat.le_refl _))) (fun hHeld => ?_)
        clear hK K
        (try simp only [Act.put, lgt, lgz, lgs, lst, lsz, lss])
        have HVB2 := hId (HVB.out.set 4 (.slice (some ⟨g9, 0, none⟩) (ln + 1) cap9))
        have HROW1 := hId (HROW.out.mod HMS.out (fun k e e2 => by have h7 := HG9.out.1; injection e with e; have h8 : g9 = k := e; have h9 : k = vb := e2; omega))
        have HBB2 : Hid (Mod (fun k => k = vb ∨ blkOf la = some k) wp (wd.setCell ⟨vb, 4, none⟩ (.slice (some ⟨g9, 0, none⟩) (ln + 1) cap9))) := hId (HBB.out.step HMS.out (fun k hk e => .inl e))
        have HMM2 := HMM
        have HLT2 : Hid (g9 < (wd.setCell ⟨vb, 4, none⟩ (.slice (some ⟨g9, 0, none⟩) (ln + 1) cap9)).heap.size) := hId (Nat.lt_of_lt_of_le HLT.out HMS.out.size)
        have HHS1 := hId hHeld
        have HROW := HROW1
        have HHS := HHS1
        have HVB := HVB2
        have HBB := HBB2
        have HMM := HMM2
        have HLT := HLT2
        clear HROW1 HHS1 HVB2 HBB2 HMM2 HLT2
        refine wpAnyH_done (by kernel_rfl) ?_ _
        clear hHeld
        go_wp2_with fail
        go_end0
        have hrow := HROW.out
        rw [HSETL.out] at hrow
        exact item1_fin (by omega) (by omega) HF.out HFO.out HBA.out HKV.out HMM.out hj HORP.out HBB.out hrow HG9.out HVB.out HHS.out
      · have o4c := HVB.out.cell 4
        have o4f := HVB.out.frozen 4
        have o4l := HVB.out.lt
        simp only [lqt, lqz, lqs] at o4c
        (try simp only [lgt, lgz, lgs])
        go_simp
        clear o4c o4f o4l
        have HMS : Hid (Only vb wc (wc.setCell ⟨vb, 4, none⟩ (.slice (some ⟨g9, 0, none⟩) (ln + 1) cap9))) := hId ((Mod.refl (fun k => k = vb) wc).setCell (p := ⟨vb, 4, none⟩) (.inl rfl) _)
        refine hK.out _ _ (HHS.out.step HMS.out (fun k _ e => by subst e; exact .inr (Nat.le_refl _))) (fun hHeld => ?_)
        clear hK K
        (try simp only [Act.put, lgt, lgz, lgs, lst, lsz, lss])
        have HVB2 := hId (HVB.out.set 4 (.slice (some ⟨g9, 0, none⟩) (ln + 1) cap9))
        have HROW1 := hId (HROW.out.mod HMS.out (fun k e e2 => by have h7 := HG9.out.1; injection e with e; have h8 : g9 = k := e; have h9 : k = vb := e2; omega))
        have HBB2 : Hid (Mod (fun k => k = vb ∨ blkOf la = some k) wp (wc.setCell ⟨vb, 4, none⟩ (.slice (some ⟨g9, 0, none⟩) (ln + 1) cap9))) := hId (HBB.out.step HMS.out (fun k hk e => .inl e))
        have HMM2 := HMM
        have HLT2 : Hid (g9 < (wc.setCell ⟨vb, 4, none⟩ (.slice (some ⟨g9, 0, none⟩) (ln + 1) cap9)).heap.size) := hId (Nat.lt_of_lt_of_le HLT.out HMS.out.size)
        have HHS1 := hId hHeld
        have HCELL := hId (fun j hj => (HMS.out.cell (p := ⟨g9, ln * 6 + j, none⟩) HLT.out (fun e => by have := HG9.out.1; have e2 : g9 = vb := e; omega)).trans (HCELL.out j hj))
        have HROW := HROW1
        have HHS := HHS1
        have HVB := HVB2
        have HBB := HBB2
        have HMM := HMM2
        have HLT := HLT2
        clear HROW1 HHS1 HVB2 HBB2 HMM2 HLT2
        generalize wc.setCell ⟨vb, 4, none⟩ (.slice (some ⟨g9, 0, none⟩) (ln + 1) cap9) = we at *
        clear hHeld
        have hHeld := HHS.out
        refine wpAnyH_ready (rs := [8]) (by kernel_rfl) (by simp) ?_
        refine AllReadyH.cons rfl (fun K hK => ?_) AllReadyH.nil
        have c0 := HCELL.out 0 (by decide)
        have c1 := HCELL.out 1 (by decide)
        have c2 := HCELL.out 2 (by decide)
        have c3 := HCELL.out 3 (by decide)
        have c4 := HCELL.out 4 (by decide)
        have c5 := HCELL.out 5 (by decide)
        have f0 := HROW.out.frozen (ln * 6)
        have f1 := HROW.out.frozen (ln * 6 + 1)
        have f2 := HROW.out.frozen (ln * 6 + 2)
        have f3 := HROW.out.frozen (ln * 6 + 3)
        have f4 := HROW.out.frozen (ln * 6 + 4)
        have f5 := HROW.out.frozen (ln * 6 + 5)
        have gl := HLT.out
        simp only [VA.enc, VA.zero, Nat.add_zero] at c0 c1 c2 c3 c4 c5
        (try simp only [lgt, lgz, lgs])
        go_simp
        clear c0 c1 c2 c3 c4 c5 f0 f1 f2 f3 f4 f5 gl
        have hset := HROW.out.set6 (i := ln) HFLN.out (⟨xk, xf, xn, xw, xla, xln, xlc, xma, xmn, xmc⟩ : VA)
        simp only [VA.enc] at hset
        have hms : Only g9 we ((((((we.setCell ⟨g9, ln * 6, none⟩ (.int .i64 xk)).setCell ⟨g9, ln * 6 + 1, none⟩ (.bool xf)).setCell ⟨g9, ln * 6 + 2, none⟩ (.int .i64 xn)).setCell ⟨g9, ln * 6 + 3, none⟩ (.string xw)).setCell ⟨g9, ln * 6 + 4, none⟩ (.slice xla xln xlc)).setCell ⟨g9, ln * 6 + 5, none⟩ (.slice xma xmn xmc)) := by
          with_reducible repeat (first | exact Mod.refl _ _ | refine Only.set ?_ _ _)
        have HSET := hId hset
        have HMS := hId hms
        clear hset hms
        generalize ((((((we.setCell ⟨g9, ln * 6, none⟩ (.int .i64 xk)).setCell ⟨g9, ln * 6 + 1, none⟩ (.bool xf)).setCell ⟨g9, ln * 6 + 2, none⟩ (.int .i64 xn)).setCell ⟨g9, ln * 6 + 3, none⟩ (.string xw)).setCell ⟨g9, ln * 6 + 4, none⟩ (.slice xla xln xlc)).setCell ⟨g9, ln * 6 + 5, none⟩ (.slice xma xmn xmc)) = wd at *
        refine hK.out _ _ (HHS.out.step HMS.out (fun k _ e => by subst e; exact .inr (Nat.le_of_lt HG9.out.1))) (fun hHeld => ?_)
        clear hK K
        (try simp only [Act.put, lgt, lgz, lgs, lst, lsz, lss])
        have HROW1 := HSET
        have HHS1 : Hid (Mod (fun k => k = b ∨ vb ≤ k) w wd) := hId hHeld
        have HVB2 := hId (HVB.out.mod HMS.out (fun e => by have h7 := HG9.out.1; have h8 : vb = g9 := e; omega))
        have HBB2 : Hid (Mod (fun k => k = vb ∨ blkOf la = some k) wp wd) := hId (HBB.out.step HMS.out (fun k hk e => by
          subst e
          rcases HG9.out.2 with h | h
          · exact .inr h
          · omega))
        have HMM2 := HMM
        have HLT2 : Hid (g9 < wd.heap.size) := hId (Nat.lt_of_lt_of_le HLT.out HMS.out.size)
        clear HROW HHS HVB HBB HMM HLT HSET HCELL
        have HROW := HROW1
        have HHS := HHS1
        have HVB := HVB2
        have HBB := HBB2
        have HMM := HMM2
        have HLT := HLT2
        clear HROW1 HHS1 HVB2 HBB2 HMM2 HLT2
        refine wpAnyH_done (by kernel_rfl) ?_ _
        clear hHeld
        go_wp2_with fail
        go_end0
        have hrow := HROW.out
        rw [HSETL.out] at hrow
        exact item1_fin (by omega) (by omega) HF.out HFO.out HBA.out HKV.out HMM.out hj HORP.out HBB.out hrow HG9.out HVB.out HHS.out
    · -- the zero element, behind the call
      (try simp only [lgt, lgz, lgs])
      go_simp
      have HM4 : Hid (Only b w (w3.alloc (.cells #[.int .i64 0, .bool false, .int .i64 0, .string ⟨#[]⟩, .slice none 0 0, .slice none 0 0] 30))) := hId (HM3.out.alloc _)
      have HZB : Hid (Blk (w3.alloc (.cells #[.int .i64 0, .bool false, .int .i64 0, .string ⟨#[]⟩, .slice none 0 0, .slice none 0 0] 30)) w3.heap.size 30 (encL 6 VA.enc VA.zero).toArray) := hId (Blk.new w3 _ _)
      have HOR4 : Hid ((∃ v, i < j ∧ Blk (w3.alloc (.cells #[.int .i64 0, .bool false, .int .i64 0, .string ⟨#[]⟩, .slice none 0 0, .slice none 0 0] 30)) b 53 (RRc s j (-1)) ∧ Tree (w3.alloc (.cells #[.int .i64 0, .bool false, .int .i64 0, .string ⟨#[]⟩, .slice none 0 0, .slice none 0 0] 30)) (fun g => vb < g ∧ blkOf la ≠ some g) j ⟨xk, xf, xn, xw, xla, xln, xlc, xma, xmn, xmc⟩ v ∧ ∀ st, Leads s.data.toList (.run true st i) (putS st v j)) ∨ (∃ p : Nat, Blk (w3.alloc (.cells #[.int .i64 0, .bool false, .int .i64 0, .string ⟨#[]⟩, .slice none 0 0, .slice none 0 0] 30)) b 53 (RRc s j (p : Int)) ∧ ∀ st, Leads s.data.toList (.run true st i) (.bad p))) := hId (by
        have hn : New w3 (w3.alloc (.cells #[.int .i64 0, .bool false, .int .i64 0, .string ⟨#[]⟩, .slice none 0 0, .slice none 0 0] 30)) := (Mod.refl _ _).alloc _
        rcases HOR.out with ⟨v, h1, h2, h3, h4⟩ | ⟨p, h2, h4⟩
        · exact .inl ⟨v, h1, h2.mod hn (fun e => e), h3.new hn, h4⟩
        · exact .inr ⟨p, h2.mod hn (fun e => e), h4⟩)
      refine hK.out _ _ (HM4.out.mono (fun k _ e => .inl e)) (fun hHeld => ?_)
      clear hK K HOR HM3
      (try simp only [Act.put, lgt, lgz, lgs, lst, lsz, lss])
      have HOR := HOR4
      have HM3 := HM4
      clear HOR4 HM4
      generalize w3.alloc (.cells #[.int .i64 0, .bool false, .int .i64 0, .string ⟨#[]⟩, .slice none 0 0, .slice none 0 0] 30) = w4 at *
      generalize w3.heap.size = zb at *
      have e4 := (HBX.out.mod HM3.out (by omega)).cell 4
      simp only [lqt, lqz, lqs] at e4
      refine wpAnyH_ready (rs := [1]) (by kernel_rfl) (by simp) ?_
      refine AllReadyH.cons rfl (fun K hK => ?_) AllReadyH.nil
      (try simp only [lgt, lgz, lgs])
      go_simp
      refine hK.out _ _ hHeld (fun hHeld => ?_)
      clear hK K
      (try simp only [Act.put, lgt, lgz, lgs, lst, lsz, lss])
      refine wpAnyH_take (i := 4) (v := ?_) rfl (by kernel_rfl) (by kernel_rfl) (by kernel_rfl) (fun _ _ _ h => h) (Or.inl ⟨by rfl, fun W hSw => ?_⟩) (by assumption) ?_
      rotate_left
      · (have hq := HSX.out W hSw); (try simp only [lgt, lgz, lgs]); go_simp; any_goals (with_reducible rfl)
      simp only [Act.put, lgt, lgz, lgs, lst, lsz, lss]
      clear e4
      have own2 := HKV.out.own.mod HM3.out (fun g hg e => by have := (HKV.out.own.far' g hg).1; omega)
      refine wpAnyH_ready (rs := [6]) (by kernel_rfl) (by simp) ?_
      refine AllReadyH.cons rfl (fun K hK => ?_) AllReadyH.nil
      rw [if_pos (by rfl)]
      have HZZ : Hid (vb + 1 ≤ w4.heap.size) := hId (Nat.le_trans HBX.out.lt HM3.out.size)
      refine wp_push (.tmp 3) (.tmp 7) _ rfl 88 Tryz.underlying27 einfo_val rfl (by exact own2) VA.zero zb rfl (by exact HZB.out) (fun j hj => VA.one _ j hj) (by omega) (by omega) HZZ.out ?_
      intro g9 cap9 wc own9 hm9 hat9 hlt9
      refine hK.out _ _ ((HM3.out.mono (fun k _ e => Or.inl e)).step hm9 (fun k hk e => .inr (Nat.le_of_lt (HKV.out.own.far' k e).1))) (fun hHeld => ?_)
      clear hK K
      (try simp only [Act.put, lgt, lgz, lgs, lst, lsz, lss])
      have hvl : xs.length = ln := HKV.out.own.1
      have HFLN : Hid (ln < (xs ++ [VA.zero]).length) := hId (by simp; omega)
      have HHS : Hid (Mod (fun k => k = b ∨ vb ≤ k) w wc) := hId hHeld
      have HCELL : Hid (∀ j, j < 6 → wc.cell? ⟨g9, ln * 6 + j, none⟩ = some (VA.zero.enc j)) := hId (fun j hj => by
        obtain ⟨g', o', hA, htb, hc⟩ := own9.sl.2 (by omega)
        injection hA with hA
        injection hA with hA1 hA2
        subst hA1 hA2
        have := hc ln (by simp; omega) j hj
        simpa [← hvl] using this)
      have HROW := hId own9
      have HLT := hId hlt9
      have HG9 : Hid (vb < g9 ∧ (blkOf la = some g9 ∨ g9 = w4.heap.size)) := hId (by
        refine ⟨?_, hat9⟩
        rcases hat9 with h | h
        · have := (own2.far' g9 h).1; omega
        · have := HZZ.out; omega)
      have hvb9 := (HBX.out.mod HM3.out (by omega)).mod hm9 (fun e => by have := (own2.far' _ e).1; omega)
      have HVB := hId hvb9
      have HBB : Hid (Mod (fun k => k = vb ∨ blkOf la = some k) w4 wc) := hId (hm9.mono (fun k _ e => .inr e))
      have HMM : Hid (Only b w w4) := HM3
      have HORP := HOR
      have HSETL : Hid ((xs ++ [VA.zero]).set ln (⟨xk, xf, xn, xw, xla, xln, xlc, xma, xmn, xmc⟩ : VA) = xs ++ [⟨xk, xf, xn, xw, xla, xln, xlc, xma, xmn, xmc⟩]) := hId (by simp [← hvl])
      clear own2 own9 hm9 hat9 hlt9 HZB HM3 hvl hvb9
      have g0 : (0 : Int) ≤ (ln : Int) := by omega
      have g1 : (ln : Int) < (ln : Int) + 1 := by omega
      generalize w4 = wp at *
      refine wpAnyH_take (i := 7) (v := ?_) rfl (by kernel_rfl) (by kernel_rfl) (by kernel_rfl) (fun _ _ _ h => h) (Or.inl ⟨by rfl, fun W hSw => ?_⟩) (by assumption) ?_
      rotate_left
      · (have hq := HSX.out W hSw); (try simp only [lgt, lgz, lgs]); go_simp; any_goals (with_reducible rfl)
      simp only [Act.put, lgt, lgz, lgs, lst, lsz, lss]
      refine wpAnyH_take (i := 9) (v := ?_) rfl (by kernel_rfl) (by kernel_rfl) (by kernel_rfl) (fun _ _ _ h => h) (Or.inl ⟨by rfl, fun W hSw => ?_⟩) (by assumption) ?_
      rotate_left
      · (have hq := HSX.out W hSw); (try simp only [lgt, lgz, lgs]); go_simp; any_goals (with_reducible rfl)
      simp only [Act.put, lgt, lgz, lgs, lst, lsz, lss]
      refine wpAnyH_ready (rs := [8, 10]) (by kernel_rfl) (by simp) ?_
      refine AllReadyH.cons rfl (fun K hK => ?_) (AllReadyH.cons rfl (fun K hK => ?_) AllReadyH.nil)
      · have c0 := HCELL.out 0 (by decide)
        have c1 := HCELL.out 1 (by decide)
        have c2 := HCELL.out 2 (by decide)
        have c3 := HCELL.out 3 (by decide)
        have c4 := HCELL.out 4 (by decide)
        have c5 := HCELL.out 5 (by decide)
        have f0 := HROW.out.frozen (ln * 6)
        have f1 := HROW.out.frozen (ln * 6 + 1)
        have f2 := HROW.out.frozen (ln * 6 + 2)
        have f3 := HROW.out.frozen (ln * 6 + 3)
        have f4 := HROW.out.frozen (ln * 6 + 4)
        have f5 := HROW.out.frozen (ln * 6 + 5)
        have gl := HLT.out
        simp only [VA.enc, VA.zero, Nat.add_zero] at c0 c1 c2 c3 c4 c5
        (try simp only [lgt, lgz, lgs])
        go_simp
        clear c0 c1 c2 c3 c4 c5 f0 f1 f2 f3 f4 f5 gl
        have hset := HROW.out.set6 (i := ln) HFLN.out (⟨xk, xf, xn, xw, xla, xln, xlc, xma, xmn, xmc⟩ : VA)
        simp only [VA.enc] at hset
        have hms : Only g9 wc ((((((wc.setCell ⟨g9, ln * 6, none⟩ (.int .i64 xk)).setCell ⟨g9, ln * 6 + 1, none⟩ (.bool xf)).setCell ⟨g9, ln * 6 + 2, none⟩ (.int .i64 xn)).setCell ⟨g9, ln * 6 + 3, none⟩ (.string xw)).setCell ⟨g9, ln * 6 + 4, none⟩ (.slice xla xln xlc)).setCell ⟨g9, ln * 6 + 5, none⟩ (.slice xma xmn xmc)) := by
          with_reducible repeat (first | exact Mod.refl _ _ | refine Only.set ?_ _ _)
        have HSET := hId hset
        have HMS := hId hms
        clear hset hms
        generalize ((((((wc.setCell ⟨g9, ln * 6, none⟩ (.int .i64 xk)).setCell ⟨g9, ln * 6 + 1, none⟩ (.bool xf)).setCell ⟨g9, ln * 6 + 2, none⟩ (.int .i64 xn)).setCell ⟨g9, ln * 6 + 3, none⟩ (.string xw)).setCell ⟨g9, ln * 6 + 4, none⟩ (.slice xla xln xlc)).setCell ⟨g9, ln * 6 + 5, none⟩ (.slice xma xmn xmc)) = wd at *
        refine hK.out _ _ (HHS.out.step HMS.out (fun k _ e => by subst e; exact .inr (Nat.le_of_lt HG9.out.1))) (fun hHeld => ?_)
        clear hK K
        (try simp only [Act.put, lgt, lgz, lgs, lst, lsz, lss])
        have HROW1 := HSET
        have HHS1 : Hid (Mod (fun k => k = b ∨ vb ≤ k) w wd) := hId hHeld
        have HVB2 := hId (HVB.out.mod HMS.out (fun e => by have h7 := HG9.out.1; have h8 : vb = g9 := e; omega))
        have HBB2 : Hid (Mod (fun k => k = vb ∨ blkOf la = some k) wp wd) := hId (HBB.out.step HMS.out (fun k hk e => by
          subst e
          rcases HG9.out.2 with h | h
          · exact .inr h
          · omega))
        have HMM2 := HMM
        have HLT2 : Hid (g9 < wd.heap.size) := hId (Nat.lt_of_lt_of_le HLT.out HMS.out.size)
        clear HROW HHS HVB HBB HMM HLT HSET HCELL
        have HROW := HROW1
        have HHS := HHS1
        have HVB := HVB2
        have HBB := HBB2
        have HMM := HMM2
        have HLT := HLT2
        clear HROW1 HHS1 HVB2 HBB2 HMM2 HLT2
        refine wpAnyH_ready (rs := [10]) (by kernel_rfl) (by simp) ?_
        refine AllReadyH.cons rfl (fun K hK => ?_) AllReadyH.nil
        have o4c := HVB.out.cell 4
        have o4f := HVB.out.frozen 4
        have o4l := HVB.out.lt
        simp only [lqt, lqz, lqs] at o4c
        (try simp only [lgt, lgz, lgs])
        go_simp
        clear o4c o4f o4l
        have HMS : Hid (Only vb wd (wd.setCell ⟨vb, 4, none⟩ (.slice (some ⟨g9, 0, none⟩) (ln + 1) cap9))) := hId ((Mod.refl (fun k => k = vb) wd).setCell (p := ⟨vb, 4, none⟩) (.inl rfl) _)
        refine hK.out _ _ (HHS.out.step HMS.out (fun k _ e => by subst e; exact .inr (Nat.le_refl _))) (fun hHeld => ?_)
        clear hK K
        (try simp only [Act.put, lgt, lgz, lgs, lst, lsz, lss])
        have HVB2 := hId (HVB.out.set 4 (.slice (some ⟨g9, 0, none⟩) (ln + 1) cap9))
        have HROW1 := hId (HROW.out.mod HMS.out (fun k e e2 => by have h7 := HG9.out.1; injection e with e; have h8 : g9 = k := e; have h9 : k = vb := e2; omega))
        have HBB2 : Hid (Mod (fun k => k = vb ∨ blkOf la = some k) wp (wd.setCell ⟨vb, 4, none⟩ (.slice (some ⟨g9, 0, none⟩) (ln + 1) cap9))) := hId (HBB.out.step HMS.out (fun k hk e => .inl e))
        have HMM2 := HMM
        have HLT2 : Hid (g9 < (wd.setCell ⟨vb, 4, none⟩ (.slice (some ⟨g9, 0, none⟩) (ln + 1) cap9)).heap.size) := hId (Nat.lt_of_lt_of_le HLT.out HMS.out.size)
        have HHS1 := hId hHeld
        have HROW := HROW1
        have HHS := HHS1
        have HVB := HVB2
        have HBB := HBB2
        have HMM := HMM2
        have HLT := HLT2
        clear HROW1 HHS1 HVB2 HBB2 HMM2 HLT2
        refine wpAnyH_done (by kernel_rfl) ?_ _
        clear hHeld
        go_wp2_with fail
        go_end0
        have hrow := HROW.out
        rw [HSETL.out] at hrow
        exact item1_fin (by omega) (by omega) HF.out HFO.out HBA.out HKV.out HMM.out hj HORP.out HBB.out hrow HG9.out HVB.out HHS.out
      · have o4c := HVB.out.cell 4
        have o4f := HVB.out.frozen 4
        have o4l := HVB.out.lt
        simp only [lqt, lqz, lqs] at o4c
        (try simp only [lgt, lgz, lgs])
        go_simp
        clear o4c o4f o4l
        have HMS : Hid (Only vb wc (wc.setCell ⟨vb, 4, none⟩ (.slice (some ⟨g9, 0, none⟩) (ln + 1) cap9))) := hId ((Mod.refl (fun k => k = vb) wc).setCell (p := ⟨vb, 4, none⟩) (.inl rfl) _)
        refine hK.out _ _ (HHS.out.step HMS.out (fun k _ e => by subst e; exact .inr (Nat.le_refl _))) (fun hHeld => ?_)
        clear hK K
        (try simp only [Act.put, lgt, lgz, lgs, lst, lsz, lss])
        have HVB2 := hId (HVB.out.set 4 (.slice (some ⟨g9, 0, none⟩) (ln + 1) cap9))
        have HROW1 := hId (HROW.out.mod HMS.out (fun k e e2 => by have h7 := HG9.out.1; injection e with e; have h8 : g9 = k := e; have h9 : k = vb := e2; omega))
        have HBB2 : Hid (Mod (fun k => k = vb ∨ blkOf la = some k) wp (wc.setCell ⟨vb, 4, none⟩ (.slice (some ⟨g9, 0, none⟩) (ln + 1) cap9))) := hId (HBB.out.step HMS.out (fun k hk e => .inl e))
        have HMM2 := HMM
        have HLT2 : Hid (g9 < (wc.setCell ⟨vb, 4, none⟩ (.slice (some ⟨g9, 0, none⟩) (ln + 1) cap9)).heap.size) := hId (Nat.lt_of_lt_of_le HLT.out HMS.out.size)
        have HHS1 := hId hHeld
        have HCELL := hId (fun j hj => (HMS.out.cell (p := ⟨g9, ln * 6 + j, none⟩) HLT.out (fun e => by have := HG9.out.1; have e2 : g9 = vb := e; omega)).trans (HCELL.out j hj))
        have HROW := HROW1
        have HHS := HHS1
        have HVB := HVB2
        have HBB := HBB2
        have HMM := HMM2
        have HLT := HLT2
        clear HROW1 HHS1 HVB2 HBB2 HMM2 HLT2
        generalize wc.setCell ⟨vb, 4, none⟩ (.slice (some ⟨g9, 0, none⟩) (ln + 1) cap9) = we at *
        clear hHeld
        have hHeld := HHS.out
        refine wpAnyH_ready (rs := [8]) (by kernel_rfl) (by simp) ?_
        refine AllReadyH.cons rfl (fun K hK => ?_) AllReadyH.nil
        have c0 := HCELL.out 0 (by decide)
        have c1 := HCELL.out 1 (by decide)
        have c2 := HCELL.out 2 (by decide)
        have c3 := HCELL.out 3 (by decide)
        have c4 := HCELL.out 4 (by decide)
        have c5 := HCELL.out 5 (by decide)
        have f0 := HROW.out.frozen (ln * 6)
        have f1 := HROW.out.frozen (ln * 6 + 1)
        have f2 := HROW.out.frozen (ln * 6 + 2)
        have f3 := HROW.out.frozen (ln * 6 + 3)
        have f4 := HROW.out.frozen (ln * 6 + 4)
        have f5 := HROW.out.frozen (ln * 6 + 5)
        have gl := HLT.out
        simp only [VA.enc, VA.zero, Nat.add_zero] at c0 c1 c2 c3 c4 c5
        (try simp only [lgt, lgz, lgs])
        go_simp
        clear c0 c1 c2 c3 c4 c5 f0 f1 f2 f3 f4 f5 gl
        have hset := HROW.out.set6 (i := ln) HFLN.out (⟨xk, xf, xn, xw, xla, xln, xlc, xma, xmn, xmc⟩ : VA)
        simp only [VA.enc] at hset
        have hms : Only g9 we ((((((we.setCell ⟨g9, ln * 6, none⟩ (.int .i64 xk)).setCell ⟨g9, ln * 6 + 1, none⟩ (.bool xf)).setCell ⟨g9, ln * 6 + 2, none⟩ (.int .i64 xn)).setCell ⟨g9, ln * 6 + 3, none⟩ (.string xw)).setCell ⟨g9, ln * 6 + 4, none⟩ (.slice xla xln xlc)).setCell ⟨g9, ln * 6 + 5, none⟩ (.slice xma xmn xmc)) := by
          with_reducible repeat (first | exact Mod.refl _ _ | refine Only.set ?_ _ _)
        have HSET := hId hset
        have HMS := hId hms
        clear hset hms
        generalize ((((((we.setCell ⟨g9, ln * 6, none⟩ (.int .i64 xk)).setCell ⟨g9, ln * 6 + 1, none⟩ (.bool xf)).setCell ⟨g9, ln * 6 + 2, none⟩ (.int .i64 xn)).setCell ⟨g9, ln * 6 + 3, none⟩ (.string xw)).setCell ⟨g9, ln * 6 + 4, none⟩ (.slice xla xln xlc)).setCell ⟨g9, ln * 6 + 5, none⟩ (.slice xma xmn xmc)) = wd at *
        refine hK.out _ _ (HHS.out.step HMS.out (fun k _ e => by subst e; exact .inr (Nat.le_of_lt HG9.out.1))) (fun hHeld => ?_)
        clear hK K
        (try simp only [Act.put, lgt, lgz, lgs, lst, lsz, lss])
        have HROW1 := HSET
        have HHS1 : Hid (Mod (fun k => k = b ∨ vb ≤ k) w wd) := hId hHeld
        have HVB2 := hId (HVB.out.mod HMS.out (fun e => by have h7 := HG9.out.1; have h8 : vb = g9 := e; omega))
        have HBB2 : Hid (Mod (fun k => k = vb ∨ blkOf la = some k) wp wd) := hId (HBB.out.step HMS.out (fun k hk e => by
          subst e
          rcases HG9.out.2 with h | h
          · exact .inr h
          · omega))
        have HMM2 := HMM
        have HLT2 : Hid (g9 < wd.heap.size) := hId (Nat.lt_of_lt_of_le HLT.out HMS.out.size)
        clear HROW HHS HVB HBB HMM HLT HSET HCELL
        have HROW := HROW1
        have HHS := HHS1
        have HVB := HVB2
        have HBB := HBB2
        have HMM := HMM2
        have HLT := HLT2
        clear HROW1 HHS1 HVB2 HBB2 HMM2 HLT2
        refine wpAnyH_done (by kernel_rfl) ?_ _
        clear hHeld
        go_wp2_with fail
        go_end0
        have hrow := HROW.out
        rw [HSETL.out] at hrow
        exact item1_fin (by omega) (by omega) HF.out HFO.out HBA.out HKV.out HMM.out hj HORP.out HBB.out hrow HG9.out HVB.out HHS.out
  · clear c4
    -- the zero element, ahead of the call
    (try simp only [lgt, lgz, lgs])
    go_simp
    have HZB0 : Hid (Blk (w.alloc (.cells #[.int .i64 0, .bool false, .int .i64 0, .string ⟨#[]⟩, .slice none 0 0, .slice none 0 0] 30)).drew w.heap.size 30 (encL 6 VA.enc VA.zero).toArray) := hId ((Blk.new w 30 (encL 6 VA.enc VA.zero).toArray).mod (show New (w.alloc (.cells #[.int .i64 0, .bool false, .int .i64 0, .string ⟨#[]⟩, .slice none 0 0, .slice none 0 0] 30)) (w.alloc (.cells #[.int .i64 0, .bool false, .int .i64 0, .string ⟨#[]⟩, .slice none 0 0, .slice none 0 0] 30)).drew from (by with_reducible (repeat (first | exact Mod.refl _ _ | refine Mod.drewN ?_ _ | refine Mod.drew ?_ | refine Mod.alloc ?_ _)))) (fun e => e))
    have HNW : Hid (New w (w.alloc (.cells #[.int .i64 0, .bool false, .int .i64 0, .string ⟨#[]⟩, .slice none 0 0, .slice none 0 0] 30)).drew) := hId (by with_reducible (repeat (first | exact Mod.refl _ _ | refine Mod.drewN ?_ _ | refine Mod.drew ?_ | refine Mod.alloc ?_ _)))
    refine hK.out _ _ (HNW.out.mono (fun _ _ e => e.elim)) (fun hHeld => ?_)
    clear hK K
    (try simp only [Act.put, lgt, lgz, lgs, lst, lsz, lss])
    obtain ⟨zb, hzb⟩ : ∃ zb, w.heap.size = zb := ⟨_, rfl⟩
    rw [hzb] at HZB0
    simp only [hzb]
    have hzn : zb ≠ b := by omega
    generalize (w.alloc (.cells #[.int .i64 0, .bool false, .int .i64 0, .string ⟨#[]⟩, .slice none 0 0, .slice none 0 0] 30)).drew = w2 at *
    clear hzb
    refine wpAnyH_ready (rs := [1, 3]) (by kernel_rfl) (by simp) ?_
    refine AllReadyH.cons rfl (fun K hK => ?_) (AllReadyH.cons rfl (fun K hK => ?_) AllReadyH.nil)
    · have e4 := (HBX.out.mod HNW.out (fun e => e)).cell 4
      simp only [lqt, lqz, lqs] at e4
      (try simp only [lgt, lgz, lgs])
      go_simp
      refine hK.out _ _ hHeld (fun hHeld => ?_)
      clear hK K
      (try simp only [Act.put, lgt, lgz, lgs, lst, lsz, lss])
      refine wpAnyH_take (i := 4) (v := ?_) rfl (by kernel_rfl) (by kernel_rfl) (by kernel_rfl) (fun _ _ _ h => h) (Or.inl ⟨by rfl, fun W hSw => ?_⟩) (by assumption) ?_
      rotate_left
      · (have hq := HSX.out W hSw); (try simp only [lgt, lgz, lgs]); go_simp; any_goals (with_reducible rfl)
      simp only [Act.put, lgt, lgz, lgs, lst, lsz, lss]
      clear e4
      refine wpAnyH_ready (rs := [3]) (by kernel_rfl) (by simp) ?_
      refine AllReadyH.cons rfl (fun K hK => ?_) AllReadyH.nil
      (try simp only [lgt, lgz, lgs])
      go_simp
      refine (HVAL.out _ HNW.out).mono ?_
      rintro e w3 ⟨hm3, A, j, rfl, hj, hor⟩
      obtain ⟨xk, xf, xn, xw, xla, xln, xlc, xma, xmn, xmc⟩ := A
      have HM3 : Hid (Only b w w3) := hId ((HNW.out.mono (fun _ _ e => e.elim)).trans hm3)
      have HS3 : Hid (Mod (fun k => k = b ∨ vb ≤ k) w w3) := hId (HM3.out.mono (fun k _ e => .inl e))
      have HOR : Hid ((∃ v, i < j ∧ Blk w3 b 53 (RRc s j (-1)) ∧ Tree w3 (fun g => vb < g ∧ blkOf la ≠ some g) j ⟨xk, xf, xn, xw, xla, xln, xlc, xma, xmn, xmc⟩ v ∧ ∀ st, Leads s.data.toList (.run true st i) (putS st v j)) ∨ (∃ p : Nat, Blk w3 b 53 (RRc s j (p : Int)) ∧ ∀ st, Leads s.data.toList (.run true st i) (.bad p))) := hId (by
        rcases hor with ⟨v, h1, h2, h3, h4⟩ | h
        · exact .inl ⟨v, h1, h2, h3.adopt (Nat.lt_of_lt_of_le HBX.out.lt HNW.out.size) (fun g hg => Nat.lt_of_lt_of_le (HKV.out.own.far' g hg).2.1 HNW.out.size), h4⟩
        · exact .inr h)
      have hmz := hId hm3
      clear hm3 hor
      simp only [VA.val]
      go_wp2_with fail
      refine hK.out _ _ HS3.out (fun hHeld => ?_)
      clear hK K
      (try simp only [Act.put, lgt, lgz, lgs, lst, lsz, lss])
      have HZB := hId (HZB0.out.mod hmz.out (fun e => hzn e))
      clear HZB0 hmz
      have own2 := HKV.out.own.mod HM3.out (fun g hg e => by have := (HKV.out.own.far' g hg).1; omega)
      refine wpAnyH_ready (rs := [6]) (by kernel_rfl) (by simp) ?_
      refine AllReadyH.cons rfl (fun K hK => ?_) AllReadyH.nil
      rw [if_pos (by rfl)]
      have HZZ : Hid (vb + 1 ≤ w3.heap.size) := hId (Nat.le_trans HBX.out.lt HM3.out.size)
      refine wp_push (.tmp 3) (.tmp 7) _ rfl 88 Tryz.underlying27 einfo_val rfl (by exact own2) VA.zero zb rfl (by exact HZB.out) (fun j hj => VA.one _ j hj) (by omega) (by omega) HZZ.out ?_
      intro g9 cap9 wc own9 hm9 hat9 hlt9
      refine hK.out _ _ ((HM3.out.mono (fun k _ e => Or.inl e)).step hm9 (fun k hk e => .inr (Nat.le_of_lt (HKV.out.own.far' k e).1))) (fun hHeld => ?_)
      clear hK K
      (try simp only [Act.put, lgt, lgz, lgs, lst, lsz, lss])
      have hvl : xs.length = ln := HKV.out.own.1
      have HFLN : Hid (ln < (xs ++ [VA.zero]).length) := hId (by simp; omega)
      have HHS : Hid (Mod (fun k => k = b ∨ vb ≤ k) w wc) := hId hHeld
      have HCELL : Hid (∀ j, j < 6 → wc.cell? ⟨g9, ln * 6 + j, none⟩ = some (VA.zero.enc j)) := hId (fun j hj => by
        obtain ⟨g', o', hA, htb, hc⟩ := own9.sl.2 (by omega)
        injection hA with hA
        injection hA with hA1 hA2
        subst hA1 hA2
        have := hc ln (by simp; omega) j hj
        simpa [← hvl] using this)
      have HROW := hId own9
      have HLT := hId hlt9
      have HG9 : Hid (vb < g9 ∧ (blkOf la = some g9 ∨ g9 = w3.heap.size)) := hId (by
        refine ⟨?_, hat9⟩
        rcases hat9 with h | h
        · have := (own2.far' g9 h).1; omega
        · have := HZZ.out; omega)
      have hvb9 := (HBX.out.mod HM3.out (by omega)).mod hm9 (fun e => by have := (own2.far' _ e).1; omega)
      have HVB := hId hvb9
      have HBB : Hid (Mod (fun k => k = vb ∨ blkOf la = some k) w3 wc) := hId (hm9.mono (fun k _ e => .inr e))
      have HMM : Hid (Only b w w3) := HM3
      have HORP := HOR
      have HSETL : Hid ((xs ++ [VA.zero]).set ln (⟨xk, xf, xn, xw, xla, xln, xlc, xma, xmn, xmc⟩ : VA) = xs ++ [⟨xk, xf, xn, xw, xla, xln, xlc, xma, xmn, xmc⟩]) := hId (by simp [← hvl])
      clear own2 own9 hm9 hat9 hlt9 HZB HM3 hvl hvb9
      have g0 : (0 : Int) ≤ (ln : Int) := by omega
      have g1 : (ln : Int) < (ln : Int) + 1 := by omega
      generalize w3 = wp at *
      refine wpAnyH_take (i := 7) (v := ?_) rfl (by kernel_rfl) (by kernel_rfl) (by kernel_rfl) (fun _ _ _ h => h) (Or.inl ⟨by rfl, fun W hSw => ?_⟩) (by assumption) ?_
      rotate_left
      · (have hq := HSX.out W hSw); (try simp only [lgt, lgz, lgs]); go_simp; any_goals (with_reducible rfl)
      simp only [Act.put, lgt, lgz, lgs, lst, lsz, lss]
      refine wpAnyH_take (i := 9) (v := ?_) rfl (by kernel_rfl) (by kernel_rfl) (by kernel_rfl) (fun _ _ _ h => h) (Or.inl ⟨by rfl, fun W hSw => ?_⟩) (by assumption) ?_
      rotate_left
      · (have hq := HSX.out W hSw); (try simp only [lgt, lgz, lgs]); go_simp; any_goals (with_reducible rfl)
      simp only [Act.put, lgt, lgz, lgs, lst, lsz, lss]
      refine wpAnyH_ready (rs := [8, 10]) (by kernel_rfl) (by simp) ?_
      refine AllReadyH.cons rfl (fun K hK => ?_) (AllReadyH.cons rfl (fun K hK => ?_) AllReadyH.nil)
      · have c0 := HCELL.out 0 (by decide)
        have c1 := HCELL.out 1 (by decide)
        have c2 := HCELL.out 2 (by decide)
        have c3 := HCELL.out 3 (by decide)
        have c4 := HCELL.out 4 (by decide)
        have c5 := HCELL.out 5 (by decide)
        have f0 := HROW.out.frozen (ln * 6)
        have f1 := HROW.out.frozen (ln * 6 + 1)
        have f2 := HROW.out.frozen (ln * 6 + 2)
        have f3 := HROW.out.frozen (ln * 6 + 3)
        have f4 := HROW.out.frozen (ln * 6 + 4)
        have f5 := HROW.out.frozen (ln * 6 + 5)
        have gl := HLT.out
        simp only [VA.enc, VA.zero, Nat.add_zero] at c0 c1 c2 c3 c4 c5
        (try simp only [lgt, lgz, lgs])
        go_simp
        clear c0 c1 c2 c3 c4 c5 f0 f1 f2 f3 f4 f5 gl
        have hset := HROW.out.set6 (i := ln) HFLN.out (⟨xk, xf, xn, xw, xla, xln, xlc, xma, xmn, xmc⟩ : VA)
        simp only [VA.enc] at hset
        have hms : Only g9 wc ((((((wc.setCell ⟨g9, ln * 6, none⟩ (.int .i64 xk)).setCell ⟨g9, ln * 6 + 1, none⟩ (.bool xf)).setCell ⟨g9, ln * 6 + 2, none⟩ (.int .i64 xn)).setCell ⟨g9, ln * 6 + 3, none⟩ (.string xw)).setCell ⟨g9, ln * 6 + 4, none⟩ (.slice xla xln xlc)).setCell ⟨g9, ln * 6 + 5, none⟩ (.slice xma xmn xmc)) := by
          with_reducible repeat (first | exact Mod.refl _ _ | refine Only.set ?_ _ _)
        have HSET := hId hset
        have HMS := hId hms
        clear hset hms
        generalize ((((((wc.setCell ⟨g9, ln * 6, none⟩ (.int .i64 xk)).setCell ⟨g9, ln * 6 + 1, none⟩ (.bool xf)).setCell ⟨g9, ln * 6 + 2, none⟩ (.int .i64 xn)).setCell ⟨g9, ln * 6 + 3, none⟩ (.string xw)).setCell ⟨g9, ln * 6 + 4, none⟩ (.slice xla xln xlc)).setCell ⟨g9, ln * 6 + 5, none⟩ (.slice xma xmn xmc)) = wd at *
        refine hK.out _ _ (HHS.out.step HMS.out (fun k _ e => by subst e; exact .inr (Nat.le_of_lt HG9.out.1))) (fun hHeld => ?_)
        clear hK K
        (try simp only [Act.put, lgt, lgz, lgs, lst, lsz, lss])
        have HROW1 := HSET
        have HHS1 : Hid (Mod (fun k => k = b ∨ vb ≤ k) w wd) := hId hHeld
        have HVB2 := hId (HVB.out.mod HMS.out (fun e => by have h7 := HG9.out.1; have h8 : vb = g9 := e; omega))
        have HBB2 : Hid (Mod (fun k => k = vb ∨ blkOf la = some k) wp wd) := hId (HBB.out.step HMS.out (fun k hk e => by
          subst e
          rcases HG9.out.2 with h | h
          · exact .inr h
          · omega))
        have HMM2 := HMM
        have HLT2 : Hid (g9 < wd.heap.size) := hId (Nat.lt_of_lt_of_le HLT.out HMS.out.size)
        clear HROW HHS HVB HBB HMM HLT HSET HCELL
        have HROW := HROW1
        have HHS := HHS1
        have HVB := HVB2
        have HBB := HBB2
        have HMM := HMM2
        have HLT := HLT2
        clear HROW1 HHS1 HVB2 HBB2 HMM2 HLT2
        refine wpAnyH_ready (rs := [10]) (by kernel_rfl) (by simp) ?_
        refine AllReadyH.cons rfl (fun K hK => ?_) AllReadyH.nil
        have o4c := HVB.out.cell 4
        have o4f := HVB.out.frozen 4
        have o4l := HVB.out.lt
        simp only [lqt, lqz, lqs] at o4c
        (try simp only [lgt, lgz, lgs])
        go_simp
        clear o4c o4f o4l
        have HMS : Hid (Only vb wd (wd.setCell ⟨vb, 4, none⟩ (.slice (some ⟨g9, 0, none⟩) (ln + 1) cap9))) := hId ((Mod.refl (fun k => k = vb) wd).setCell (p := ⟨vb, 4, none⟩) (.inl rfl) _)
        refine hK.out _ _ (HHS.out.step HMS.out (fun k _ e => by subst e; exact .inr (Nat.le_refl _))) (fun hHeld => ?_)
        clear hK K
        (try simp only [Act.put, lgt, lgz, lgs, lst, lsz, lss])
        have HVB2 := hId (HVB.out.set 4 (.slice (some ⟨g9, 0, none⟩) (ln + 1) cap9))
        have HROW1 := hId (HROW.out.mod HMS.out (fun k e e2 => by have h7 := HG9.out.1; injection e with e; have h8 : g9 = k := e; have h9 : k = vb := e2; omega))
        have HBB2 : Hid (Mod (fun k => k = vb ∨ blkOf la = some k) wp (wd.setCell ⟨vb, 4, none⟩ (.slice (some ⟨g9, 0, none⟩) (ln + 1) cap9))) := hId (HBB.out.step HMS.out (fun k hk e => .inl e))
        have HMM2 := HMM
        have HLT2 : Hid (g9 < (wd.setCell ⟨vb, 4, none⟩ (.slice (some ⟨g9, 0, none⟩) (ln + 1) cap9)).heap.size) := hId (Nat.lt_of_lt_of_le HLT.out HMS.out.size)
        have HHS1 := hId hHeld
        have HROW := HROW1
        have HHS := HHS1
        have HVB := HVB2
        have HBB := HBB2
        have HMM := HMM2
        have HLT := HLT2
        clear HROW1 HHS1 HVB2 HBB2 HMM2 HLT2
        refine wpAnyH_done (by kernel_rfl) ?_ _
        clear hHeld
        go_wp2_with fail
        go_end0
        have hrow := HROW.out
        rw [HSETL.out] at hrow
        exact item1_fin (by omega) (by omega) HF.out HFO.out HBA.out HKV.out HMM.out hj HORP.out HBB.out hrow HG9.out HVB.out HHS.out
      · have o4c := HVB.out.cell 4
        have o4f := HVB.out.frozen 4
        have o4l := HVB.out.lt
        simp only [lqt, lqz, lqs] at o4c
        (try simp only [lgt, lgz, lgs])
        go_simp
        clear o4c o4f o4l
        have HMS : Hid (Only vb wc (wc.setCell ⟨vb, 4, none⟩ (.slice (some ⟨g9, 0, none⟩) (ln + 1) cap9))) := hId ((Mod.refl (fun k => k = vb) wc).setCell (p := ⟨vb, 4, none⟩) (.inl rfl) _)
        refine hK.out _ _ (HHS.out.step HMS.out (fun k _ e => by subst e; exact .inr (Nat.le_refl _))) (fun hHeld => ?_)
        clear hK K
        (try simp only [Act.put, lgt, lgz, lgs, lst, lsz, lss])
        have HVB2 := hId (HVB.out.set 4 (.slice (some ⟨g9, 0, none⟩) (ln + 1) cap9))
        have HROW1 := hId (HROW.out.mod HMS.out (fun k e e2 => by have h7 := HG9.out.1; injection e with e; have h8 : g9 = k := e; have h9 : k = vb := e2; omega))
        have HBB2 : Hid (Mod (fun k => k = vb ∨ blkOf la = some k) wp (wc.setCell ⟨vb, 4, none⟩ (.slice (some ⟨g9, 0, none⟩) (ln + 1) cap9))) := hId (HBB.out.step HMS.out (fun k hk e => .inl e))
        have HMM2 := HMM
        have HLT2 : Hid (g9 < (wc.setCell ⟨vb, 4, none⟩ (.slice (some ⟨g9, 0, none⟩) (ln + 1) cap9)).heap.size) := hId (Nat.lt_of_lt_of_le HLT.out HMS.out.size)
        have HHS1 := hId hHeld
        have HCELL := hId (fun j hj => (HMS.out.cell (p := ⟨g9, ln * 6 + j, none⟩) HLT.out (fun e => by have := HG9.out.1; have e2 : g9 = vb := e; omega)).trans (HCELL.out j hj))
        have HROW := HROW1
        have HHS := HHS1
        have HVB := HVB2
        have HBB := HBB2
        have HMM := HMM2
        have HLT := HLT2
        clear HROW1 HHS1 HVB2 HBB2 HMM2 HLT2
        generalize wc.setCell ⟨vb, 4, none⟩ (.slice (some ⟨g9, 0, none⟩) (ln + 1) cap9) = we at *
        clear hHeld
        have hHeld := HHS.out
        refine wpAnyH_ready (rs := [8]) (by kernel_rfl) (by simp) ?_
        refine AllReadyH.cons rfl (fun K hK => ?_) AllReadyH.nil
        have c0 := HCELL.out 0 (by decide)
        have c1 := HCELL.out 1 (by decide)
        have c2 := HCELL.out 2 (by decide)
        have c3 := HCELL.out 3 (by decide)
        have c4 := HCELL.out 4 (by decide)
        have c5 := HCELL.out 5 (by decide)
        have f0 := HROW.out.frozen (ln * 6)
        have f1 := HROW.out.frozen (ln * 6 + 1)
        have f2 := HROW.out.frozen (ln * 6 + 2)
        have f3 := HROW.out.frozen (ln * 6 + 3)
        have f4 := HROW.out.frozen (ln * 6 + 4)
        have f5 := HROW.out.frozen (ln * 6 + 5)
        have gl := HLT.out
        simp only [VA.enc, VA.zero, Nat.add_zero] at c0 c1 c2 c3 c4 c5
        (try simp only [lgt, lgz, lgs])
        go_simp
        clear c0 c1 c2 c3 c4 c5 f0 f1 f2 f3 f4 f5 gl
        have hset := HROW.out.set6 (i := ln) HFLN.out (⟨xk, xf, xn, xw, xla, xln, xlc, xma, xmn, xmc⟩ : VA)
        simp only [VA.enc] at hset
        have hms : Only g9 we ((((((we.setCell ⟨g9, ln * 6, none⟩ (.int .i64 xk)).setCell ⟨g9, ln * 6 + 1, none⟩ (.bool xf)).setCell ⟨g9, ln * 6 + 2, none⟩ (.int .i64 xn)).setCell ⟨g9, ln * 6 + 3, none⟩ (.string xw)).setCell ⟨g9, ln * 6 + 4, none⟩ (.slice xla xln xlc)).setCell ⟨g9, ln * 6 + 5, none⟩ (.slice xma xmn xmc)) := by
          with_reducible repeat (first | exact Mod.refl _ _ | refine Only.set ?_ _ _)
        have HSET := hId hset
        have HMS := hId hms
        clear hset hms
        generalize ((((((we.setCell ⟨g9, ln * 6, none⟩ (.int .i64 xk)).setCell ⟨g9, ln * 6 + 1, none⟩ (.bool xf)).setCell ⟨g9, ln * 6 + 2, none⟩ (.int .i64 xn)).setCell ⟨g9, ln * 6 + 3, none⟩ (.string xw)).setCell ⟨g9, ln * 6 + 4, none⟩ (.slice xla xln xlc)).setCell ⟨g9, ln * 6 + 5, none⟩ (.slice xma xmn xmc)) = wd at *
        refine hK.out _ _ (HHS.out.step HMS.out (fun k _ e => by subst e; exact .inr (Nat.le_of_lt HG9.out.1))) (fun hHeld => ?_)
        clear hK K
        (try simp only [Act.put, lgt, lgz, lgs, lst, lsz, lss])
        have HROW1 := HSET
        have HHS1 : Hid (Mod (fun k => k = b ∨ vb ≤ k) w wd) := hId hHeld
        have HVB2 := hId (HVB.out.mod HMS.out (fun e => by have h7 := HG9.out.1; have h8 : vb = g9 := e; omega))
        have HBB2 : Hid (Mod (fun k => k = vb ∨ blkOf la = some k) wp wd) := hId (HBB.out.step HMS.out (fun k hk e => by
          subst e
          rcases HG9.out.2 with h | h
          · exact .inr h
          · omega))
        have HMM2 := HMM
        have HLT2 : Hid (g9 < wd.heap.size) := hId (Nat.lt_of_lt_of_le HLT.out HMS.out.size)
        clear HROW HHS HVB HBB HMM HLT HSET HCELL
        have HROW := HROW1
        have HHS := HHS1
        have HVB := HVB2
        have HBB := HBB2
        have HMM := HMM2
        have HLT := HLT2
        clear HROW1 HHS1 HVB2 HBB2 HMM2 HLT2
        refine wpAnyH_done (by kernel_rfl) ?_ _
        clear hHeld
        go_wp2_with fail
        go_end0
        have hrow := HROW.out
        rw [HSETL.out] at hrow
        exact item1_fin (by omega) (by omega) HF.out HFO.out HBA.out HKV.out HMM.out hj HORP.out HBB.out hrow HG9.out HVB.out HHS.out
    · (try simp only [lgt, lgz, lgs])
      go_simp
      refine (HVAL.out _ HNW.out).mono ?_
      rintro e w3 ⟨hm3, A, j, rfl, hj, hor⟩
      obtain ⟨xk, xf, xn, xw, xla, xln, xlc, xma, xmn, xmc⟩ := A
      have HM3 : Hid (Only b w w3) := hId ((HNW.out.mono (fun _ _ e => e.elim)).trans hm3)
      have HS3 : Hid (Mod (fun k => k = b ∨ vb ≤ k) w w3) := hId (HM3.out.mono (fun k _ e => .inl e))
      have HOR : Hid ((∃ v, i < j ∧ Blk w3 b 53 (RRc s j (-1)) ∧ Tree w3 (fun g => vb < g ∧ blkOf la ≠ some g) j ⟨xk, xf, xn, xw, xla, xln, xlc, xma, xmn, xmc⟩ v ∧ ∀ st, Leads s.data.toList (.run true st i) (putS st v j)) ∨ (∃ p : Nat, Blk w3 b 53 (RRc s j (p : Int)) ∧ ∀ st, Leads s.data.toList (.run true st i) (.bad p))) := hId (by
        rcases hor with ⟨v, h1, h2, h3, h4⟩ | h
        · exact .inl ⟨v, h1, h2, h3.adopt (Nat.lt_of_lt_of_le HBX.out.lt HNW.out.size) (fun g hg => Nat.lt_of_lt_of_le (HKV.out.own.far' g hg).2.1 HNW.out.size), h4⟩
        · exact .inr h)
      have hmz := hId hm3
      clear hm3 hor
      simp only [VA.val]
      go_wp2_with fail
      refine hK.out _ _ HS3.out (fun hHeld => ?_)
      clear hK K
      (try simp only [Act.put, lgt, lgz, lgs, lst, lsz, lss])
      have HZB := hId (HZB0.out.mod hmz.out (fun e => hzn e))
      clear HZB0 hmz
      have e4 := (HBX.out.mod HM3.out (by omega)).cell 4
      simp only [lqt, lqz, lqs] at e4
      refine wpAnyH_ready (rs := [1]) (by kernel_rfl) (by simp) ?_
      refine AllReadyH.cons rfl (fun K hK => ?_) AllReadyH.nil
      (try simp only [lgt, lgz, lgs])
      go_simp
      refine hK.out _ _ hHeld (fun hHeld => ?_)
      clear hK K
      (try simp only [Act.put, lgt, lgz, lgs, lst, lsz, lss])
      refine wpAnyH_take (i := 4) (v := ?_) rfl (by kernel_rfl) (by kernel_rfl) (by kernel_rfl) (fun _ _ _ h => h) (Or.inl ⟨by rfl, fun W hSw => ?_⟩) (by assumption) ?_
      rotate_left
      · (have hq := HSX.out W hSw); (try simp only [lgt, lgz, lgs]); go_simp; any_goals (with_reducible rfl)
      simp only [Act.put, lgt, lgz, lgs, lst, lsz, lss]
      clear e4
      have own2 := HKV.out.own.mod HM3.out (fun g hg e => by have := (HKV.out.own.far' g hg).1; omega)
      refine wpAnyH_ready (rs := [6]) (by kernel_rfl) (by simp) ?_
      refine AllReadyH.cons rfl (fun K hK => ?_) AllReadyH.nil
      rw [if_pos (by rfl)]
      have HZZ : Hid (vb + 1 ≤ w3.heap.size) := hId (Nat.le_trans HBX.out.lt HM3.out.size)
      refine wp_push (.tmp 3) (.tmp 7) _ rfl 88 Tryz.underlying27 einfo_val rfl (by exact own2) VA.zero zb rfl (by exact HZB.out) (fun j hj => VA.one _ j hj) (by omega) (by omega) HZZ.out ?_
      intro g9 cap9 wc own9 hm9 hat9 hlt9
      refine hK.out _ _ ((HM3.out.mono (fun k _ e => Or.inl e)).step hm9 (fun k hk e => .inr (Nat.le_of_lt (HKV.out.own.far' k e).1))) (fun hHeld => ?_)
      clear hK K
      (try simp only [Act.put, lgt, lgz, lgs, lst, lsz, lss])
      have hvl : xs.length = ln := HKV.out.own.1
      have HFLN : Hid (ln < (xs ++ [VA.zero]).length) := hId (by simp; omega)
      have HHS : Hid (Mod (fun k => k = b ∨ vb ≤ k) w wc) := hId hHeld
      have HCELL : Hid (∀ j, j < 6 → wc.cell? ⟨g9, ln * 6 + j, none⟩ = some (VA.zero.enc j)) := hId (fun j hj => by
        obtain ⟨g', o', hA, htb, hc⟩ := own9.sl.2 (by omega)
        injection hA with hA
        injection hA with hA1 hA2
        subst hA1 hA2
        have := hc ln (by simp; omega) j hj
        simpa [← hvl] using this)
      have HROW := hId own9
      have HLT := hId hlt9
      have HG9 : Hid (vb < g9 ∧ (blkOf la = some g9 ∨ g9 = w3.heap.size)) := hId (by
        refine ⟨?_, hat9⟩
        rcases hat9 with h | h
        · have := (own2.far' g9 h).1; omega
        · have := HZZ.out; omega)
      have hvb9 := (HBX.out.mod HM3.out (by omega)).mod hm9 (fun e => by have := (own2.far' _ e).1; omega)
      have HVB := hId hvb9
      have HBB : Hid (Mod (fun k => k = vb ∨ blkOf la = some k) w3 wc) := hId (hm9.mono (fun k _ e => .inr e))
      have HMM : Hid (Only b w w3) := HM3
      have HORP := HOR
      have HSETL : Hid ((xs ++ [VA.zero]).set ln (⟨xk, xf, xn, xw, xla, xln, xlc, xma, xmn, xmc⟩ : VA) = xs ++ [⟨xk, xf, xn, xw, xla, xln, xlc, xma, xmn, xmc⟩]) := hId (by simp [← hvl])
      clear own2 own9 hm9 hat9 hlt9 HZB HM3 hvl hvb9
      have g0 : (0 : Int) ≤ (ln : Int) := by omega
      have g1 : (ln : Int) < (ln : Int) + 1 := by omega
      generalize w3 = wp at *
      refine wpAnyH_take (i := 7) (v := ?_) rfl (by kernel_rfl) (by kernel_rfl) (by kernel_rfl) (fun _ _ _ h => h) (Or.inl ⟨by rfl, fun W hSw => ?_⟩) (by assumption) ?_
      rotate_left
      · (have hq := HSX.out W hSw); (try simp only [lgt, lgz, lgs]); go_simp; any_goals (with_reducible rfl)
      simp only [Act.put, lgt, lgz, lgs, lst, lsz, lss]
      refine wpAnyH_take (i := 9) (v := ?_) rfl (by kernel_rfl) (by kernel_rfl) (by kernel_rfl) (fun _ _ _ h => h) (Or.inl ⟨by rfl, fun W hSw => ?_⟩) (by assumption) ?_
      rotate_left
      · (have hq := HSX.out W hSw); (try simp only [lgt, lgz, lgs]); go_simp; any_goals (with_reducible rfl)
      simp only [Act.put, lgt, lgz, lgs, lst, lsz, lss]
      refine wpAnyH_ready (rs := [8, 10]) (by kernel_rfl) (by simp) ?_
      refine AllReadyH.cons rfl (fun K hK => ?_) (AllReadyH.cons rfl (fun K hK => ?_) AllReadyH.nil)
      · have c0 := HCELL.out 0 (by decide)
        have c1 := HCELL.out 1 (by decide)
        have c2 := HCELL.out 2 (by decide)
        have c3 := HCELL.out 3 (by decide)
        have c4 := HCELL.out 4 (by decide)
        have c5 := HCELL.out 5 (by decide)
        have f0 := HROW.out.frozen (ln * 6)
        have f1 := HROW.out.frozen (ln * 6 + 1)
        have f2 := HROW.out.frozen (ln * 6 + 2)
        have f3 := HROW.out.frozen (ln * 6 + 3)
        have f4 := HROW.out.frozen (ln * 6 + 4)
        have f5 := HROW.out.frozen (ln * 6 + 5)
        have gl := HLT.out
        simp only [VA.enc, VA.zero, Nat.add_zero] at c0 c1 c2 c3 c4 c5
        (try simp only [lgt, lgz, lgs])
        go_simp
        clear c0 c1 c2 c3 c4 c5 f0 f1 f2 f3 f4 f5 gl
        have hset := HROW.out.set6 (i := ln) HFLN.out (⟨xk, xf, xn, xw, xla, xln, xlc, xma, xmn, xmc⟩ : VA)
        simp only [VA.enc] at hset
        have hms : Only g9 wc ((((((wc.setCell ⟨g9, ln * 6, none⟩ (.int .i64 xk)).setCell ⟨g9, ln * 6 + 1, none⟩ (.bool xf)).setCell ⟨g9, ln * 6 + 2, none⟩ (.int .i64 xn)).setCell ⟨g9, ln * 6 + 3, none⟩ (.string xw)).setCell ⟨g9, ln * 6 + 4, none⟩ (.slice xla xln xlc)).setCell ⟨g9, ln * 6 + 5, none⟩ (.slice xma xmn xmc)) := by
          with_reducible repeat (first | exact Mod.refl _ _ | refine Only.set ?_ _ _)
        have HSET := hId hset
        have HMS := hId hms
        clear hset hms
        generalize ((((((wc.setCell ⟨g9, ln * 6, none⟩ (.int .i64 xk)).setCell ⟨g9, ln * 6 + 1, none⟩ (.bool xf)).setCell ⟨g9, ln * 6 + 2, none⟩ (.int .i64 xn)).setCell ⟨g9, ln * 6 + 3, none⟩ (.string xw)).setCell ⟨g9, ln * 6 + 4, none⟩ (.slice xla xln xlc)).setCell ⟨g9, ln * 6 + 5, none⟩ (.slice xma xmn xmc)) = wd at *
        refine hK.out _ _ (HHS.out.step HMS.out (fun k _ e => by subst e; exact .inr (Nat.le_of_lt HG9.out.1))) (fun hHeld => ?_)
        clear hK K
        (try simp only [Act.put, lgt, lgz, lgs, lst, lsz, lss])
        have HROW1 := HSET
        have HHS1 : Hid (Mod (fun k => k = b ∨ vb ≤ k) w wd) := hId hHeld
        have HVB2 := hId (HVB.out.mod HMS.out (fun e => by have h7 := HG9.out.1; have h8 : vb = g9 := e; omega))
        have HBB2 : Hid (Mod (fun k => k = vb ∨ blkOf la = some k) wp wd) := hId (HBB.out.step HMS.out (fun k hk e => by
          subst e
          rcases HG9.out.2 with h | h
          · exact .inr h
          · omega))
        have HMM2 := HMM
        have HLT2 : Hid (g9 < wd.heap.size) := hId (Nat.lt_of_lt_of_le HLT.out HMS.out.size)
        clear HROW HHS HVB HBB HMM HLT HSET HCELL
        have HROW := HROW1
        have HHS := HHS1
        have HVB := HVB2
        have HBB := HBB2
        have HMM := HMM2
        have HLT := HLT2
        clear HROW1 HHS1 HVB2 HBB2 HMM2 HLT2
        refine wpAnyH_ready (rs := [10]) (by kernel_rfl) (by simp) ?_
        refine AllReadyH.cons rfl (fun K hK => ?_) AllReadyH.nil
        have o4c := HVB.out.cell 4
        have o4f := HVB.out.frozen 4
        have o4l := HVB.out.lt
        simp only [lqt, lqz, lqs] at o4c
        (try simp only [lgt, lgz, lgs])
        go_simp
        clear o4c o4f o4l
        have HMS : Hid (Only vb wd (wd.setCell ⟨vb, 4, none⟩ (.slice (some ⟨g9, 0, none⟩) (ln + 1) cap9))) := hId ((Mod.refl (fun k => k = vb) wd).setCell (p := ⟨vb, 4, none⟩) (.inl rfl) _)
        refine hK.out _ _ (HHS.out.step HMS.out (fun k _ e => by subst e; exact .inr (Nat.le_refl _))) (fun hHeld => ?_)
        clear hK K
        (try simp only [Act.put, lgt, lgz, lgs, lst, lsz, lss])
        have HVB2 := hId (HVB.out.set 4 (.slice (some ⟨g9, 0, none⟩) (ln + 1) cap9))
        have HROW1 := hId (HROW.out.mod HMS.out (fun k e e2 => by have h7 := HG9.out.1; injection e with e; have h8 : g9 = k := e; have h9 : k = vb := e2; omega))
        have HBB2 : Hid (Mod (fun k => k = vb ∨ blkOf la = some k) wp (wd.setCell ⟨vb, 4, none⟩ (.slice (some ⟨g9, 0, none⟩) (ln + 1) cap9))) := hId (HBB.out.step HMS.out (fun k hk e => .inl e))
        have HMM2 := HMM
        have HLT2 : Hid (g9 < (wd.setCell ⟨vb, 4, none⟩ (.slice (some ⟨g9, 0, none⟩) (ln + 1) cap9)).heap.size) := hId (Nat.lt_of_lt_of_le HLT.out HMS.out.size)
        have HHS1 := hId hHeld
        have HROW := HROW1
        have HHS := HHS1
        have HVB := HVB2
        have HBB := HBB2
        have HMM := HMM2
        have HLT := HLT2
        clear HROW1 HHS1 HVB2 HBB2 HMM2 HLT2
        refine wpAnyH_done (by kernel_rfl) ?_ _
        clear hHeld
        go_wp2_with fail
        go_end0
        have hrow := HROW.out
        rw [HSETL.out] at hrow
        exact item1_fin (by omega) (by omega) HF.out HFO.out HBA.out HKV.out HMM.out hj HORP.out HBB.out hrow HG9.out HVB.out HHS.out
      · have o4c := HVB.out.cell 4
        have o4f := HVB.out.frozen 4
        have o4l := HVB.out.lt
        simp only [lqt, lqz, lqs] at o4c
        (try simp only [lgt, lgz, lgs])
        go_simp
        clear o4c o4f o4l
        have HMS : Hid (Only vb wc (wc.setCell ⟨vb, 4, none⟩ (.slice (some ⟨g9, 0, none⟩) (ln + 1) cap9))) := hId ((Mod.refl (fun k => k = vb) wc).setCell (p := ⟨vb, 4, none⟩) (.inl rfl) _)
        refine hK.out _ _ (HHS.out.step HMS.out (fun k _ e => by subst e; exact .inr (Nat.le_refl _))) (fun hHeld => ?_)
        clear hK K
        (try simp only [Act.put, lgt, lgz, lgs, lst, lsz, lss])
        have HVB2 := hId (HVB.out.set 4 (.slice (some ⟨g9, 0, none⟩) (ln + 1) cap9))
        have HROW1 := hId (HROW.out.mod HMS.out (fun k e e2 => by have h7 := HG9.out.1; injection e with e; have h8 : g9 = k := e; have h9 : k = vb := e2; omega))
        have HBB2 : Hid (Mod (fun k => k = vb ∨ blkOf la = some k) wp (wc.setCell ⟨vb, 4, none⟩ (.slice (some ⟨g9, 0, none⟩) (ln + 1) cap9))) := hId (HBB.out.step HMS.out (fun k hk e => .inl e))
        have HMM2 := HMM
        have HLT2 : Hid (g9 < (wc.setCell ⟨vb, 4, none⟩ (.slice (some ⟨g9, 0, none⟩) (ln + 1) cap9)).heap.size) := hId (Nat.lt_of_lt_of_le HLT.out HMS.out.size)
        have HHS1 := hId hHeld
        have HCELL := hId (fun j hj => (HMS.out.cell (p := ⟨g9, ln * 6 + j, none⟩) HLT.out (fun e => by have := HG9.out.1; have e2 : g9 = vb := e; omega)).trans (HCELL.out j hj))
        have HROW := HROW1
        have HHS := HHS1
        have HVB := HVB2
        have HBB := HBB2
        have HMM := HMM2
        have HLT := HLT2
        clear HROW1 HHS1 HVB2 HBB2 HMM2 HLT2
        generalize wc.setCell ⟨vb, 4, none⟩ (.slice (some ⟨g9, 0, none⟩) (ln + 1) cap9) = we at *
        clear hHeld
        have hHeld := HHS.out
        refine wpAnyH_ready (rs := [8]) (by kernel_rfl) (by simp) ?_
        refine AllReadyH.cons rfl (fun K hK => ?_) AllReadyH.nil
        have c0 := HCELL.out 0 (by decide)
        have c1 := HCELL.out 1 (by decide)
        have c2 := HCELL.out 2 (by decide)
        have c3 := HCELL.out 3 (by decide)
        have c4 := HCELL.out 4 (by decide)
        have c5 := HCELL.out 5 (by decide)
        have f0 := HROW.out.frozen (ln * 6)
        have f1 := HROW.out.frozen (ln * 6 + 1)
        have f2 := HROW.out.frozen (ln * 6 + 2)
        have f3 := HROW.out.frozen (ln * 6 + 3)
        have f4 := HROW.out.frozen (ln * 6 + 4)
        have f5 := HROW.out.frozen (ln * 6 + 5)
        have gl := HLT.out
        simp only [VA.enc, VA.zero, Nat.add_zero] at c0 c1 c2 c3 c4 c5
        (try simp only [lgt, lgz, lgs])
        go_simp
        clear c0 c1 c2 c3 c4 c5 f0 f1 f2 f3 f4 f5 gl
        have hset := HROW.out.set6 (i := ln) HFLN.out (⟨xk, xf, xn, xw, xla, xln, xlc, xma, xmn, xmc⟩ : VA)
        simp only [VA.enc] at hset
        have hms : Only g9 we ((((((we.setCell ⟨g9, ln * 6, none⟩ (.int .i64 xk)).setCell ⟨g9, ln * 6 + 1, none⟩ (.bool xf)).setCell ⟨g9, ln * 6 + 2, none⟩ (.int .i64 xn)).setCell ⟨g9, ln * 6 + 3, none⟩ (.string xw)).setCell ⟨g9, ln * 6 + 4, none⟩ (.slice xla xln xlc)).setCell ⟨g9, ln * 6 + 5, none⟩ (.slice xma xmn xmc)) := by
          with_reducible repeat (first | exact Mod.refl _ _ | refine Only.set ?_ _ _)
        have HSET := hId hset
        have HMS := hId hms
        clear hset hms
        generalize ((((((we.setCell ⟨g9, ln * 6, none⟩ (.int .i64 xk)).setCell ⟨g9, ln * 6 + 1, none⟩ (.bool xf)).setCell ⟨g9, ln * 6 + 2, none⟩ (.int .i64 xn)).setCell ⟨g9, ln * 6 + 3, none⟩ (.string xw)).setCell ⟨g9, ln * 6 + 4, none⟩ (.slice xla xln xlc)).setCell ⟨g9, ln * 6 + 5, none⟩ (.slice xma xmn xmc)) = wd at *
        refine hK.out _ _ (HHS.out.step HMS.out (fun k _ e => by subst e; exact .inr (Nat.le_of_lt HG9.out.1))) (fun hHeld => ?_)
        clear hK K
        (try simp only [Act.put, lgt, lgz, lgs, lst, lsz, lss])
        have HROW1 := HSET
        have HHS1 : Hid (Mod (fun k => k = b ∨ vb ≤ k) w wd) := hId hHeld
        have HVB2 := hId (HVB.out.mod HMS.out (fun e => by have h7 := HG9.out.1; have h8 : vb = g9 := e; omega))
        have HBB2 : Hid (Mod (fun k => k = vb ∨ blkOf la = some k) wp wd) := hId (HBB.out.step HMS.out (fun k hk e => by
          subst e
          rcases HG9.out.2 with h | h
          · exact .inr h
          · omega))
        have HMM2 := HMM
        have HLT2 : Hid (g9 < wd.heap.size) := hId (Nat.lt_of_lt_of_le HLT.out HMS.out.size)
        clear HROW HHS HVB HBB HMM HLT HSET HCELL
        have HROW := HROW1
        have HHS := HHS1
        have HVB := HVB2
        have HBB := HBB2
        have HMM := HMM2
        have HLT := HLT2
        clear HROW1 HHS1 HVB2 HBB2 HMM2 HLT2
        refine wpAnyH_done (by kernel_rfl) ?_ _
        clear hHeld
        go_wp2_with fail
        go_end0
        have hrow := HROW.out
        rw [HSETL.out] at hrow
        exact item1_fin (by omega) (by omega) HF.out HFO.out HBA.out HKV.out HMM.out hj HORP.out HBB.out hrow HG9.out HVB.out HHS.out
end Go.Proofs.YtjmnkdkdjnmejaaGreatDoor
