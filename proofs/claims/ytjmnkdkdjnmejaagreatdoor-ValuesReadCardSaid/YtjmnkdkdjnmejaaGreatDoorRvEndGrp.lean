/- Several texts in one. (1) Reading values: the program's reader ends what is open. Conditions: a text of at most 300000 bytes. (2) Reading values: the program's makers of values: a flag, a number, words, a list. No conditions. -/
import Derived.Test.YtjmnkdkdjnmejaaGreatDoorRvAtGrp
import Derived.Test.YtjmnkdkdjnmejaaGreatDoorRvNil
import Derived.Test.YtjmnkdkdjnmejaaGreatDoorRvMemGrp

namespace Go.Proofs.YtjmnkdkdjnmejaaGreatDoor
open Go.RowKit
set_option linter.unusedVariables false
set_option linter.unusedSimpArgs false

theorem val_put (s : ByteArray) (r : RV) (B b : Nat) (w : World) (x : VA) (v : VT) (st : List RFr) (os : List OF) (h : RdAt w B b s r true st os) (hx : Tree w (notIn B (ownL os)) r.i x v) (hB : B ≤ w.heap.size)
    (hlen : st.length ≤ 300000) (hl : ∀ f ∈ st, f.items.length ≤ 300000 ∧ f.mems.length ≤ 300000) :
    Calls Tryz.prog 65 #[.pointer (some ⟨b, 0, none⟩), x.val] w (RPut B b s r st v w) := by
  have hll := Frs.len _ _ _ h.fr
  cases st with
  | nil =>
    cases os with
    | nil => exact val_put0 s r B b w x v h hx hB
    | cons o oq => simp at hll
  | cons f q =>
    cases os with
    | nil => simp at hll
    | cons o oq =>
      simp only [List.length_cons] at hll hlen
      exact val_put1 s r B b w x v f q o oq h hx hB (by omega) (hl f (by simp)).1 (hl f (by simp)).2
set_option maxHeartbeats 1500000
set_option maxRecDepth 100000 in
theorem val_end (s : ByteArray) (r : RV) (B b : Nat) (w : World) (f : RFr) (q : List RFr) (o : OF) (oq : List OF) (pend : Bool) (h : RdAt w B b s r pend (f :: q) (o :: oq)) (hB : B ≤ w.heap.size) (hs : s.size ≤ 300000) (hi : r.i + 1 ≤ s.size)
    (hone : if f.mem then f.items = [] else f.mems = [] ∧ f.name = ⟨#[]⟩) (hlen : q.length ≤ 300000) (hl : ∀ g ∈ f :: q, g.items.length ≤ 300000 ∧ g.mems.length ≤ 300000)
    (hd : r.done = false) (hbad : r.bad = false) (hbg : r.begins = false) :
    Calls Tryz.prog 37 #[.pointer (some ⟨b, 0, none⟩)] w (RAt B b s (putS q f.value (r.i + 1)) w) := by
  have hsn : r.sn = oq.length + 1 := by have := h.sk.1; simpa using this.symm
  have hqo : q.length = oq.length := Frs.len _ _ _ h.fr.2
  have hrd := h.rd
  have hsk := h.sk
  obtain ⟨sg, hA, -, htg, hcap, -⟩ := hsk.form (by omega)
  rw [hA] at hsk
  have hc0 : w.cell? ⟨sg, oq.length, none⟩ = some (.pointer (some ⟨o.b, 0, none⟩)) := by
    have hl : oq.length < ((o :: oq).reverse.map (·.b)).length := by simp
    have := hsk.cell1 hl
    simpa [ptrE] using this
  have hob := h.fr.1.blk
  have hHB := h.hB
  have hobl := hob.lt
  have hsgl := htg.lt
  obtain ⟨i, sk, sn, sc, begins, done, ⟨ok, of, on, ow, ola, oln, olc, oma, omn, omc⟩, bad, pl⟩ := r
  simp only at hsn hA hi hd hbad hbg
  subst hA hd hbad hbg
  obtain ⟨n, hn⟩ : ∃ n, oq.length = n := ⟨_, rfl⟩
  rw [hn] at hsn hc0 hqo
  have hcap1 : (n : Int) ≤ (sc : Int) := by simp only at hcap; omega
  have hcap2 : n ≤ sc := by omega
  clear hcap
  have hn3 : n ≤ 300000 := by omega
  have HN0 := hId hn
  clear hn
  have hobn : sg ≠ b := htg.ne hrd.tb (by decide)
  have hobb : o.b ≠ b := hob.ne hrd (by decide)
  have HH := hId h
  have HONE := hId hone
  have HL := hId hl
  clear h hone hl hsk htg hqo
  -- the place
  have HRD1 := hId (hrd.set 1 (.int .i64 ((i : Int) + 1)))
  have HM1 : Hid (Only b w (w.setCell ⟨b, 1, none⟩ (.int .i64 ((i : Int) + 1)))) := hId ((Mod.refl (fun k => k = b) w).setCell (p := ⟨b, 1, none⟩) (.inl rfl) _)
  have HOB1 := hId (hob.mod HM1.out hobb)
  have HC1 : Hid ((w.setCell ⟨b, 1, none⟩ (.int .i64 ((i : Int) + 1))).cell? ⟨sg, n, none⟩ = some (.pointer (some ⟨o.b, 0, none⟩))) := hId ((HM1.out.cell (p := ⟨sg, n, none⟩) hsgl hobn).trans hc0)
  have HSG1 : Hid (sg < (w.setCell ⟨b, 1, none⟩ (.int .i64 ((i : Int) + 1))).heap.size) := hId (Nat.lt_of_lt_of_le hsgl HM1.out.size)
  have c1 := hrd.cell 1
  have z1 := hrd.frozen 1
  have bl := hrd.lt
  simp only [RV.cells, lqt, lqz, lqs] at c1
  have HRD := hId hrd
  clear hrd hob hc0
  subst hsn
  go_enter Tryz.func37, Tryz.ntmps37
  go_upto_region 1 with (fail)
  clear c1 z1 bl
  generalize w.setCell ⟨b, 1, none⟩ (.int .i64 ((i : Int) + 1)) = w1 at *
  obtain ⟨ob, fla, fln, flc, fma, fmn, fmc, fname, fmp⟩ := o
  obtain ⟨m, name, items, mems⟩ := f
  simp only at HOB1 HC1 hobb
  obtain ⟨kk, hkk⟩ : ∃ kk : Int, (if m then 5 else 4 : Int) = kk := ⟨_, rfl⟩
  have HKK := hId hkk
  have HSX : Hid (∀ W, New w1 W → W.cell? ⟨b, 2, none⟩ = some (.slice (some ⟨sg, 0, none⟩) (n + 1) sc) ∧ W.cell? ⟨sg, n, none⟩ = some (.pointer (some ⟨ob, 0, none⟩)) ∧ W.cell? ⟨ob, 0, none⟩ = some (.int .i64 kk) ∧ W.cell? ⟨ob, 1, none⟩ = some (.bool false) ∧ W.cell? ⟨ob, 2, none⟩ = some (.int .i64 0) ∧ W.cell? ⟨ob, 3, none⟩ = some (.string ⟨#[]⟩) ∧ W.cell? ⟨ob, 4, none⟩ = some (.slice fla fln flc) ∧ W.cell? ⟨ob, 5, none⟩ = some (.slice fma fmn fmc) ∧ b < W.heap.size ∧ ob < W.heap.size ∧ sg < W.heap.size) := hId (fun W hW => by
    have h1 := HRD1.out.mod hW (fun e => e)
    have h2 := HOB1.out.mod hW (fun e => e)
    refine ⟨(h1.cell 2).trans rfl, (hW.cell (p := ⟨sg, n, none⟩) HSG1.out (fun e => e)).trans HC1.out, ?_, (h2.cell 1).trans rfl, (h2.cell 2).trans rfl, (h2.cell 3).trans rfl, (h2.cell 4).trans rfl, (h2.cell 5).trans rfl, h1.lt, h2.lt, Nat.lt_of_lt_of_le HSG1.out hW.size⟩
    rw [← HKK.out]
    exact (h2.cell 0).trans rfl)
  clear hkk
  have g0 : (0 : Int) ≤ (n : Int) := by omega
  have g1 : (n : Int) < (n : Int) + 1 := by omega
  have hwr : IntKind.i64.wrap (n : Int) = (n : Int) := by rw [IntKind.wrap_i64]; omega
  have hva := Blk.new w1 30 #[.int .i64 0, .bool false, .int .i64 0, .string ⟨#[]⟩, .slice none 0 0, .slice none 0 0]
  have HVB : Hid (Blk (w1.alloc (.cells #[.int .i64 0, .bool false, .int .i64 0, .string ⟨#[]⟩, .slice none 0 0, .slice none 0 0] 30)).drew w1.heap.size 30 #[.int .i64 0, .bool false, .int .i64 0, .string ⟨#[]⟩, .slice none 0 0, .slice none 0 0]) := hId (hva.mod ((Mod.refl (fun _ => False) _).drew) (fun e => e))
  have HN1 : Hid (New w1 (w1.alloc (.cells #[.int .i64 0, .bool false, .int .i64 0, .string ⟨#[]⟩, .slice none 0 0, .slice none 0 0] 30)).drew) := hId (by with_reducible (repeat (first | exact Mod.refl _ _ | refine Mod.drewN ?_ _ | refine Mod.drew ?_ | refine Mod.alloc ?_ _)))
  have HVL : Hid (∀ k, k < w1.heap.size → k ≠ w1.heap.size) := hId (fun k h e => by omega)
  clear hva
  refine wp_region_held_drew (S := New w1) (by kernel_rfl) (by with_reducible (repeat (first | exact Mod.refl _ _ | refine Mod.drewN ?_ _ | refine Mod.drew ?_ | refine Mod.alloc ?_ _))) (fun hHeld => ?_)
  simp only [List.size_toArray, List.length_cons, List.length_nil, Nat.reduceAdd]
  refine wpAnyH_take (i := 0) (v := ?_) rfl (by kernel_rfl) (by kernel_rfl) (by kernel_rfl) (fun _ _ _ h => h) (Or.inl ⟨by rfl, fun W hSw => ?_⟩) (by assumption) ?_
  rotate_left
  · (have hq := HSX.out W hSw); (try simp only [lgt, lgz, lgs]); go_simp; any_goals (with_reducible rfl)
  simp only [Act.put, lgt, lgz, lgs, lst, lsz, lss]
  refine wpAnyH_take (i := 1) (v := ?_) rfl (by kernel_rfl) (by kernel_rfl) (by kernel_rfl) (fun _ _ _ h => h) (Or.inl ⟨by rfl, fun W hSw => ?_⟩) (by assumption) ?_
  rotate_left
  · (have hq := HSX.out W hSw); (try simp only [lgt, lgz, lgs]); go_simp; any_goals (with_reducible rfl)
  simp only [Act.put, lgt, lgz, lgs, lst, lsz, lss]
  refine wpAnyH_take (i := 2) (v := ?_) rfl (by kernel_rfl) (by kernel_rfl) (by kernel_rfl) (fun _ _ _ h => h) (Or.inl ⟨by rfl, fun W hSw => ?_⟩) (by assumption) ?_
  rotate_left
  · (have hq := HSX.out W hSw); (try simp only [lgt, lgz, lgs]); go_simp; any_goals (with_reducible rfl)
  simp only [Act.put, lgt, lgz, lgs, lst, lsz, lss]
  refine wpAnyH_take (i := 3) (v := ?_) rfl (by kernel_rfl) (by kernel_rfl) (by kernel_rfl) (fun _ _ _ h => h) (Or.inl ⟨by rfl, fun W hSw => ?_⟩) (by assumption) ?_
  rotate_left
  · (have hq := HSX.out W hSw); (try simp only [lgt, lgz, lgs]); go_simp; any_goals (with_reducible rfl)
  simp only [Act.put, lgt, lgz, lgs, lst, lsz, lss]
  refine wpAnyH_take (i := 4) (v := ?_) rfl (by kernel_rfl) (by kernel_rfl) (by kernel_rfl) (fun _ _ _ h => h) (Or.inl ⟨by rfl, fun W hSw => ?_⟩) (by assumption) ?_
  rotate_left
  · (have hq := HSX.out W hSw); (try simp only [lgt, lgz, lgs]); go_simp; any_goals (with_reducible rfl)
  simp only [Act.put, lgt, lgz, lgs, lst, lsz, lss]
  refine wpAnyH_take (i := 5) (v := ?_) rfl (by kernel_rfl) (by kernel_rfl) (by kernel_rfl) (fun _ _ _ h => h) (Or.inl ⟨by rfl, fun W hSw => ?_⟩) (by assumption) ?_
  rotate_left
  · (have hq := HSX.out W hSw); (try simp only [lgt, lgz, lgs]); go_simp; any_goals (with_reducible rfl)
  simp only [Act.put, lgt, lgz, lgs, lst, lsz, lss]
  refine wpAnyH_take (i := 6) (v := ?_) rfl (by kernel_rfl) (by kernel_rfl) (by kernel_rfl) (fun _ _ _ h => h) (Or.inl ⟨by rfl, fun W hSw => ?_⟩) (by assumption) ?_
  rotate_left
  · (have hq := HSX.out W hSw); (try simp only [lgt, lgz, lgs]); go_simp; any_goals (with_reducible rfl)
  simp only [Act.put, lgt, lgz, lgs, lst, lsz, lss]
  refine wpAnyH_take (i := 7) (v := ?_) rfl (by kernel_rfl) (by kernel_rfl) (by kernel_rfl) (fun _ _ _ h => h) (Or.inl ⟨by rfl, fun W hSw => ?_⟩) (by assumption) ?_
  rotate_left
  · (have hq := HSX.out W hSw); (try simp only [lgt, lgz, lgs]); go_simp; any_goals (with_reducible rfl)
  simp only [Act.put, lgt, lgz, lgs, lst, lsz, lss]
  refine wpAnyH_take (i := 8) (v := ?_) rfl (by kernel_rfl) (by kernel_rfl) (by kernel_rfl) (fun _ _ _ h => h) (Or.inl ⟨by rfl, fun W hSw => ?_⟩) (by assumption) ?_
  rotate_left
  · (have hq := HSX.out W hSw); (try simp only [lgt, lgz, lgs]); go_simp; any_goals (with_reducible rfl)
  simp only [Act.put, lgt, lgz, lgs, lst, lsz, lss]
  refine wpAnyH_take (i := 9) (v := ?_) rfl (by kernel_rfl) (by kernel_rfl) (by kernel_rfl) (fun _ _ _ h => h) (Or.inl ⟨by rfl, fun W hSw => ?_⟩) (by assumption) ?_
  rotate_left
  · (have hq := HSX.out W hSw); (try simp only [lgt, lgz, lgs]); go_simp; any_goals (with_reducible rfl)
  simp only [Act.put, lgt, lgz, lgs, lst, lsz, lss]
  refine wpAnyH_take (i := 10) (v := ?_) rfl (by kernel_rfl) (by kernel_rfl) (by kernel_rfl) (fun _ _ _ h => h) (Or.inl ⟨by rfl, fun W hSw => ?_⟩) (by assumption) ?_
  rotate_left
  · (have hq := HSX.out W hSw); (try simp only [lgt, lgz, lgs]); go_simp; any_goals (with_reducible rfl)
  simp only [Act.put, lgt, lgz, lgs, lst, lsz, lss]
  refine wpAnyH_take (i := 11) (v := ?_) rfl (by kernel_rfl) (by kernel_rfl) (by kernel_rfl) (fun _ _ _ h => h) (Or.inl ⟨by rfl, fun W hSw => ?_⟩) (by assumption) ?_
  rotate_left
  · (have hq := HSX.out W hSw); (try simp only [lgt, lgz, lgs]); go_simp; any_goals (with_reducible rfl)
  simp only [Act.put, lgt, lgz, lgs, lst, lsz, lss]
  refine wpAnyH_take (i := 12) (v := ?_) rfl (by kernel_rfl) (by kernel_rfl) (by kernel_rfl) (fun _ _ _ h => h) (Or.inl ⟨by rfl, fun W hSw => ?_⟩) (by assumption) ?_
  rotate_left
  · (have hq := HSX.out W hSw); (try simp only [lgt, lgz, lgs]); go_simp; any_goals (with_reducible rfl)
  simp only [Act.put, lgt, lgz, lgs, lst, lsz, lss]
  refine wpAnyH_take (i := 13) (v := ?_) rfl (by kernel_rfl) (by kernel_rfl) (by kernel_rfl) (fun _ _ _ h => h) (Or.inl ⟨by rfl, fun W hSw => ?_⟩) (by assumption) ?_
  rotate_left
  · (have hq := HSX.out W hSw); (try simp only [lgt, lgz, lgs]); go_simp; any_goals (with_reducible rfl)
  simp only [Act.put, lgt, lgz, lgs, lst, lsz, lss]
  refine wpAnyH_take (i := 14) (v := ?_) rfl (by kernel_rfl) (by kernel_rfl) (by kernel_rfl) (fun _ _ _ h => h) (Or.inl ⟨by rfl, fun W hSw => ?_⟩) (by assumption) ?_
  rotate_left
  · (have hq := HSX.out W hSw); (try simp only [lgt, lgz, lgs]); go_simp; any_goals (with_reducible rfl)
  simp only [Act.put, lgt, lgz, lgs, lst, lsz, lss]
  refine wpAnyH_ready (rs := [15]) (by kernel_rfl) (by simp) ?_
  refine AllReadyH.cons rfl (fun K hK => ?_) AllReadyH.nil
  (try simp only [lgt, lgz, lgs])
  go_simp
  refine hK.out _ _ (by with_reducible (repeat (first | exact Mod.refl _ _ | refine Mod.drewN ?_ _ | refine Mod.drew ?_ | refine Mod.alloc ?_ _))) (fun hHeld => ?_)
  clear hK K
  (try simp only [Act.put, lgt, lgz, lgs, lst, lsz, lss])
  generalize (w1.alloc (.cells #[.int .i64 0, .bool false, .int .i64 0, .string ⟨#[]⟩, .slice none 0 0, .slice none 0 0] 30)).drew = w2 at *
  obtain ⟨vb, hvb⟩ : ∃ vb, w1.heap.size = vb := ⟨_, rfl⟩
  rw [hvb] at HVB
  simp only [hvb]
  have HVQ := hId hvb
  clear hvb
  have v0 := HVB.out.cell 0
  have v1 := HVB.out.cell 1
  have v2 := HVB.out.cell 2
  have v3 := HVB.out.cell 3
  have v4 := HVB.out.cell 4
  have v5 := HVB.out.cell 5
  have vf := HVB.out.frozen
  have vl := HVB.out.lt
  simp only [lqt, lqz, lqs] at v0 v1 v2 v3 v4 v5
  refine wpAnyH_ready (rs := [16]) (by kernel_rfl) (by simp) ?_
  refine AllReadyH.cons rfl (fun K hK => ?_) AllReadyH.nil
  (try simp only [lgt, lgz, lgs])
  go_simp
  clear v0 v1 v2 v3 v4 v5 vf vl
  have HVS := hId ((((((HVB.out.set 0 (.int .i64 kk)).set 1 (.bool false)).set 2 (.int .i64 0)).set 3 (.string ⟨#[]⟩)).set 4 (.slice fla fln flc)).set 5 (.slice fma fmn fmc))
  have HMS : Hid (Only vb w2 ((((((w2.setCell ⟨vb, 0, none⟩ (.int .i64 kk)).setCell ⟨vb, 1, none⟩ (.bool false)).setCell ⟨vb, 2, none⟩ (.int .i64 0)).setCell ⟨vb, 3, none⟩ (.string ⟨#[]⟩)).setCell ⟨vb, 4, none⟩ (.slice fla fln flc)).setCell ⟨vb, 5, none⟩ (.slice fma fmn fmc))) := hId (by with_reducible repeat (first | exact Mod.refl _ _ | refine Only.set ?_ _ _))
  generalize ((((((w2.setCell ⟨vb, 0, none⟩ (.int .i64 kk)).setCell ⟨vb, 1, none⟩ (.bool false)).setCell ⟨vb, 2, none⟩ (.int .i64 0)).setCell ⟨vb, 3, none⟩ (.string ⟨#[]⟩)).setCell ⟨vb, 4, none⟩ (.slice fla fln flc)).setCell ⟨vb, 5, none⟩ (.slice fma fmn fmc)) = w3 at *
  have HN3 : Hid (New w1 w3) := hId (HN1.out.step HMS.out (fun k hk e => by have := HVQ.out; omega))
  refine hK.out _ _ HN3.out (fun hHeld => ?_)
  clear hK K
  (try simp only [Act.put, lgt, lgz, lgs, lst, lsz, lss])
  refine wpAnyH_done (by kernel_rfl) ?_ _
  clear hHeld HVB HN1 HMS HVL
  have HRD3 := hId (HRD1.out.mod HN3.out (fun e => e))
  have c2 := HRD3.out.cell 2
  have z2 := HRD3.out.frozen 2
  have bl := HRD3.out.lt
  simp only [RV.cells, lqt, lqz, lqs, lst, lsz, lss] at c2
  have g2 : ¬ (n : Int) < 0 := by omega
  go_upto_region 2 with (fail)
  refine wp_region_held_ord (fun W => W.cell? ⟨b, 2, none⟩ = some (.slice (some ⟨sg, 0, none⟩) (n + 1) sc) ∧ b < W.heap.size) [] [0, 1, 2, 3, 4, 5, 6, 7, 8, 9, 10, 11, 12, 13] (by kernel_rfl) (by kernel_rfl) (fun _ _ d _ _ h => by cases d <;> exact h) ?_ (fun hHeld => ?_)
  · exact ⟨c2, bl⟩
  simp only [List.length_cons, List.length_nil, List.drop_succ_cons, List.drop_zero]
  refine heldO_take ?_ (by rfl) (by rfl) (by rfl) (fun w hSw => ?_) ?_
  rotate_left
  · (try dsimp only at hSw); go_simp; any_goals (with_reducible rfl)
  simp only [Act.put, lst, lsz, lss]
  refine heldO_take ?_ (by rfl) (by rfl) (by rfl) (fun w hSw => ?_) ?_
  rotate_left
  · (try dsimp only at hSw); go_simp; any_goals (with_reducible rfl)
  simp only [Act.put, lst, lsz, lss]
  refine heldO_take ?_ (by rfl) (by rfl) (by rfl) (fun w hSw => ?_) ?_
  rotate_left
  · (try dsimp only at hSw); go_simp; any_goals (with_reducible rfl)
  simp only [Act.put, lst, lsz, lss]
  refine heldO_take ?_ (by rfl) (by rfl) (by rfl) (fun w hSw => ?_) ?_
  rotate_left
  · (try dsimp only at hSw); go_simp; any_goals (with_reducible rfl)
  simp only [Act.put, lst, lsz, lss]
  refine heldO_take ?_ (by rfl) (by rfl) (by rfl) (fun w hSw => ?_) ?_
  rotate_left
  · (try dsimp only at hSw); go_simp; any_goals (with_reducible rfl)
  simp only [Act.put, lst, lsz, lss]
  refine heldO_take ?_ (by rfl) (by rfl) (by rfl) (fun w hSw => ?_) ?_
  rotate_left
  · (try dsimp only at hSw); go_simp; any_goals (with_reducible rfl)
  simp only [Act.put, lst, lsz, lss]
  refine heldO_take ?_ (by rfl) (by rfl) (by rfl) (fun w hSw => ?_) ?_
  rotate_left
  · (try dsimp only at hSw); go_simp; any_goals (with_reducible rfl)
  simp only [Act.put, lst, lsz, lss]
  refine heldO_take ?_ (by rfl) (by rfl) (by rfl) (fun w hSw => ?_) ?_
  rotate_left
  · (try dsimp only at hSw); go_simp; any_goals (with_reducible rfl)
  simp only [Act.put, lst, lsz, lss]
  refine heldO_take ?_ (by rfl) (by rfl) (by rfl) (fun w hSw => ?_) ?_
  rotate_left
  · (try dsimp only at hSw); go_simp; any_goals (with_reducible rfl)
  simp only [Act.put, lst, lsz, lss]
  refine heldO_take ?_ (by rfl) (by rfl) (by rfl) (fun w hSw => ?_) ?_
  rotate_left
  · (try dsimp only at hSw); go_simp; any_goals (with_reducible rfl)
  simp only [Act.put, lst, lsz, lss]
  refine heldO_take ?_ (by rfl) (by rfl) (by rfl) (fun w hSw => ?_) ?_
  rotate_left
  · (try dsimp only at hSw); go_simp; any_goals (with_reducible rfl)
  simp only [Act.put, lst, lsz, lss]
  refine heldO_take ?_ (by rfl) (by rfl) (by rfl) (fun w hSw => ?_) ?_
  rotate_left
  · (try dsimp only at hSw); go_simp; any_goals (with_reducible rfl)
  simp only [Act.put, lst, lsz, lss]
  refine heldO_take ?_ (by rfl) (by rfl) (by rfl) (fun w hSw => ?_) ?_
  rotate_left
  · (try dsimp only at hSw); go_simp; any_goals (with_reducible rfl)
  simp only [Act.put, lst, lsz, lss]
  refine heldO_take ?_ (by rfl) (by rfl) (by rfl) (fun w hSw => ?_) ?_
  rotate_left
  · (try dsimp only at hSw); go_simp; any_goals (with_reducible rfl)
  simp only [Act.put, lst, lsz, lss]
  refine heldO_nil ?_
  clear hHeld
  have HRD4 : Hid (Blk (w3.setCell ⟨b, 2, none⟩ (.slice (some ⟨sg, 0, none⟩) n sc)).drew b 49 ((⟨i + 1, some ⟨sg, 0, none⟩, n, sc, false, false, ⟨ok, of, on, ow, ola, oln, olc, oma, omn, omc⟩, false, pl⟩ : RV).cells s)) := hId (by
    have h1 := (HRD3.out.set 2 (.slice (some ⟨sg, 0, none⟩) n sc)).mod ((Mod.refl (fun _ => False) _).drew) (fun e => e)
    exact h1)
  have HM4 : Hid (Only b w (w3.setCell ⟨b, 2, none⟩ (.slice (some ⟨sg, 0, none⟩) n sc)).drew) := hId ((((HM1.out.trans (HN3.out.mono (fun _ _ e => e.elim)))).setCell (p := ⟨b, 2, none⟩) (.inl rfl) _).drew)
  have HV4 : Hid (Blk (w3.setCell ⟨b, 2, none⟩ (.slice (some ⟨sg, 0, none⟩) n sc)).drew vb 30 #[.int .i64 kk, .bool false, .int .i64 0, .string ⟨#[]⟩, .slice fla fln flc, .slice fma fmn fmc]) := hId (HVS.out.mod (((Mod.refl (fun k => k = b) w3).setCell (p := ⟨b, 2, none⟩) (.inl rfl) _).drew) (fun e => by have h1 := HVS.out.ne HRD3.out (by decide); exact h1 e))
  go_upto_region 3 with (fail)
  clear c2 z2 bl
  generalize (w3.setCell ⟨b, 2, none⟩ (.slice (some ⟨sg, 0, none⟩) n sc)).drew = w4 at *
  obtain ⟨ms, h3', h4⟩ := HH.out.fr.1.mes
  have h3 : Own w B 60 7 MA.enc fma fmn fmc ms := h3'
  clear h3'
  have hmn : fmn ≤ 300000 := by have h1 := h3.1; have h2 := h4.1; have h5 := (HL.out ⟨m, name, items, mems⟩ (by simp)).2; simp only at h1 h2 h5; omega
  have h34 := h3.mod HM4.out (fun k e e2 => by subst e2; exact (h3.far' k e).2.2.ne HH.out.rd.tb (by decide) rfl)
  have hso := sort_any (F := 71) h34 (fun g e => by subst e; exact sort_end1 w4 B g fmn fmc ms h34 (by omega))
  have HMS := hId h3
  have HKS := hId h4
  have HM34 := hId h34
  clear h3 h4 h34
  have v5 := HV4.out.cell 5
  have vl := HV4.out.lt
  simp only [lqt, lqz, lqs] at v5
  go_wp2_with fail
  refine hso.mono ?_
  clear hso v5 vl
  rintro e w5 ⟨rfl, ⟨ys, hp, hsrt, hys⟩, hm5⟩
  have HV5 := hId (HV4.out.mod hm5 (fun e => (HM34.out.far' _ e).2.2.ne HV4.out.tb (by decide) rfl))
  have HRD5 := hId (HRD4.out.mod hm5 (fun e => (HM34.out.far' _ e).2.2.ne HRD4.out.tb (by decide) rfl))
  have HM5 : Hid (Mod (fun k => k = b ∨ blkOf fma = some k) w w5) := hId ((HM4.out.mono (fun k _ e => .inl e)).step hm5 (fun k _ e => .inr e))
  have HRA := hId (HH.out.popped HM5.out HRD5.out ⟨rfl, rfl, rfl⟩ (Nat.le_succ i) hi)
  have htr := HH.out.valued HONE.out HMS.out HKS.out HM5.out hp (hsrt.imp (fun h => by omega)) hys
  have HTR := hId htr
  have hb5 : B ≤ w5.heap.size := Nat.le_trans hB HM5.out.size
  have hpu := fun W (hW : New w5 W) => val_put s _ B b W _ _ q oq (HRA.out.new hW) (HTR.out.new hW) (Nat.le_trans hb5 hW.size) hlen (fun g hg => HL.out g (by simp [hg]))
  clear hp hsrt hys hm5 htr
  have v0 := HV5.out.cell 0
  have v1 := HV5.out.cell 1
  have v2 := HV5.out.cell 2
  have v3 := HV5.out.cell 3
  have v4 := HV5.out.cell 4
  have v5 := HV5.out.cell 5
  have vl := HV5.out.lt
  simp only [lqt, lqz, lqs] at v0 v1 v2 v3 v4 v5
  simp only [OF.va, HKK.out, VA.val] at hpu
  go_wp2_with fail
  refine (hpu _ (by with_reducible (repeat (first | exact Mod.refl _ _ | refine Mod.drewN ?_ _ | refine Mod.drew ?_ | refine Mod.alloc ?_ _)))).mono ?_
  clear hpu
  rintro e w6 hput
  obtain ⟨rfl, hm6, ha6⟩ := hput.at rfl rfl rfl hi
  have HM6 := hId hm6
  have HA6 := hId ha6
  clear hput hm6 ha6
  go_wp2_with fail
  go_end0
  refine ⟨rfl, ?_, HA6.out⟩
  refine ((HM5.out.mono (fun k _ e => ?_)).trans (New.fromB (by with_reducible (repeat (first | exact Mod.refl _ _ | refine Mod.drewN ?_ _ | refine Mod.drew ?_ | refine Mod.alloc ?_ _))))).trans HM6.out
  rcases e with e | e
  · subst e; exact hHB
  · exact (HMS.out.far' _ e).1

section
set_option maxHeartbeats 400000
theorem val_number (n : Int) (w : World) : Calls Tryz.prog 102 #[.int .i64 n] w fun e w' => e = .returned (VA.val ⟨2, false, n, ⟨#[]⟩, none, 0, 0, none, 0, 0⟩) ∧ New w w' := by
  have HM : Hid (∀ W', Mod (fun k => k = w.heap.size) (w.alloc (.cells #[.int .i64 0, .bool false, .int .i64 0, .string ⟨#[]⟩, .slice none 0 0, .slice none 0 0] 30)) W' → New w W') := hId (fun W' hm => (show New w (w.alloc (.cells #[.int .i64 0, .bool false, .int .i64 0, .string ⟨#[]⟩, .slice none 0 0, .slice none 0 0] 30)) from (Mod.refl _ _).alloc _).step hm (fun i hi e => by omega))
  have R := hId (Blk.new w 30 #[.int .i64 0, .bool false, .int .i64 0, .string ⟨#[]⟩, .slice none 0 0, .slice none 0 0])
  go_enter Tryz.func102, Tryz.ntmps102
  go_upto_region 1 with (fail)
  generalize w.alloc (.cells #[.int .i64 0, .bool false, .int .i64 0, .string ⟨#[]⟩, .slice none 0 0, .slice none 0 0] 30) = w1 at *
  generalize w.heap.size = q at *
  have r0 := R.out.cell 0
  have r1 := R.out.cell 1
  have r2 := R.out.cell 2
  have r3 := R.out.cell 3
  have r4 := R.out.cell 4
  have r5 := R.out.cell 5
  have f0 := R.out.frozen 0
  have f1 := R.out.frozen 1
  have f2 := R.out.frozen 2
  have f3 := R.out.frozen 3
  have f4 := R.out.frozen 4
  have f5 := R.out.frozen 5
  have rl := R.out.lt
  simp only [lqt, lqz, lqs] at r0 r1 r2 r3 r4 r5
  go_wp2_with fail
  have HW : Hid (Mod (fun k => k = q) w1 ((((((w1.setCell ⟨q, 0, none⟩ (.int .i64 2)).setCell ⟨q, 1, none⟩ (.bool false)).setCell ⟨q, 2, none⟩ (.int .i64 n)).setCell ⟨q, 3, none⟩ (.string ⟨#[]⟩)).setCell ⟨q, 4, none⟩ (.slice none 0 0)).setCell ⟨q, 5, none⟩ (.slice none 0 0))) := hId (((((((Mod.refl (fun k => k = q) w1).setCell (p := ⟨q, 0, none⟩) (.inl rfl) _).setCell (p := ⟨q, 1, none⟩) (.inl rfl) _).setCell (p := ⟨q, 2, none⟩) (.inl rfl) _).setCell (p := ⟨q, 3, none⟩) (.inl rfl) _).setCell (p := ⟨q, 4, none⟩) (.inl rfl) _).setCell (p := ⟨q, 5, none⟩) (.inl rfl) _)
  have R2 : Hid (Blk ((((((w1.setCell ⟨q, 0, none⟩ (.int .i64 2)).setCell ⟨q, 1, none⟩ (.bool false)).setCell ⟨q, 2, none⟩ (.int .i64 n)).setCell ⟨q, 3, none⟩ (.string ⟨#[]⟩)).setCell ⟨q, 4, none⟩ (.slice none 0 0)).setCell ⟨q, 5, none⟩ (.slice none 0 0)) q 30 #[(.int .i64 2), (.bool false), (.int .i64 n), (.string ⟨#[]⟩), (.slice none 0 0), (.slice none 0 0)]) := hId ((((((R.out.set 0 (.int .i64 2)).set 1 (.bool false)).set 2 (.int .i64 n)).set 3 (.string ⟨#[]⟩)).set 4 (.slice none 0 0)).set 5 (.slice none 0 0))
  clear r0 r1 r2 r3 r4 r5 f0 f1 f2 f3 f4 f5 rl
  generalize ((((((w1.setCell ⟨q, 0, none⟩ (.int .i64 2)).setCell ⟨q, 1, none⟩ (.bool false)).setCell ⟨q, 2, none⟩ (.int .i64 n)).setCell ⟨q, 3, none⟩ (.string ⟨#[]⟩)).setCell ⟨q, 4, none⟩ (.slice none 0 0)).setCell ⟨q, 5, none⟩ (.slice none 0 0)) = w2 at *
  have r0 := R2.out.cell 0
  have r1 := R2.out.cell 1
  have r2 := R2.out.cell 2
  have r3 := R2.out.cell 3
  have r4 := R2.out.cell 4
  have r5 := R2.out.cell 5
  have rf := R2.out.frozen
  have rl := R2.out.lt
  simp only [lqt, lqz, lqs] at r0 r1 r2 r3 r4 r5
  refine bodyPost_ret (v := VA.val ⟨2, false, n, ⟨#[]⟩, none, 0, 0, none, 0, 0⟩) (by simp [results, Tryz.results102, go_sem, r0, r1, r2, r3, r4, r5, rf, rl, VA.val]) rfl ⟨rfl, HM.out _ HW.out⟩
theorem val_flag (b : Bool) (w : World) : Calls Tryz.prog 100 #[.bool b] w fun e w' => e = .returned (VA.val ⟨1, b, 0, ⟨#[]⟩, none, 0, 0, none, 0, 0⟩) ∧ New w w' := by
  have HM : Hid (∀ W', Mod (fun k => k = w.heap.size) (w.alloc (.cells #[.int .i64 0, .bool false, .int .i64 0, .string ⟨#[]⟩, .slice none 0 0, .slice none 0 0] 30)) W' → New w W') := hId (fun W' hm => (show New w (w.alloc (.cells #[.int .i64 0, .bool false, .int .i64 0, .string ⟨#[]⟩, .slice none 0 0, .slice none 0 0] 30)) from (Mod.refl _ _).alloc _).step hm (fun i hi e => by omega))
  have R := hId (Blk.new w 30 #[.int .i64 0, .bool false, .int .i64 0, .string ⟨#[]⟩, .slice none 0 0, .slice none 0 0])
  go_enter Tryz.func100, Tryz.ntmps100
  go_upto_region 1 with (fail)
  generalize w.alloc (.cells #[.int .i64 0, .bool false, .int .i64 0, .string ⟨#[]⟩, .slice none 0 0, .slice none 0 0] 30) = w1 at *
  generalize w.heap.size = q at *
  have r0 := R.out.cell 0
  have r1 := R.out.cell 1
  have r2 := R.out.cell 2
  have r3 := R.out.cell 3
  have r4 := R.out.cell 4
  have r5 := R.out.cell 5
  have f0 := R.out.frozen 0
  have f1 := R.out.frozen 1
  have f2 := R.out.frozen 2
  have f3 := R.out.frozen 3
  have f4 := R.out.frozen 4
  have f5 := R.out.frozen 5
  have rl := R.out.lt
  simp only [lqt, lqz, lqs] at r0 r1 r2 r3 r4 r5
  go_wp2_with fail
  have HW : Hid (Mod (fun k => k = q) w1 ((((((w1.setCell ⟨q, 0, none⟩ (.int .i64 1)).setCell ⟨q, 1, none⟩ (.bool b)).setCell ⟨q, 2, none⟩ (.int .i64 0)).setCell ⟨q, 3, none⟩ (.string ⟨#[]⟩)).setCell ⟨q, 4, none⟩ (.slice none 0 0)).setCell ⟨q, 5, none⟩ (.slice none 0 0))) := hId (((((((Mod.refl (fun k => k = q) w1).setCell (p := ⟨q, 0, none⟩) (.inl rfl) _).setCell (p := ⟨q, 1, none⟩) (.inl rfl) _).setCell (p := ⟨q, 2, none⟩) (.inl rfl) _).setCell (p := ⟨q, 3, none⟩) (.inl rfl) _).setCell (p := ⟨q, 4, none⟩) (.inl rfl) _).setCell (p := ⟨q, 5, none⟩) (.inl rfl) _)
  have R2 : Hid (Blk ((((((w1.setCell ⟨q, 0, none⟩ (.int .i64 1)).setCell ⟨q, 1, none⟩ (.bool b)).setCell ⟨q, 2, none⟩ (.int .i64 0)).setCell ⟨q, 3, none⟩ (.string ⟨#[]⟩)).setCell ⟨q, 4, none⟩ (.slice none 0 0)).setCell ⟨q, 5, none⟩ (.slice none 0 0)) q 30 #[(.int .i64 1), (.bool b), (.int .i64 0), (.string ⟨#[]⟩), (.slice none 0 0), (.slice none 0 0)]) := hId ((((((R.out.set 0 (.int .i64 1)).set 1 (.bool b)).set 2 (.int .i64 0)).set 3 (.string ⟨#[]⟩)).set 4 (.slice none 0 0)).set 5 (.slice none 0 0))
  clear r0 r1 r2 r3 r4 r5 f0 f1 f2 f3 f4 f5 rl
  generalize ((((((w1.setCell ⟨q, 0, none⟩ (.int .i64 1)).setCell ⟨q, 1, none⟩ (.bool b)).setCell ⟨q, 2, none⟩ (.int .i64 0)).setCell ⟨q, 3, none⟩ (.string ⟨#[]⟩)).setCell ⟨q, 4, none⟩ (.slice none 0 0)).setCell ⟨q, 5, none⟩ (.slice none 0 0)) = w2 at *
  have r0 := R2.out.cell 0
  have r1 := R2.out.cell 1
  have r2 := R2.out.cell 2
  have r3 := R2.out.cell 3
  have r4 := R2.out.cell 4
  have r5 := R2.out.cell 5
  have rf := R2.out.frozen
  have rl := R2.out.lt
  simp only [lqt, lqz, lqs] at r0 r1 r2 r3 r4 r5
  refine bodyPost_ret (v := VA.val ⟨1, b, 0, ⟨#[]⟩, none, 0, 0, none, 0, 0⟩) (by simp [results, Tryz.results100, go_sem, r0, r1, r2, r3, r4, r5, rf, rl, VA.val]) rfl ⟨rfl, HM.out _ HW.out⟩
theorem val_text (t : ByteArray) (w : World) : Calls Tryz.prog 66 #[.string t] w fun e w' => e = .returned (VA.val ⟨3, false, 0, t, none, 0, 0, none, 0, 0⟩) ∧ New w w' := by
  have HM : Hid (∀ W', Mod (fun k => k = w.heap.size) (w.alloc (.cells #[.int .i64 0, .bool false, .int .i64 0, .string ⟨#[]⟩, .slice none 0 0, .slice none 0 0] 30)) W' → New w W') := hId (fun W' hm => (show New w (w.alloc (.cells #[.int .i64 0, .bool false, .int .i64 0, .string ⟨#[]⟩, .slice none 0 0, .slice none 0 0] 30)) from (Mod.refl _ _).alloc _).step hm (fun i hi e => by omega))
  have R := hId (Blk.new w 30 #[.int .i64 0, .bool false, .int .i64 0, .string ⟨#[]⟩, .slice none 0 0, .slice none 0 0])
  go_enter Tryz.func66, Tryz.ntmps66
  go_upto_region 1 with (fail)
  generalize w.alloc (.cells #[.int .i64 0, .bool false, .int .i64 0, .string ⟨#[]⟩, .slice none 0 0, .slice none 0 0] 30) = w1 at *
  generalize w.heap.size = q at *
  have r0 := R.out.cell 0
  have r1 := R.out.cell 1
  have r2 := R.out.cell 2
  have r3 := R.out.cell 3
  have r4 := R.out.cell 4
  have r5 := R.out.cell 5
  have f0 := R.out.frozen 0
  have f1 := R.out.frozen 1
  have f2 := R.out.frozen 2
  have f3 := R.out.frozen 3
  have f4 := R.out.frozen 4
  have f5 := R.out.frozen 5
  have rl := R.out.lt
  simp only [lqt, lqz, lqs] at r0 r1 r2 r3 r4 r5
  go_wp2_with fail
  have HW : Hid (Mod (fun k => k = q) w1 ((((((w1.setCell ⟨q, 0, none⟩ (.int .i64 3)).setCell ⟨q, 1, none⟩ (.bool false)).setCell ⟨q, 2, none⟩ (.int .i64 0)).setCell ⟨q, 3, none⟩ (.string t)).setCell ⟨q, 4, none⟩ (.slice none 0 0)).setCell ⟨q, 5, none⟩ (.slice none 0 0))) := hId (((((((Mod.refl (fun k => k = q) w1).setCell (p := ⟨q, 0, none⟩) (.inl rfl) _).setCell (p := ⟨q, 1, none⟩) (.inl rfl) _).setCell (p := ⟨q, 2, none⟩) (.inl rfl) _).setCell (p := ⟨q, 3, none⟩) (.inl rfl) _).setCell (p := ⟨q, 4, none⟩) (.inl rfl) _).setCell (p := ⟨q, 5, none⟩) (.inl rfl) _)
  have R2 : Hid (Blk ((((((w1.setCell ⟨q, 0, none⟩ (.int .i64 3)).setCell ⟨q, 1, none⟩ (.bool false)).setCell ⟨q, 2, none⟩ (.int .i64 0)).setCell ⟨q, 3, none⟩ (.string t)).setCell ⟨q, 4, none⟩ (.slice none 0 0)).setCell ⟨q, 5, none⟩ (.slice none 0 0)) q 30 #[(.int .i64 3), (.bool false), (.int .i64 0), (.string t), (.slice none 0 0), (.slice none 0 0)]) := hId ((((((R.out.set 0 (.int .i64 3)).set 1 (.bool false)).set 2 (.int .i64 0)).set 3 (.string t)).set 4 (.slice none 0 0)).set 5 (.slice none 0 0))
  clear r0 r1 r2 r3 r4 r5 f0 f1 f2 f3 f4 f5 rl
  generalize ((((((w1.setCell ⟨q, 0, none⟩ (.int .i64 3)).setCell ⟨q, 1, none⟩ (.bool false)).setCell ⟨q, 2, none⟩ (.int .i64 0)).setCell ⟨q, 3, none⟩ (.string t)).setCell ⟨q, 4, none⟩ (.slice none 0 0)).setCell ⟨q, 5, none⟩ (.slice none 0 0)) = w2 at *
  have r0 := R2.out.cell 0
  have r1 := R2.out.cell 1
  have r2 := R2.out.cell 2
  have r3 := R2.out.cell 3
  have r4 := R2.out.cell 4
  have r5 := R2.out.cell 5
  have rf := R2.out.frozen
  have rl := R2.out.lt
  simp only [lqt, lqz, lqs] at r0 r1 r2 r3 r4 r5
  refine bodyPost_ret (v := VA.val ⟨3, false, 0, t, none, 0, 0, none, 0, 0⟩) (by simp [results, Tryz.results66, go_sem, r0, r1, r2, r3, r4, r5, rf, rl, VA.val]) rfl ⟨rfl, HM.out _ HW.out⟩
theorem val_list (A : Option Addr) (n c : Nat) (w : World) : Calls Tryz.prog 70 #[.slice A n c] w fun e w' => e = .returned (VA.val ⟨4, false, 0, ⟨#[]⟩, A, n, c, none, 0, 0⟩) ∧ New w w' := by
  have HM : Hid (∀ W', Mod (fun k => k = w.heap.size) (w.alloc (.cells #[.int .i64 0, .bool false, .int .i64 0, .string ⟨#[]⟩, .slice none 0 0, .slice none 0 0] 30)) W' → New w W') := hId (fun W' hm => (show New w (w.alloc (.cells #[.int .i64 0, .bool false, .int .i64 0, .string ⟨#[]⟩, .slice none 0 0, .slice none 0 0] 30)) from (Mod.refl _ _).alloc _).step hm (fun i hi e => by omega))
  have R := hId (Blk.new w 30 #[.int .i64 0, .bool false, .int .i64 0, .string ⟨#[]⟩, .slice none 0 0, .slice none 0 0])
  go_enter Tryz.func70, Tryz.ntmps70
  go_upto_region 1 with (fail)
  generalize w.alloc (.cells #[.int .i64 0, .bool false, .int .i64 0, .string ⟨#[]⟩, .slice none 0 0, .slice none 0 0] 30) = w1 at *
  generalize w.heap.size = q at *
  have r0 := R.out.cell 0
  have r1 := R.out.cell 1
  have r2 := R.out.cell 2
  have r3 := R.out.cell 3
  have r4 := R.out.cell 4
  have r5 := R.out.cell 5
  have f0 := R.out.frozen 0
  have f1 := R.out.frozen 1
  have f2 := R.out.frozen 2
  have f3 := R.out.frozen 3
  have f4 := R.out.frozen 4
  have f5 := R.out.frozen 5
  have rl := R.out.lt
  simp only [lqt, lqz, lqs] at r0 r1 r2 r3 r4 r5
  go_wp2_with fail
  have HW : Hid (Mod (fun k => k = q) w1 ((((((w1.setCell ⟨q, 0, none⟩ (.int .i64 4)).setCell ⟨q, 1, none⟩ (.bool false)).setCell ⟨q, 2, none⟩ (.int .i64 0)).setCell ⟨q, 3, none⟩ (.string ⟨#[]⟩)).setCell ⟨q, 4, none⟩ (.slice A n c)).setCell ⟨q, 5, none⟩ (.slice none 0 0))) := hId (((((((Mod.refl (fun k => k = q) w1).setCell (p := ⟨q, 0, none⟩) (.inl rfl) _).setCell (p := ⟨q, 1, none⟩) (.inl rfl) _).setCell (p := ⟨q, 2, none⟩) (.inl rfl) _).setCell (p := ⟨q, 3, none⟩) (.inl rfl) _).setCell (p := ⟨q, 4, none⟩) (.inl rfl) _).setCell (p := ⟨q, 5, none⟩) (.inl rfl) _)
  have R2 : Hid (Blk ((((((w1.setCell ⟨q, 0, none⟩ (.int .i64 4)).setCell ⟨q, 1, none⟩ (.bool false)).setCell ⟨q, 2, none⟩ (.int .i64 0)).setCell ⟨q, 3, none⟩ (.string ⟨#[]⟩)).setCell ⟨q, 4, none⟩ (.slice A n c)).setCell ⟨q, 5, none⟩ (.slice none 0 0)) q 30 #[(.int .i64 4), (.bool false), (.int .i64 0), (.string ⟨#[]⟩), (.slice A n c), (.slice none 0 0)]) := hId ((((((R.out.set 0 (.int .i64 4)).set 1 (.bool false)).set 2 (.int .i64 0)).set 3 (.string ⟨#[]⟩)).set 4 (.slice A n c)).set 5 (.slice none 0 0))
  clear r0 r1 r2 r3 r4 r5 f0 f1 f2 f3 f4 f5 rl
  generalize ((((((w1.setCell ⟨q, 0, none⟩ (.int .i64 4)).setCell ⟨q, 1, none⟩ (.bool false)).setCell ⟨q, 2, none⟩ (.int .i64 0)).setCell ⟨q, 3, none⟩ (.string ⟨#[]⟩)).setCell ⟨q, 4, none⟩ (.slice A n c)).setCell ⟨q, 5, none⟩ (.slice none 0 0)) = w2 at *
  have r0 := R2.out.cell 0
  have r1 := R2.out.cell 1
  have r2 := R2.out.cell 2
  have r3 := R2.out.cell 3
  have r4 := R2.out.cell 4
  have r5 := R2.out.cell 5
  have rf := R2.out.frozen
  have rl := R2.out.lt
  simp only [lqt, lqz, lqs] at r0 r1 r2 r3 r4 r5
  refine bodyPost_ret (v := VA.val ⟨4, false, 0, ⟨#[]⟩, A, n, c, none, 0, 0⟩) (by simp [results, Tryz.results70, go_sem, r0, r1, r2, r3, r4, r5, rf, rl, VA.val]) rfl ⟨rfl, HM.out _ HW.out⟩
end
end Go.Proofs.YtjmnkdkdjnmejaaGreatDoor
