/- Reading values: the program's reader begins a list, or members. Conditions: a text of at most 240000 bytes. -/
import Derived.Test.YtjmnkdkdjnmejaaGreatDoorRvRowGrp
namespace Go.Proofs.YtjmnkdkdjnmejaaGreatDoor
open Go.RowKit
set_option linter.unusedVariables false
set_option linter.unusedSimpArgs false
theorem einfo_opn : EInfo Tryz.prog 89 1 8 := EInfo.of (z := .pointer none) (by kernel_rfl) rfl (by decide)
theorem RdAt.pendList {w : World} {B b : Nat} {s : ByteArray} {r : RV} {f : RFr} {q : List RFr} {o : OF} {oq : List OF} (h : RdAt w B b s r false (f :: q) (o :: oq)) (hf : f.mem = false) : RdAt w B b s r true (f :: q) (o :: oq) :=
  ⟨h.rd, h.hB, h.sk, ⟨h.fr.1.pend_list hf true, h.fr.2⟩, h.nd, h.hi⟩
section
set_option maxHeartbeats 1500000
set_option maxRecDepth 100000
theorem val_beginC (s : ByteArray) (r : RV) (B b : Nat) (w : World) (st : List RFr) (os : List OF) (h : RdAt w B b s r true st os) (hB : B ≤ w.heap.size) (hs : s.size ≤ 240000)
    (hlen : st.length ≤ 240000) (hl : ∀ g ∈ st, g.items.length ≤ 300000 ∧ g.mems.length ≤ 300000) (hd : r.done = false) (hbad : r.bad = false) (hbg : r.begins = false) (hc : topAt s.data.toList (spanAt blankB s.data.toList r.i) = 91) :
    Calls Tryz.prog 34 #[.pointer (some ⟨b, 0, none⟩)] w (RAt B b s (begK s.data.toList st (spanAt blankB s.data.toList r.i)) w) := by
  have hrd := h.rd
  have hHB := h.hB
  have hir := h.hi
  have HH := hId h
  obtain ⟨i, sk, sn, sc, begins, done, ⟨ok, of, on, ow, ola, oln, olc, oma, omn, omc⟩, bad, pl⟩ := r
  simp only at hd hbad hbg hir hc
  subst hd hbad hbg
  have HRD := hId hrd
  obtain ⟨L, hL⟩ : ∃ L, s.data.toList = L := ⟨_, rfl⟩
  have HL := hId hL
  simp only [hL] at hc
  rw [hL]
  clear hrd hL h
  go_enter Tryz.func34, Tryz.ntmps34
  have hsk1 := val_skip s _ b w (by omega) hir HRD.out
  simp only [HL.out] at hsk1
  obtain ⟨K, hK⟩ : ∃ K, spanAt blankB L i = K := ⟨_, rfl⟩
  simp only [hK] at hsk1 hc
  have HK := hId hK
  have hKs : K ≤ s.size := by rw [← hK, ← HL.out]; exact spanL_size _ _ hir
  have hKi : i ≤ K := by rw [← hK]; exact spanAt_ge _ _ _
  simp only [hK]
  clear hK
  rw [hc] at hsk1
  have hlt : K < s.size := by
    have h1 := topAt_lt (s := L) (i := K) (by rw [hc]; decide)
    rw [← HL.out] at h1
    exact h1
  have hl1 := fun W => val_isLetter 91 W
  have hd1 := fun W => val_isDigit 91 W
  rw [show isLetN 91 = false by decide] at hl1
  rw [show isDigN 91 = false by decide] at hd1
  obtain ⟨X, hX⟩ : ∃ X, begK L st K = X := ⟨_, rfl⟩
  have HX := hId ((begK_open false st hc).symm.trans hX)
  rw [hX]
  clear hX
  go_wp2_with fail
  refine hsk1.mono ?_
  clear hsk1
  rintro e w2 ⟨rfl, hb2, hm2⟩
  have HRD2 := hId hb2
  have HM2 := hId hm2
  have HA2 := hId (HH.out.moved HM2.out HRD2.out ⟨rfl, rfl, rfl⟩ hKi hKs)
  clear hb2 hm2
  have c1 := HRD2.out.cell 1
  have c0 := HRD2.out.cell 0
  have bl := HRD2.out.lt
  simp only [RV.cells, lqt, lqz, lqs] at c0 c1
  have z1 := HRD2.out.frozen 1
  have hk9 : (K : Int) + 1 ≤ 300000 := by omega
  have hk8 : 0 ≤ (K : Int) := by omega
  go_upto_region 8 with (fail)
  go_wp2_with fail
  refine (hl1 _).mono ?_
  rintro e w3 ⟨rfl, rfl⟩
  go_wp2_with fail
  refine (hd1 _).mono ?_
  rintro e w3 ⟨rfl, rfl⟩
  go_upto_region 19 with (fail)
  clear c0 c1 bl z1
  have HRD4 := hId (HRD2.out.set 1 (.int .i64 ((K : Int) + 1)))
  have HO4 : Hid (Only b w2 (w2.setCell ⟨b, 1, none⟩ (.int .i64 ((K : Int) + 1)))) := hId ((Mod.refl (fun k => k = b) w2).setCell (p := ⟨b, 1, none⟩) (.inl rfl) _)
  have HA4 := hId (HA2.out.moved HO4.out (r' := ⟨K + 1, sk, sn, sc, false, false, ⟨ok, of, on, ow, ola, oln, olc, oma, omn, omc⟩, false, pl⟩) HRD4.out ⟨rfl, rfl, rfl⟩ (Nat.le_succ _) hlt)
  have HM4 : Hid (Only b w (w2.setCell ⟨b, 1, none⟩ (.int .i64 ((K : Int) + 1)))) := hId (HM2.out.trans HO4.out)
  generalize w2.setCell ⟨b, 1, none⟩ (.int .i64 ((K : Int) + 1)) = w4 at *
  clear HRD4 HO4 HRD2 HA2 HM2 HRD HH
  have HRD4 := hId HA4.out.rd
  have hB4 : B ≤ w4.heap.size := Nat.le_trans hB HM4.out.size
  have hsn : sn = os.length := by have := HA4.out.sk.1; simpa using this.symm
  have hso : st.length = os.length := Frs.len _ _ _ HA4.out.fr
  have hsb : sn ≤ 240000 := by omega
  clear hsn hso
  have HSC : Hid (∀ W, New w4 W → W.cell? ⟨b, 2, none⟩ = some (.slice sk sn sc) ∧ b < W.heap.size) := hId (fun W hW => by
    have h1 := HRD4.out.mod hW (fun e => e)
    exact ⟨(h1.cell 2).trans rfl, h1.lt⟩)
  have hli := fun W => val_list none 0 0 W
  refine wp_region_held_ord (fun W => W.cell? ⟨b, 2, none⟩ = some (.slice sk sn sc) ∧ b < W.heap.size) [5, 7, 8, 9] [0, 1, 2, 3, 4, 5, 6, 7, 8, 9, 10, 11] (by kernel_rfl) (by kernel_rfl) (fun _ _ d _ _ h => by cases d <;> exact h) ?_ (fun hHeld => ?_)
  · exact HSC.out _ (by with_reducible (repeat (first | exact Mod.refl _ _ | refine Mod.drewN ?_ _ | refine Mod.drew ?_ | refine Mod.alloc ?_ _)))
  simp only [List.length_cons, List.length_nil, List.drop_succ_cons, List.drop_zero]
  refine heldO_take ?_ (by rfl) (by rfl) (by rfl) (fun w hSw => ?_) ?_
  rotate_left
  · (try dsimp only at hSw); go_simp; any_goals (with_reducible rfl)
  simp only [Act.put, lst, lsz, lss]
  refine heldO_take ?_ (by rfl) (by rfl) (by rfl) (fun w hSw => ?_) ?_
  rotate_left
  · (try dsimp only at hSw); go_simp; any_goals (with_reducible rfl)
  simp only [Act.put, lst, lsz, lss]
  refine heldO_take ?_ (by rfl) (by rfl) (by rfl) (fun w hSw => ?_) ?_
  rotate_left
  · (try dsimp only at hSw); go_simp; any_goals (with_reducible rfl)
  simp only [Act.put, lst, lsz, lss]
  refine heldO_take ?_ (by rfl) (by rfl) (by rfl) (fun w hSw => ?_) ?_
  rotate_left
  · (try dsimp only at hSw); go_simp; any_goals (with_reducible rfl)
  simp only [Act.put, lst, lsz, lss]
  refine heldO_take ?_ (by rfl) (by rfl) (by rfl) (fun w hSw => ?_) ?_
  rotate_left
  · (try dsimp only at hSw); go_simp; any_goals (with_reducible rfl)
  simp only [Act.put, lst, lsz, lss]
  refine heldO_step (by rfl) (by rfl) (by rfl) (fun K' hK => ?_)
  go_simp
  refine (hli _).mono ?_
  clear hli
  rintro e w5 ⟨rfl, hm5⟩
  have HN5 : Hid (New w4 w5) := hId ((show New w4 w4.drew from (by with_reducible (repeat (first | exact Mod.refl _ _ | refine Mod.drewN ?_ _ | refine Mod.drew ?_ | refine Mod.alloc ?_ _)))).trans hm5)
  clear hm5
  simp only [VA.val]
  go_wp2_with fail
  refine hK.out _ _ (HSC.out _ HN5.out) (fun hHeld => ?_)
  clear hK K'
  try simp only [Act.put, lst, lsz, lss]
  refine heldO_take ?_ (by rfl) (by rfl) (by rfl) (fun w hSw => ?_) ?_
  rotate_left
  · (try dsimp only at hSw); go_simp; any_goals (with_reducible rfl)
  simp only [Act.put, lst, lsz, lss]
  refine heldO_step (by rfl) (by rfl) (by rfl) (fun K' hK => ?_)
  go_simp
  have HN6 : Hid (New w4 (w5.alloc (.cells #[.int .i64 4, .bool false, .int .i64 0, .string ⟨#[]⟩, .slice none 0 0, .slice none 0 0, .string ⟨#[]⟩, .map none] 88))) := hId (HN5.out.alloc _)
  have HOB6 := hId (Blk.new w5 88 #[.int .i64 4, .bool false, .int .i64 0, .string ⟨#[]⟩, .slice none 0 0, .slice none 0 0, .string ⟨#[]⟩, .map none])
  refine hK.out _ _ (HSC.out _ HN6.out) (fun hHeld => ?_)
  clear hK K'
  try simp only [Act.put, lst, lsz, lss]
  have HZ5 : Hid (w4.heap.size ≤ w5.heap.size) := hId HN5.out.size
  generalize w5.alloc (.cells #[.int .i64 4, .bool false, .int .i64 0, .string ⟨#[]⟩, .slice none 0 0, .slice none 0 0, .string ⟨#[]⟩, .map none] 88) = w6 at *
  generalize w5.heap.size = ob at *
  clear HN5
  refine heldO_step (by rfl) (by rfl) (by rfl) (fun K' hK => ?_)
  go_simp
  have HN7 : Hid (New w4 (w6.alloc (.cells #[.pointer (some ⟨ob, 0, none⟩)] 89))) := hId (HN6.out.alloc _)
  have HPB7 := hId (Blk.new w6 89 #[.pointer (some ⟨ob, 0, none⟩)])
  have HOB7 := hId (HOB6.out.mod (show New w6 (w6.alloc (.cells #[.pointer (some ⟨ob, 0, none⟩)] 89)) from (by with_reducible (repeat (first | exact Mod.refl _ _ | refine Mod.drewN ?_ _ | refine Mod.drew ?_ | refine Mod.alloc ?_ _)))) (fun e => e))
  refine hK.out _ _ (HSC.out _ HN7.out) (fun hHeld => ?_)
  clear hK K'
  try simp only [Act.put, lst, lsz, lss]
  generalize w6.alloc (.cells #[.pointer (some ⟨ob, 0, none⟩)] 89) = w7 at *
  generalize w6.heap.size = pb at *
  clear HN6 HOB6
  have own7 := HA4.out.sk.new HN7.out
  have HZ7 : Hid (B ≤ w7.heap.size) := hId (Nat.le_trans hB4 HN7.out.size)
  refine heldO_step (by rfl) (by rfl) (by rfl) (fun K' hK => ?_)
  refine wp_push (.tmp 144) (.tmp 148) _ rfl 8 Tryz.underlying47 einfo_opn rfl (by exact own7) ob pb rfl (by exact HPB7.out) (fun j hj => rfl) (by omega) (by omega) HZ7.out ?_
  intro g9 cap9 w9 own9 hm9 hat9 hlt9
  have HM9 : Hid (Mod (fun k => k = b ∨ blkOf sk = some k) w4 w9) := hId ((HN7.out.mono (fun _ _ e => e.elim)).step hm9 (fun k _ e => .inr e))
  have HRD9 := hId ((HRD4.out.mod HN7.out (fun e => e)).mod hm9 (fun e => (HA4.out.sk.far' _ e).2.2.ne HRD4.out.tb (by decide) rfl))
  have HOB9 := hId (HOB7.out.mod hm9 (fun e => (own7.far' _ e).2.2.ne HOB7.out.tb (by decide) rfl))
  have HOW9 := hId own9
  have c2 := HRD9.out.cell 2
  have z2 := HRD9.out.frozen 2
  have bl := HRD9.out.lt
  have hgb : g9 ≠ b := by
    rcases hat9 with e | e
    · exact (own7.far' _ e).2.2.ne (HRD4.out.mod HN7.out (fun e => e)).tb (by decide)
    · have := (HRD4.out.mod HN7.out (fun e => e)).lt; omega
  simp only [RV.cells, lqt, lqz, lqs] at c2
  refine hK.out _ _ ⟨c2, bl⟩ (fun hHeld => ?_)
  clear hK K' own7 own9 hm9 hat9 hlt9 HZ7 HPB7 HOB7 HN7
  try simp only [Act.put, lst, lsz, lss]
  refine heldO_take ?_ (by rfl) (by rfl) (by rfl) (fun w hSw => ?_) ?_
  rotate_left
  · (try dsimp only at hSw); go_simp; any_goals (with_reducible rfl)
  simp only [Act.put, lst, lsz, lss]
  refine heldO_take ?_ (by rfl) (by rfl) (by rfl) (fun w hSw => ?_) ?_
  rotate_left
  · (try dsimp only at hSw); go_simp; any_goals (with_reducible rfl)
  simp only [Act.put, lst, lsz, lss]
  refine heldO_nil ?_
  clear hHeld
  have HRDa := hId (HRD9.out.set 2 (.slice (some ⟨g9, 0, none⟩) (sn + 1) cap9))
  have HOa : Hid (Only b w9 (w9.setCell ⟨b, 2, none⟩ (.slice (some ⟨g9, 0, none⟩) (sn + 1) cap9))) := hId ((Mod.refl (fun k => k = b) w9).setCell (p := ⟨b, 2, none⟩) (.inl rfl) _)
  have HAa := hId (HA4.out.opened hB4 (m := false) (mp := none) (ob := ob) (wf := w9.setCell ⟨b, 2, none⟩ (.slice (some ⟨g9, 0, none⟩) (sn + 1) cap9)) (r' := ⟨K + 1, some ⟨g9, 0, none⟩, sn + 1, cap9, false, false, ⟨ok, of, on, ow, ola, oln, olc, oma, omn, omc⟩, false, pl⟩)
    (HM9.out.step HOa.out (fun k _ e => .inl e)) HZ5.out (HOB9.out.mod HOa.out (HOB9.out.ne HRD9.out (by decide))) rfl
    (HOW9.out.mod HOa.out (fun k e e2 => by injection e with e; subst e; exact hgb e2)) HRDa.out (Nat.le_refl _) hlt)
  have HMa : Hid (Mod (From B) w (w9.setCell ⟨b, 2, none⟩ (.slice (some ⟨g9, 0, none⟩) (sn + 1) cap9))) := hId ((HM4.out.fromB hHB).trans ((HM9.out.step HOa.out (fun k _ e => .inl e)).mono (fun k _ e => by
    rcases e with e | e
    · subst e; exact hHB
    · exact (HA4.out.sk.far' _ e).1)))
  go_upto_region 20 with (fail)
  clear c2 z2 bl
  generalize w9.setCell ⟨b, 2, none⟩ (.slice (some ⟨g9, 0, none⟩) (sn + 1) cap9) = wa at *
  clear HOW9 HOB9 HRD9 HM9 HOa HA4 HRD4 HM4 HSC
  have hza : B ≤ wa.heap.size := Nat.le_trans hB HMa.out.size
  have hsk3 := val_skip s ⟨K + 1, some ⟨g9, 0, none⟩, sn + 1, cap9, false, false, ⟨ok, of, on, ow, ola, oln, olc, oma, omn, omc⟩, false, pl⟩ b wa (by omega) hlt HRDa.out
  simp only [HL.out] at hsk3
  obtain ⟨K2, hK2⟩ : ∃ K2, spanAt blankB L (K + 1) = K2 := ⟨_, rfl⟩
  simp only [hK2] at hsk3
  rw [hK2] at HX
  have hK2s : K2 ≤ s.size := by rw [← hK2, ← HL.out]; exact spanL_size _ _ hlt
  have hK2i : K + 1 ≤ K2 := by rw [← hK2]; exact spanAt_ge _ _ _
  clear hK2
  obtain ⟨d2, hd2⟩ : ∃ d, topAt L K2 = d := ⟨_, rfl⟩
  rw [hd2] at hsk3 HX
  have HD2 := hId hd2
  clear hd2
  go_wp2_with fail
  refine hsk3.mono ?_
  clear hsk3
  rintro e wb ⟨rfl, hbb, hmb⟩
  have HRDb := hId hbb
  have HMb : Hid (Mod (From B) w wb) := hId (HMa.out.trans (hmb.fromB hHB))
  have HAb := hId (HAa.out.moved hmb hbb ⟨rfl, rfl, rfl⟩ hK2i hK2s)
  have hzb : B ≤ wb.heap.size := Nat.le_trans hB HMb.out.size
  clear hbb hmb HAa HMa HRDa
  have c3 := HRDb.out.cell 3
  have z3 := HRDb.out.frozen 3
  have bl := HRDb.out.lt
  simp only [RV.cells, lqt, lqz, lqs] at c3
  by_cases hcl : d2 = 93
  · have hlt2 : K2 < s.size := by
      have h1 := topAt_lt (s := L) (i := K2) (by rw [HD2.out, hcl]; decide)
      rw [← HL.out] at h1
      exact h1
    have hE : X = putS st (RFr.new false).value (K2 + 1) := by rw [← HX.out, if_pos (by rw [hcl]; rfl)]
    have HE := hId hE
    subst hcl
    clear hE
    have hen := val_end s _ B b wb (RFr.new false) st _ os false HAb.out hzb (by omega) hlt2 (by simp [RFr.new]) (by omega) (fun g hg => by
      rcases List.mem_cons.1 hg with rfl | hg
      · exact ⟨Nat.zero_le _, Nat.zero_le _⟩
      · exact hl g hg) rfl rfl rfl
    go_wp2_with fail
    refine hen.mono ?_
    clear hen
    rintro e wc h3
    obtain ⟨rfl, hmc, hac⟩ := h3.after HMb.out
    have HMc := hId hmc
    have HAc := hId hac
    clear h3 hmc hac
    go_wp2_with fail
    go_end0
    rw [HE.out]
    exact ⟨rfl, HMc.out, HAc.out⟩
  · have hcn : ((d2.toNat : Int) == 93) = false := by
      have : d2.toNat ≠ 93 := fun e => hcl (UInt8.toNat_inj.1 e)
      simp; omega
    have hE : X = startS L (RFr.new false) st K2 := by rw [← HX.out, if_neg (fun e => hcl (by rw [e]; rfl))]
    have HE := hId hE
    clear hE
    have HRDc := hId (HRDb.out.set 3 (.bool true))
    have HOc : Hid (Only b wb (wb.setCell ⟨b, 3, none⟩ (.bool true))) := hId ((Mod.refl (fun k => k = b) wb).setCell (p := ⟨b, 3, none⟩) (.inl rfl) _)
    go_wp2_with fail
    go_end0
    rw [HE.out]
    refine ⟨rfl, HMb.out.trans (HOc.out.fromB hHB), _, _, rfl, rfl, rfl, rfl, (HAb.out.moved HOc.out (r' := ⟨K2, some ⟨g9, 0, none⟩, sn + 1, cap9, true, false, ⟨ok, of, on, ow, ola, oln, olc, oma, omn, omc⟩, false, pl⟩) HRDc.out ⟨rfl, rfl, rfl⟩ (Nat.le_refl _) hK2s).pendList rfl⟩
theorem val_beginD (s : ByteArray) (r : RV) (B b : Nat) (w : World) (st : List RFr) (os : List OF) (h : RdAt w B b s r true st os) (hB : B ≤ w.heap.size) (hs : s.size ≤ 240000)
    (hlen : st.length ≤ 240000) (hl : ∀ g ∈ st, g.items.length ≤ 300000 ∧ g.mems.length ≤ 300000) (hd : r.done = false) (hbad : r.bad = false) (hbg : r.begins = false) (hc : topAt s.data.toList (spanAt blankB s.data.toList r.i) = 123) :
    Calls Tryz.prog 34 #[.pointer (some ⟨b, 0, none⟩)] w (RAt B b s (begK s.data.toList st (spanAt blankB s.data.toList r.i)) w) := by
  have hrd := h.rd
  have hHB := h.hB
  have hir := h.hi
  have HH := hId h
  obtain ⟨i, sk, sn, sc, begins, done, ⟨ok, of, on, ow, ola, oln, olc, oma, omn, omc⟩, bad, pl⟩ := r
  simp only at hd hbad hbg hir hc
  subst hd hbad hbg
  have HRD := hId hrd
  obtain ⟨L, hL⟩ : ∃ L, s.data.toList = L := ⟨_, rfl⟩
  have HL := hId hL
  simp only [hL] at hc
  rw [hL]
  clear hrd hL h
  go_enter Tryz.func34, Tryz.ntmps34
  have hsk1 := val_skip s _ b w (by omega) hir HRD.out
  simp only [HL.out] at hsk1
  obtain ⟨K, hK⟩ : ∃ K, spanAt blankB L i = K := ⟨_, rfl⟩
  simp only [hK] at hsk1 hc
  have HK := hId hK
  have hKs : K ≤ s.size := by rw [← hK, ← HL.out]; exact spanL_size _ _ hir
  have hKi : i ≤ K := by rw [← hK]; exact spanAt_ge _ _ _
  simp only [hK]
  clear hK
  rw [hc] at hsk1
  have hlt : K < s.size := by
    have h1 := topAt_lt (s := L) (i := K) (by rw [hc]; decide)
    rw [← HL.out] at h1
    exact h1
  have hl1 := fun W => val_isLetter 123 W
  have hd1 := fun W => val_isDigit 123 W
  rw [show isLetN 123 = false by decide] at hl1
  rw [show isDigN 123 = false by decide] at hd1
  obtain ⟨X, hX⟩ : ∃ X, begK L st K = X := ⟨_, rfl⟩
  have HX := hId ((begK_open true st hc).symm.trans hX)
  rw [hX]
  clear hX
  go_wp2_with fail
  refine hsk1.mono ?_
  clear hsk1
  rintro e w2 ⟨rfl, hb2, hm2⟩
  have HRD2 := hId hb2
  have HM2 := hId hm2
  have HA2 := hId (HH.out.moved HM2.out HRD2.out ⟨rfl, rfl, rfl⟩ hKi hKs)
  clear hb2 hm2
  have c1 := HRD2.out.cell 1
  have c0 := HRD2.out.cell 0
  have bl := HRD2.out.lt
  simp only [RV.cells, lqt, lqz, lqs] at c0 c1
  have z1 := HRD2.out.frozen 1
  have hk9 : (K : Int) + 1 ≤ 300000 := by omega
  have hk8 : 0 ≤ (K : Int) := by omega
  go_upto_region 8 with (fail)
  go_wp2_with fail
  refine (hl1 _).mono ?_
  rintro e w3 ⟨rfl, rfl⟩
  go_wp2_with fail
  refine (hd1 _).mono ?_
  rintro e w3 ⟨rfl, rfl⟩
  go_upto_region 25 with (fail)
  clear c0 c1 bl z1
  have HRD4 := hId (HRD2.out.set 1 (.int .i64 ((K : Int) + 1)))
  have HO4 : Hid (Only b w2 (w2.setCell ⟨b, 1, none⟩ (.int .i64 ((K : Int) + 1)))) := hId ((Mod.refl (fun k => k = b) w2).setCell (p := ⟨b, 1, none⟩) (.inl rfl) _)
  have HA4 := hId (HA2.out.moved HO4.out (r' := ⟨K + 1, sk, sn, sc, false, false, ⟨ok, of, on, ow, ola, oln, olc, oma, omn, omc⟩, false, pl⟩) HRD4.out ⟨rfl, rfl, rfl⟩ (Nat.le_succ _) hlt)
  have HM4 : Hid (Only b w (w2.setCell ⟨b, 1, none⟩ (.int .i64 ((K : Int) + 1)))) := hId (HM2.out.trans HO4.out)
  generalize w2.setCell ⟨b, 1, none⟩ (.int .i64 ((K : Int) + 1)) = w4 at *
  clear HRD4 HO4 HRD2 HA2 HM2 HRD HH
  have HRD4 := hId HA4.out.rd
  have hB4 : B ≤ w4.heap.size := Nat.le_trans hB HM4.out.size
  have hsn : sn = os.length := by have := HA4.out.sk.1; simpa using this.symm
  have hso : st.length = os.length := Frs.len _ _ _ HA4.out.fr
  have hsb : sn ≤ 240000 := by omega
  clear hsn hso
  have HSC : Hid (∀ W, New w4 W → W.cell? ⟨b, 2, none⟩ = some (.slice sk sn sc) ∧ b < W.heap.size) := hId (fun W hW => by
    have h1 := HRD4.out.mod hW (fun e => e)
    exact ⟨(h1.cell 2).trans rfl, h1.lt⟩)
  have c2 := (HSC.out _ (Mod.refl _ _)).1
  have bl := (HSC.out _ (Mod.refl _ _)).2
  have hmm := @run_makeMap Tryz.prog
  have HMP5 : Hid (FMap strKeys (w4.alloc (.map #[] 0)) w4.heap.size (.bool false) (fun _ => .bool false)) := hId (FMap.made (heap_alloc_new w4 _))
  have HOB6 : Hid (Blk ((w4.alloc (.map #[] 0)).alloc (.cells #[.int .i64 5, .bool false, .int .i64 0, .string ⟨#[]⟩, .slice none 0 0, .slice none 0 0, .string ⟨#[]⟩, .map (some w4.heap.size)] 88)) (w4.heap.size + 1) 88 #[.int .i64 5, .bool false, .int .i64 0, .string ⟨#[]⟩, .slice none 0 0, .slice none 0 0, .string ⟨#[]⟩, .map (some w4.heap.size)]) := hId (Blk.new' _ _ (by simp))
  have HPB7 : Hid (Blk (((w4.alloc (.map #[] 0)).alloc (.cells #[.int .i64 5, .bool false, .int .i64 0, .string ⟨#[]⟩, .slice none 0 0, .slice none 0 0, .string ⟨#[]⟩, .map (some w4.heap.size)] 88)).alloc (.cells #[.pointer (some ⟨w4.heap.size + 1, 0, none⟩)] 89)) (w4.heap.size + 2) 89 #[.pointer (some ⟨w4.heap.size + 1, 0, none⟩)]) := hId (Blk.new' _ _ (by simp))
  have HN5 : Hid (New (w4.alloc (.map #[] 0)) (((w4.alloc (.map #[] 0)).alloc (.cells #[.int .i64 5, .bool false, .int .i64 0, .string ⟨#[]⟩, .slice none 0 0, .slice none 0 0, .string ⟨#[]⟩, .map (some w4.heap.size)] 88)).alloc (.cells #[.pointer (some ⟨w4.heap.size + 1, 0, none⟩)] 89))) := hId (by with_reducible (repeat (first | exact Mod.refl _ _ | refine Mod.drewN ?_ _ | refine Mod.drew ?_ | refine Mod.alloc ?_ _)))
  have HN6 : Hid (New ((w4.alloc (.map #[] 0)).alloc (.cells #[.int .i64 5, .bool false, .int .i64 0, .string ⟨#[]⟩, .slice none 0 0, .slice none 0 0, .string ⟨#[]⟩, .map (some w4.heap.size)] 88)) (((w4.alloc (.map #[] 0)).alloc (.cells #[.int .i64 5, .bool false, .int .i64 0, .string ⟨#[]⟩, .slice none 0 0, .slice none 0 0, .string ⟨#[]⟩, .map (some w4.heap.size)] 88)).alloc (.cells #[.pointer (some ⟨w4.heap.size + 1, 0, none⟩)] 89))) := hId (by with_reducible (repeat (first | exact Mod.refl _ _ | refine Mod.drewN ?_ _ | refine Mod.drew ?_ | refine Mod.alloc ?_ _)))
  have HN7 : Hid (New w4 (((w4.alloc (.map #[] 0)).alloc (.cells #[.int .i64 5, .bool false, .int .i64 0, .string ⟨#[]⟩, .slice none 0 0, .slice none 0 0, .string ⟨#[]⟩, .map (some w4.heap.size)] 88)).alloc (.cells #[.pointer (some ⟨w4.heap.size + 1, 0, none⟩)] 89))) := hId (by with_reducible (repeat (first | exact Mod.refl _ _ | refine Mod.drewN ?_ _ | refine Mod.drew ?_ | refine Mod.alloc ?_ _)))
  have own7 := HA4.out.sk.new HN7.out
  have HZ7 : Hid (B ≤ (((w4.alloc (.map #[] 0)).alloc (.cells #[.int .i64 5, .bool false, .int .i64 0, .string ⟨#[]⟩, .slice none 0 0, .slice none 0 0, .string ⟨#[]⟩, .map (some w4.heap.size)] 88)).alloc (.cells #[.pointer (some ⟨w4.heap.size + 1, 0, none⟩)] 89)).heap.size) := hId (Nat.le_trans hB4 HN7.out.size)
  go_upto_region 26 with (at_builtin; refine wpList_push rfl _ _ _ rfl 8 Tryz.underlying47 einfo_opn rfl own7 (w4.heap.size + 1) (w4.heap.size + 2) rfl HPB7.out (fun j hj => rfl) (by omega) (by omega) HZ7.out ?_; intro g9 cap9 w9 own9 hm9 hat9 hlt9; have c2 := ((HRD4.out.mod HN7.out (fun e => e)).mod hm9 (fun e => (HA4.out.sk.far' _ e).2.2.ne HRD4.out.tb (by decide) rfl)).cell 2; have z2 := ((HRD4.out.mod HN7.out (fun e => e)).mod hm9 (fun e => (HA4.out.sk.far' _ e).2.2.ne HRD4.out.tb (by decide) rfl)).frozen 2; have bl := ((HRD4.out.mod HN7.out (fun e => e)).mod hm9 (fun e => (HA4.out.sk.far' _ e).2.2.ne HRD4.out.tb (by decide) rfl)).lt; simp only [RV.cells, lqt, lqz, lqs] at c2)
  have HM9 : Hid (Mod (fun k => k = b ∨ blkOf sk = some k) w4 w9) := hId ((HN7.out.mono (fun _ _ e => e.elim)).step hm9 (fun k _ e => .inr e))
  have HRD9 := hId ((HRD4.out.mod HN7.out (fun e => e)).mod hm9 (fun e => (HA4.out.sk.far' _ e).2.2.ne HRD4.out.tb (by decide) rfl))
  have hob7 := HOB6.out.mod HN6.out (fun e => e)
  have hmp7 := HMP5.out.mod HN5.out (fun e => e)
  have HOB9 := hId (hob7.mod hm9 (fun e => (own7.far' _ e).2.2.ne hob7.tb (by decide) rfl))
  have HMP9 := hId (hmp7.mod hm9 (fun e => hmp7.ne_blk (own7.far' _ e).2.2 rfl))
  have HOW9 := hId own9
  have hgb : g9 ≠ b := by
    rcases hat9 with e | e
    · exact (own7.far' _ e).2.2.ne (HRD4.out.mod HN7.out (fun e => e)).tb (by decide)
    · have := (HRD4.out.mod HN7.out (fun e => e)).lt; omega
  clear own7 own9 hm9 hat9 hlt9 HZ7 HPB7 HN7 HN5 HN6 hob7 hmp7 HOB6 HMP5 hmm
  have HRDa := hId (HRD9.out.set 2 (.slice (some ⟨g9, 0, none⟩) (sn + 1) cap9))
  have HOa : Hid (Only b w9 (w9.setCell ⟨b, 2, none⟩ (.slice (some ⟨g9, 0, none⟩) (sn + 1) cap9))) := hId ((Mod.refl (fun k => k = b) w9).setCell (p := ⟨b, 2, none⟩) (.inl rfl) _)
  have hmpa := HMP9.out.mod HOa.out (fun e => HMP9.out.ne_blk HRD9.out.tb e.symm)
  have HAa := hId (HA4.out.opened hB4 (m := true) (mp := some w4.heap.size) (ob := w4.heap.size + 1) (wf := w9.setCell ⟨b, 2, none⟩ (.slice (some ⟨g9, 0, none⟩) (sn + 1) cap9)) (r' := ⟨K + 1, some ⟨g9, 0, none⟩, sn + 1, cap9, false, false, ⟨ok, of, on, ow, ola, oln, olc, oma, omn, omc⟩, false, pl⟩)
    (HM9.out.step HOa.out (fun k _ e => .inl e)) (Nat.le_succ _) (HOB9.out.mod HOa.out (HOB9.out.ne HRD9.out (by decide))) ⟨_, rfl, Nat.le_refl _, hmpa⟩
    (HOW9.out.mod HOa.out (fun k e e2 => by injection e with e; subst e; exact hgb e2)) HRDa.out (Nat.le_refl _) hlt)
  have HMa : Hid (Mod (From B) w (w9.setCell ⟨b, 2, none⟩ (.slice (some ⟨g9, 0, none⟩) (sn + 1) cap9))) := hId ((HM4.out.fromB hHB).trans ((HM9.out.step HOa.out (fun k _ e => .inl e)).mono (fun k _ e => by
    rcases e with e | e
    · subst e; exact hHB
    · exact (HA4.out.sk.far' _ e).1)))
  clear hmpa HMP9
  clear c2 z2 bl
  generalize w9.setCell ⟨b, 2, none⟩ (.slice (some ⟨g9, 0, none⟩) (sn + 1) cap9) = wa at *
  clear HOW9 HOB9 HRD9 HM9 HOa HA4 HRD4 HM4 HSC
  have hza : B ≤ wa.heap.size := Nat.le_trans hB HMa.out.size
  have hsk3 := val_skip s ⟨K + 1, some ⟨g9, 0, none⟩, sn + 1, cap9, false, false, ⟨ok, of, on, ow, ola, oln, olc, oma, omn, omc⟩, false, pl⟩ b wa (by omega) hlt HRDa.out
  simp only [HL.out] at hsk3
  obtain ⟨K2, hK2⟩ : ∃ K2, spanAt blankB L (K + 1) = K2 := ⟨_, rfl⟩
  simp only [hK2] at hsk3
  rw [hK2] at HX
  have hK2s : K2 ≤ s.size := by rw [← hK2, ← HL.out]; exact spanL_size _ _ hlt
  have hK2i : K + 1 ≤ K2 := by rw [← hK2]; exact spanAt_ge _ _ _
  clear hK2
  obtain ⟨d2, hd2⟩ : ∃ d, topAt L K2 = d := ⟨_, rfl⟩
  rw [hd2] at hsk3 HX
  have HD2 := hId hd2
  clear hd2
  go_wp2_with fail
  refine hsk3.mono ?_
  clear hsk3
  rintro e wb ⟨rfl, hbb, hmb⟩
  have HRDb := hId hbb
  have HMb : Hid (Mod (From B) w wb) := hId (HMa.out.trans (hmb.fromB hHB))
  have HAb := hId (HAa.out.moved hmb hbb ⟨rfl, rfl, rfl⟩ hK2i hK2s)
  have hzb : B ≤ wb.heap.size := Nat.le_trans hB HMb.out.size
  clear hbb hmb HAa HMa HRDa
  have c3 := HRDb.out.cell 3
  have z3 := HRDb.out.frozen 3
  have bl := HRDb.out.lt
  simp only [RV.cells, lqt, lqz, lqs] at c3
  by_cases hcl : d2 = 125
  · have hlt2 : K2 < s.size := by
      have h1 := topAt_lt (s := L) (i := K2) (by rw [HD2.out, hcl]; decide)
      rw [← HL.out] at h1
      exact h1
    have hE : X = putS st (RFr.new true).value (K2 + 1) := by rw [← HX.out, if_pos (by rw [hcl]; rfl)]
    have HE := hId hE
    subst hcl
    clear hE
    have hen := val_end s _ B b wb (RFr.new true) st _ os false HAb.out hzb (by omega) hlt2 (by simp [RFr.new]) (by omega) (fun g hg => by
      rcases List.mem_cons.1 hg with rfl | hg
      · exact ⟨Nat.zero_le _, Nat.zero_le _⟩
      · exact hl g hg) rfl rfl rfl
    go_wp2_with fail
    refine hen.mono ?_
    clear hen
    rintro e wc h3
    obtain ⟨rfl, hmc, hac⟩ := h3.after HMb.out
    have HMc := hId hmc
    have HAc := hId hac
    clear h3 hmc hac
    go_wp2_with fail
    go_end0
    rw [HE.out]
    exact ⟨rfl, HMc.out, HAc.out⟩
  · have hcn : ((d2.toNat : Int) == 125) = false := by
      have : d2.toNat ≠ 125 := fun e => hcl (UInt8.toNat_inj.1 e)
      simp; omega
    have hE : X = startS L (RFr.new true) st K2 := by rw [← HX.out, if_neg (fun e => hcl (by rw [e]; rfl))]
    have HE := hId hE
    clear hE
    have hmem := val_member s _ B b wb (RFr.new true) st _ os HAb.out rfl hzb hs (by omega) rfl rfl rfl
    simp only [HL.out] at hmem
    go_wp2_with fail
    refine hmem.mono ?_
    clear hmem
    rintro e wc h3
    obtain ⟨rfl, hmc, hac⟩ := h3.after HMb.out
    have HMc := hId hmc
    have HAc := hId hac
    clear h3 hmc hac
    go_wp2_with fail
    go_end0
    rw [HE.out]
    exact ⟨rfl, HMc.out, HAc.out⟩
end
end Go.Proofs.YtjmnkdkdjnmejaaGreatDoor
