/- Several texts in one. (1) Reading values: the machine goes on, and never asks what is open where nothing is. No program in sight. No conditions. (2) Reading values: the program's reader runs. Conditions: a text of at most 240000 bytes. -/
import Derived.Test.YtjmnkdkdjnmejaaGreatDoorRvLaw
import Derived.Test.YtjmnkdkdjnmejaaGreatDoorRvBeg3

namespace Go.Proofs.YtjmnkdkdjnmejaaGreatDoor
open Go.RowKit
set_option linter.unusedVariables false
set_option linter.unusedSimpArgs false

theorem putS_at {st st' : List RFr} {v : VT} {j j' : Nat} {b : Bool} (h : putS st v j = .run b st' j') : j' = j ∧ st' ≠ [] := by
  cases st with
  | nil => cases h
  | cons f r => injection h with h1 h2 h3; subst h2 h3; exact ⟨rfl, by simp⟩
theorem memS_adv {s : List UInt8} {f : RFr} {r st : List RFr} {i j : Nat} {b : Bool} (h : memS s f r i = .run b st j) : i < j ∧ st ≠ [] := by
  unfold memS at h
  have h0 := spanAt_ge blankB s i
  split at h
  · cases h
  · split at h
    · cases h
    · rename_i o m hq
      have h1 := spanAt_ge blankB s (spanAt blankB s i + 1 + m)
      split at h
      · cases h
      · split at h
        · cases h
        · injection h with h2 h3 h4
          subst h3 h4
          exact ⟨by omega, by simp⟩
theorem begK_adv {s : List UInt8} {st st' : List RFr} {k j : Nat} {b : Bool} (h : begK s st k = .run b st' j) : k < j ∧ st' ≠ [] := by
  unfold begK at h
  split at h
  · split at h
    · cases h
    · have := putS_at h; exact ⟨by omega, this.2⟩
  · split at h
    · rename_i hst
      have hlt := topAt_lt (s := s) (i := k) (fun e => by rw [e] at hst; exact absurd hst (by decide))
      have he2 : k + 1 ≤ spanAt rowB s k := by
        rw [spanAt_yes hlt (by rw [← topAt_get hlt]; exact start_row hst)]
        exact spanAt_ge _ _ _
      split at h
      · cases h
      · have := putS_at h; exact ⟨by omega, this.2⟩
    · have h2 := spanAt_ge blankB s (k + 1)
      split at h
      · split at h
        · have := putS_at h; exact ⟨by omega, this.2⟩
        · injection h with h3 h4 h5
          subst h4 h5
          exact ⟨by omega, by simp⟩
      · split at h
        · split at h
          · have := putS_at h; exact ⟨by omega, this.2⟩
          · have := memS_adv h; exact ⟨by omega, this.2⟩
        · cases h
theorem nextK_adv {s : List UInt8} {f : RFr} {r st : List RFr} {k j : Nat} {b : Bool} (h : nextK s f r k = .run b st j) : k < j ∧ st ≠ [] := by
  unfold nextK at h
  split at h
  · split at h
    · have := memS_adv h; exact ⟨by omega, this.2⟩
    · injection h with h1 h2 h3
      subst h2 h3
      exact ⟨by omega, by simp⟩
  · split at h
    · have := putS_at h; exact ⟨by omega, this.2⟩
    · cases h
/-- where nothing is open, a value must come -/
def RSt.good : RSt → Bool
  | .run false [] _ => false
  | _ => true
theorem RSt.good_run {st : List RFr} {i : Nat} (h : (RSt.run false st i).good = true) : st ≠ [] := by
  rintro rfl; cases h
theorem RSt.good_of {b : Bool} {st : List RFr} {i : Nat} (h : st ≠ []) : (RSt.run b st i).good = true := by
  cases b with
  | true => rfl
  | false => cases st with
    | nil => exact absurd rfl h
    | cons f r => rfl
theorem step_adv {s : List UInt8} {b b' : Bool} {st st' : List RFr} {i j : Nat} (hg : (RSt.run b st i).good = true) (h : stepS s (.run b st i) = .run b' st' j) : i < j ∧ st' ≠ [] := by
  have h0 := spanAt_ge blankB s i
  cases b with
  | true => have := begK_adv h; exact ⟨by omega, this.2⟩
  | false => cases st with
    | nil => cases hg
    | cons f r => have := nextK_adv h; exact ⟨by omega, this.2⟩
theorem step_good {s : List UInt8} {b : Bool} {st : List RFr} {i : Nat} (hg : (RSt.run b st i).good = true) : (stepS s (.run b st i)).good = true := by
  cases h : stepS s (.run b st i) with
  | run b' st' j => exact RSt.good_of (step_adv hg h).2
  | fin v j => rfl
  | bad p => rfl
def msr (n : Nat) : RSt → Nat
  | .run _ _ i => n + 1 - i
  | _ => 0
theorem step_msr {s : List UInt8} {b : Bool} {st : List RFr} {i : Nat} (hg : (RSt.run b st i).good = true) (hi : i ≤ s.length) : msr s.length (stepS s (.run b st i)) < msr s.length (.run b st i) := by
  cases h : stepS s (.run b st i) with
  | run b' st' j => have := (step_adv hg h).1; simp only [msr]; omega
  | fin v j => simp only [msr]; omega
  | bad p => simp only [msr]; omega
/-- what stands behind the value must be blank -/
def finS (s : List UInt8) : RSt → RSt
  | .fin v i => if spanAt blankB s i < s.length then .bad (spanAt blankB s i) else .fin v (spanAt blankB s i)
  | x => x
theorem Leads.snoc {s : List UInt8} {a : RSt} {b : Bool} {st : List RFr} {i : Nat} (h : Leads s a (.run b st i)) : Leads s a (stepS s (.run b st i)) := h.trans (Leads.one rfl)
/-- every state leads to an end -/
theorem Leads.ends {s : List UInt8} : ∀ (m : Nat) (x : RSt), msr s.length x ≤ m → x.good = true → OkM s.length x → s.length ≤ 240000 → ∃ y, Leads s x y ∧ y.ends = true
  | m, .fin v i, _, _, _, _ => ⟨_, .refl _, rfl⟩
  | m, .bad p, _, _, _, _ => ⟨_, .refl _, rfl⟩
  | 0, .run b st i, hm, _, ho, _ => by
    have h1 : OkS s.length i st := ho
    have := h1.le
    simp only [msr] at hm
    omega
  | m + 1, .run b st i, hm, hg, ho, hs => by
    have h1 : OkS s.length i st := ho
    have h2 := step_msr hg h1.le
    obtain ⟨y, h3, h4⟩ := Leads.ends m (stepS s (.run b st i)) (by omega) (step_good hg) (OkM.step hs ho) hs
    exact ⟨y, .step _ _ _ _ h3, h4⟩

theorem val_begin (s : ByteArray) (r : RV) (B b : Nat) (w : World) (st : List RFr) (os : List OF) (h : RdAt w B b s r true st os) (hB : B ≤ w.heap.size) (hs : s.size ≤ 240000)
    (hlen : st.length ≤ 240000) (hl : ∀ g ∈ st, g.items.length ≤ 300000 ∧ g.mems.length ≤ 300000) (hd : r.done = false) (hbad : r.bad = false) (hbg : r.begins = false) :
    Calls Tryz.prog 34 #[.pointer (some ⟨b, 0, none⟩)] w (RAt B b s (begK s.data.toList st (spanAt blankB s.data.toList r.i)) w) := by
  by_cases h1 : topAt s.data.toList (spanAt blankB s.data.toList r.i) = 34
  · exact val_beginA s r B b w st os h hB hs hlen hl hd hbad hbg h1
  · by_cases h2 : startB (topAt s.data.toList (spanAt blankB s.data.toList r.i)) = true
    · exact val_beginB s r B b w st os h hB hs hlen hl hd hbad hbg h2
    · by_cases h3 : topAt s.data.toList (spanAt blankB s.data.toList r.i) = 91
      · exact val_beginC s r B b w st os h hB hs hlen hl hd hbad hbg h3
      · by_cases h4 : topAt s.data.toList (spanAt blankB s.data.toList r.i) = 123
        · exact val_beginD s r B b w st os h hB hs hlen hl hd hbad hbg h4
        · exact val_beginE s r B b w st os h hB hs hlen hl hd hbad hbg h1 (by simpa using h2) h3 h4
def bitAt (w : World) (a : Addr) : Bool := match w.cell? a with
  | some (.bool b) => b
  | _ => false
theorem bitAt_of {w : World} {a : Addr} {b : Bool} (h : w.cell? a = some (.bool b)) : bitAt w a = b := by unfold bitAt; rw [h]
/-- how much is left, read off the reader's block -/
def msW (b n : Nat) (w : World) : Nat := if bitAt w ⟨b, 11, none⟩ || bitAt w ⟨b, 4, none⟩ then 0 else n + 1 - iAt b w
theorem msW_of {b n : Nat} {s : ByteArray} {w : World} {r : RV} (h : Blk w b 49 (r.cells s)) : msW b n w = if r.bad || r.done then 0 else n + 1 - r.i := by
  have c1 := h.cell 1
  have c4 := h.cell 4
  have c11 := h.cell 11
  simp only [RV.cells, lqt, lqz, lqs] at c1 c4 c11
  unfold msW
  rw [bitAt_of c4, bitAt_of c11, iAt_of c1]
theorem AtS.ms {b B n : Nat} {s : ByteArray} {w : World} {X : RSt} (h : AtS w B b s X) : msW b n w = msr n X := by
  cases X with
  | run bg st i =>
    obtain ⟨r, os, h1, h2, h3, h4, h5⟩ := h
    rw [msW_of h5.rd, h4, h3, h1]; rfl
  | fin v i =>
    obtain ⟨r, h1, h2, h3, h4, h5, h6⟩ := h
    rw [msW_of h5, h4, h3]; rfl
  | bad p =>
    obtain ⟨r, h1, h2, h3, h4⟩ := h
    rw [msW_of h4, h2]; rfl
set_option maxHeartbeats 1500000
set_option maxRecDepth 100000 in
theorem val_run (s : ByteArray) (r : RV) (B b : Nat) (w : World) (h : RdAt w B b s r true [] []) (hB : B ≤ w.heap.size) (hs : s.size ≤ 240000) (hi : r.i = 0) (hd : r.done = false) (hbad : r.bad = false) :
    Calls Tryz.prog 17 #[.pointer (some ⟨b, 0, none⟩)] w fun e w' => ∃ x, Leads s.data.toList (.run true [] 0) x ∧ x.ends = true ∧ RAt B b s (finS s.data.toList x) w e w' := by
  have hrd := h.rd
  have hHB := h.hB
  have HH := hId h
  obtain ⟨i, sk, sn, sc, begins, done, ⟨ok, of, on, ow, ola, oln, olc, oma, omn, omc⟩, bad, pl⟩ := r
  simp only at hi hd hbad
  subst hi hd hbad
  obtain ⟨L, hL⟩ : ∃ L, s.data.toList = L := ⟨_, rfl⟩
  have HL := hId hL
  have HLL : Hid (L.length = s.size) := hId (by rw [← hL]; rfl)
  rw [hL]
  clear hL
  have z3 := hrd.frozen 3
  have c3 := hrd.cell 3
  have bl := hrd.lt
  simp only [RV.cells, lqt, lqz, lqs] at c3
  have HRD1 := hId (hrd.set 3 (.bool true))
  have HO1 : Hid (Only b w (w.setCell ⟨b, 3, none⟩ (.bool true))) := hId ((Mod.refl (fun k => k = b) w).setCell (p := ⟨b, 3, none⟩) (.inl rfl) _)
  have HA1 := hId (HH.out.moved HO1.out (r' := ⟨0, sk, sn, sc, true, false, ⟨ok, of, on, ow, ola, oln, olc, oma, omn, omc⟩, false, pl⟩) HRD1.out ⟨rfl, rfl, rfl⟩ (Nat.le_refl _) (Nat.zero_le _))
  have HM1 : Hid (Mod (From B) w (w.setCell ⟨b, 3, none⟩ (.bool true))) := hId (HO1.out.fromB hHB)
  have HAT1 : Hid (AtS (w.setCell ⟨b, 3, none⟩ (.bool true)) B b s (.run true [] 0)) := hId ⟨_, _, rfl, rfl, rfl, rfl, HA1.out⟩
  have HOK0 : Hid (OkM L.length (.run true [] 0)) := hId ⟨Nat.zero_le _, fun D => Nat.zero_le _, fun f hf => absurd hf (by simp), Nat.zero_le _⟩
  clear hrd HRD1 HA1 HO1 HH
  go_enter Tryz.func17, Tryz.ntmps17
  go_wp2_with fail
  clear z3 c3 bl
  generalize w.setCell ⟨b, 3, none⟩ (.bool true) = w1 at *
  go_loopw [2] (fun _ wr => ∃ X, Hid (AtS wr B b s X) ∧ Hid (Leads L (.run true [] 0) X) ∧ Hid (Mod (From B) w wr) ∧ Hid (X.good = true)) (fun _ wr => msW b L.length wr)
  case atStart => exact ⟨_, HAT1, hId (.refl _), HM1, hId rfl⟩
  case round =>
    rename World => wr
    obtain ⟨X, HAT, HLD, HM, HGD⟩ := hrel
    clear HAT1 HM1
    have HOK := hId (HLD.out.ok (by have := HLL.out; omega) HOK0.out)
    have HMS : Hid (msW b L.length wr = msr L.length X) := hId HAT.out.ms
    cases X with
    | run bg st i =>
      have HOKS : Hid (OkS L.length i st) := hId HOK.out
      have HNX := hId HLD.out.snoc
      have HGN := hId (step_good (s := L) HGD.out)
      have HMN := hId (step_msr (s := L) HGD.out HOKS.out.le)
      obtain ⟨r, os, hri, hbg, hdn, hbd, hrd⟩ := HAT.out
      obtain ⟨i', sk, sn, sc, begins, done, ⟨ok, of, on, ow, ola, oln, olc, oma, omn, omc⟩, bad, pl⟩ := r
      simp only at hri hbg hdn hbd
      subst hri hbg hdn hbd
      have HA := hId hrd
      have c3 := hrd.rd.cell 3
      have z3 := hrd.rd.frozen 3
      have c4 := hrd.rd.cell 4
      have c11 := hrd.rd.cell 11
      have bl := hrd.rd.lt
      have his : i' ≤ s.size := hrd.hi
      simp only [RV.cells, lqt, lqz, lqs] at c3 c4 c11
      have hlen : st.length ≤ 240000 := by have h1 := HOKS.out.len; have h2 := HLL.out; omega
      have hlb : ∀ g ∈ st, g.items.length ≤ 300000 ∧ g.mems.length ≤ 300000 := fun g hg => by
        have h1 := HOKS.out.fr g hg
        have h2 := h1.li
        have h3 := h1.lm
        omega
      have hzr : B ≤ wr.heap.size := Nat.le_trans hB HM.out.size
      clear hrd
      cases begins with
      | true =>
        have HRD2 := hId (HA.out.rd.set 3 (.bool false))
        have HO2 : Hid (Only b wr (wr.setCell ⟨b, 3, none⟩ (.bool false))) := hId ((Mod.refl (fun k => k = b) wr).setCell (p := ⟨b, 3, none⟩) (.inl rfl) _)
        have hA2 := HA.out.moved HO2.out (r' := ⟨i', sk, sn, sc, false, false, ⟨ok, of, on, ow, ola, oln, olc, oma, omn, omc⟩, false, pl⟩) HRD2.out ⟨rfl, rfl, rfl⟩ (Nat.le_refl _) his
        have hbe := val_begin s _ B b _ st os hA2 (Nat.le_trans hzr HO2.out.size) hs hlen hlb rfl rfl rfl
        simp only [HL.out] at hbe
        clear hA2 HRD2
        go_wp2_with fail
        refine hbe.mono ?_
        clear hbe
        rintro e w3 ⟨rfl, hm3, ha3⟩
        have HM3 : Hid (Mod (From B) w w3) := hId ((HM.out.trans (HO2.out.fromB hHB)).trans hm3)
        have HA3 : Hid (AtS w3 B b s (stepS L (.run true st i'))) := hId ha3
        have HMS3 : Hid (msW b L.length w3 = msr L.length (stepS L (.run true st i'))) := hId HA3.out.ms
        clear hm3 ha3
        go_wp2_with fail
        go_roundw
        case rel => exact ⟨_, HA3, HNX, HM3, HGN⟩
        case measure =>
          rw [HMS3.out, HMS.out]
          exact HMN.out
      | false =>
        obtain ⟨f, q, rfl⟩ : ∃ f q, st = f :: q := by
          cases st with
          | nil => exact absurd rfl (RSt.good_run HGD.out)
          | cons f q => exact ⟨f, q, rfl⟩
        obtain ⟨o, oq, rfl⟩ : ∃ o oq, os = o :: oq := by
          cases os with
          | nil => exact (HA.out.fr).elim
          | cons o oq => exact ⟨o, oq, rfl⟩
        have hsn : sn = oq.length + 1 := by have := HA.out.sk.1; simpa using this.symm
        have hsk := HA.out.sk
        obtain ⟨sg, hA, -, htg, -, -⟩ := hsk.form (show 0 < sn by omega)
        simp only at hA
        subst hA
        have hc0 : wr.cell? ⟨sg, oq.length, none⟩ = some (.pointer (some ⟨o.b, 0, none⟩)) := by
          have hl : oq.length < ((o :: oq).reverse.map (·.b)).length := by simp
          have := hsk.cell1 hl
          simpa [ptrE] using this
        have hqo : q.length = oq.length := Frs.len _ _ _ HA.out.fr.2
        obtain ⟨n, hn⟩ : ∃ n, oq.length = n := ⟨_, rfl⟩
        rw [hn] at hsn hqo hc0
        have hn3 : n ≤ 300000 := by simp only [List.length_cons] at hlen; omega
        have hq3 : q.length ≤ 240000 := by simp only [List.length_cons] at hlen; omega
        have hbk := HA.out.fr.1.blk
        have hone := (HOKS.out.fr f (by simp)).one
        have HONE := hId hone
        have e0 := hbk.cell 0
        have ol := hbk.lt
        simp only [OF.cells, lqt, lqz] at e0
        have c2 := HA.out.rd.cell 2
        simp only [RV.cells, lqt, lqz, lqs] at c2
        clear hn hsk htg hqo hbk hone
        subst hsn
        have hni : ((n + 1 : Nat) : Int) = (n : Int) + 1 := by omega
        obtain ⟨ob, hob⟩ : ∃ ob, o.b = ob := ⟨_, rfl⟩
        rw [hob] at hc0 e0 ol
        clear hob
        obtain ⟨K, hK⟩ : ∃ K, spanAt blankB L i' = K := ⟨_, rfl⟩
        have HK := hId hK
        have hKs : K ≤ s.size := by rw [← hK, ← HL.out]; exact spanL_size _ _ his
        have hKi : i' ≤ K := by rw [← hK]; exact spanAt_ge _ _ _
        obtain ⟨c, hc⟩ : ∃ c, topAt L K = c := ⟨_, rfl⟩
        have HC := hId hc
        have HNEXT : Hid (stepS L (.run false (f :: q) i') = nextK L f q K) := hId (by rw [← hK]; rfl)
        clear hK hc
        cases hfm : f.mem with
        | true =>
          rw [hfm] at e0 HONE
          simp only [if_true, Bool.false_eq_true, if_false] at e0
          have HFM := hId hfm
          clear hfm
          go_wp2_with fail
          go_quiet (fail)
          clear c2 hc0 e0 ol c3 z3 c4 c11 bl
          have HRD1 := hId (HA.out.rd.mod (show New wr (wr.drewN nq) from (by with_reducible (repeat (first | exact Mod.refl _ _ | refine Mod.drewN ?_ _ | refine Mod.drew ?_ | refine Mod.alloc ?_ _)))) (fun e => e))
          have hsk1 := val_skip s _ b _ (by omega) his HRD1.out
          simp only [HL.out, HK.out, HC.out] at hsk1
          go_wp2_with fail
          refine hsk1.mono ?_
          clear hsk1
          rintro e w2 ⟨rfl, hb2, hm2⟩
          have HRD2 := hId hb2
          have HO2 : Hid (Only b wr w2) := hId ((show Only b wr (wr.drewN nq) from (by with_reducible (repeat (first | exact Mod.refl _ _ | refine Mod.drewN ?_ _ | refine Mod.drew ?_ | refine Mod.alloc ?_ _)))).trans hm2)
          have HA2 := hId (HA.out.moved HO2.out HRD2.out ⟨rfl, rfl, rfl⟩ hKi hKs)
          have HM2 : Hid (Mod (From B) w w2) := hId (HM.out.trans (HO2.out.fromB hHB))
          have hz2 : B ≤ w2.heap.size := Nat.le_trans hB HM2.out.size
          clear hb2 hm2 HRD1
          have c1 := HRD2.out.cell 1
          have z1 := HRD2.out.frozen 1
          have c3 := HRD2.out.cell 3
          have z3 := HRD2.out.frozen 3
          have bl := HRD2.out.lt
          simp only [RV.cells, lqt, lqz, lqs] at c1 c3
          by_cases h44 : c = 44
          · have hlt : K < s.size := by
              have h1 := topAt_lt (s := L) (i := K) (by rw [HC.out, h44]; decide)
              rw [← HL.out] at h1
              exact h1
            subst h44
            have hk9 : (K : Int) + 1 ≤ 300000 := by omega
            have hk8 : 0 ≤ (K : Int) := by omega
            have HEQ := hId (HNEXT.out.trans (nextK_start f q HC.out))
            have HRD4 := hId (HRD2.out.set 1 (.int .i64 ((K : Int) + 1)))
            have HO4 : Hid (Only b w2 (w2.setCell ⟨b, 1, none⟩ (.int .i64 ((K : Int) + 1)))) := hId ((Mod.refl (fun k => k = b) w2).setCell (p := ⟨b, 1, none⟩) (.inl rfl) _)
            have HA4 := hId (HA2.out.moved HO4.out (r' := ⟨K + 1, some ⟨sg, 0, none⟩, n + 1, sc, false, false, ⟨ok, of, on, ow, ola, oln, olc, oma, omn, omc⟩, false, pl⟩) HRD4.out ⟨rfl, rfl, rfl⟩ (Nat.le_succ _) hlt)
            have hme := val_member s _ B b _ f q o oq HA4.out HFM.out (Nat.le_trans hz2 HO4.out.size) hs (by omega) rfl rfl rfl
            simp only [HL.out] at hme
            have HEQ2 : Hid (startS L f q (K + 1) = memS L f q (K + 1)) := hId (by unfold startS; rw [if_pos HFM.out])
            clear HRD4
            go_wp2_with fail
            refine hme.mono ?_
            clear hme
            rintro e w3 ⟨rfl, hm3, ha3⟩
            have HM3 : Hid (Mod (From B) w w3) := hId ((HM2.out.trans (HO4.out.fromB hHB)).trans hm3)
            have HA3 : Hid (AtS w3 B b s (stepS L (.run false (f :: q) i'))) := hId (by rw [HEQ.out, HEQ2.out]; exact ha3)
            have HMS3 : Hid (msW b L.length w3 = msr L.length (stepS L (.run false (f :: q) i'))) := hId HA3.out.ms
            clear hm3 ha3
            go_wp2_with fail
            go_roundw
            case rel => exact ⟨_, HA3, HNX, HM3, HGN⟩
            case measure =>
              rw [HMS3.out, HMS.out]
              exact HMN.out
          · by_cases hcl : c = 125
            · have hlt2 : K < s.size := by
                have h1 := topAt_lt (s := L) (i := K) (by rw [HC.out, hcl]; decide)
                rw [← HL.out] at h1
                exact h1
              subst hcl
              have HEQ := hId (HNEXT.out.trans (nextK_end f q (by rw [HC.out, HFM.out]; rfl)))
              have hen := val_end s _ B b w2 f q o oq false HA2.out hz2 (by omega) hlt2 (by rw [HFM.out]; exact HONE.out) (by omega) hlb rfl rfl rfl
              go_wp2_with fail
              refine hen.mono ?_
              clear hen
              rintro e w3 ⟨rfl, hm3, ha3⟩
              have HM3 : Hid (Mod (From B) w w3) := hId (HM2.out.trans hm3)
              have HA3 : Hid (AtS w3 B b s (stepS L (.run false (f :: q) i'))) := hId (by rw [HEQ.out]; exact ha3)
              have HMS3 : Hid (msW b L.length w3 = msr L.length (stepS L (.run false (f :: q) i'))) := hId HA3.out.ms
              clear hm3 ha3
              go_wp2_with fail
              go_roundw
              case rel => exact ⟨_, HA3, HNX, HM3, HGN⟩
              case measure =>
                rw [HMS3.out, HMS.out]
                exact HMN.out
            · have q1 : ((c.toNat : Int) == 44) = false := by
                have : c.toNat ≠ 44 := fun e => h44 (UInt8.toNat_inj.1 e)
                simp; omega
              have q2 : ((c.toNat : Int) == 125) = false := by
                have : c.toNat ≠ 125 := fun e => hcl (UInt8.toNat_inj.1 e)
                simp; omega
              have HEQ := hId (HNEXT.out.trans (nextK_bad f q (by rw [HC.out]; exact h44) (by rw [HC.out, HFM.out]; exact hcl)))
              have hfa := val_failAt s _ B b K w2 HRD2.out rfl hKs hHB
              by_cases h93 : c = 93
              · subst h93
                go_wp2_with fail
                refine hfa.mono ?_
                clear hfa
                rintro e w3 ⟨rfl, hm3, ha3⟩
                have HM3 : Hid (Mod (From B) w w3) := hId (HM2.out.trans hm3)
                have HA3 : Hid (AtS w3 B b s (stepS L (.run false (f :: q) i'))) := hId (by rw [HEQ.out]; exact ha3)
                have HMS3 : Hid (msW b L.length w3 = msr L.length (stepS L (.run false (f :: q) i'))) := hId HA3.out.ms
                clear hm3 ha3
                go_wp2_with fail
                go_roundw
                case rel => exact ⟨_, HA3, HNX, HM3, HGN⟩
                case measure =>
                  rw [HMS3.out, HMS.out]
                  exact HMN.out
              · have q4 : ((c.toNat : Int) == 93) = false := by
                  have : c.toNat ≠ 93 := fun e => h93 (UInt8.toNat_inj.1 e)
                  simp; omega
                go_wp2_with fail
                refine hfa.mono ?_
                clear hfa
                rintro e w3 ⟨rfl, hm3, ha3⟩
                have HM3 : Hid (Mod (From B) w w3) := hId (HM2.out.trans hm3)
                have HA3 : Hid (AtS w3 B b s (stepS L (.run false (f :: q) i'))) := hId (by rw [HEQ.out]; exact ha3)
                have HMS3 : Hid (msW b L.length w3 = msr L.length (stepS L (.run false (f :: q) i'))) := hId HA3.out.ms
                clear hm3 ha3
                go_wp2_with fail
                go_roundw
                case rel => exact ⟨_, HA3, HNX, HM3, HGN⟩
                case measure =>
                  rw [HMS3.out, HMS.out]
                  exact HMN.out
        | false =>
          rw [hfm] at e0 HONE
          simp only [if_true, Bool.false_eq_true, if_false] at e0
          have HFM := hId hfm
          clear hfm
          go_wp2_with fail
          go_quiet (fail)
          clear c2 hc0 e0 ol c3 z3 c4 c11 bl
          have HRD1 := hId (HA.out.rd.mod (show New wr (wr.drewN nq) from (by with_reducible (repeat (first | exact Mod.refl _ _ | refine Mod.drewN ?_ _ | refine Mod.drew ?_ | refine Mod.alloc ?_ _)))) (fun e => e))
          have hsk1 := val_skip s _ b _ (by omega) his HRD1.out
          simp only [HL.out, HK.out, HC.out] at hsk1
          go_wp2_with fail
          refine hsk1.mono ?_
          clear hsk1
          rintro e w2 ⟨rfl, hb2, hm2⟩
          have HRD2 := hId hb2
          have HO2 : Hid (Only b wr w2) := hId ((show Only b wr (wr.drewN nq) from (by with_reducible (repeat (first | exact Mod.refl _ _ | refine Mod.drewN ?_ _ | refine Mod.drew ?_ | refine Mod.alloc ?_ _)))).trans hm2)
          have HA2 := hId (HA.out.moved HO2.out HRD2.out ⟨rfl, rfl, rfl⟩ hKi hKs)
          have HM2 : Hid (Mod (From B) w w2) := hId (HM.out.trans (HO2.out.fromB hHB))
          have hz2 : B ≤ w2.heap.size := Nat.le_trans hB HM2.out.size
          clear hb2 hm2 HRD1
          have c1 := HRD2.out.cell 1
          have z1 := HRD2.out.frozen 1
          have c3 := HRD2.out.cell 3
          have z3 := HRD2.out.frozen 3
          have bl := HRD2.out.lt
          simp only [RV.cells, lqt, lqz, lqs] at c1 c3
          by_cases h44 : c = 44
          · have hlt : K < s.size := by
              have h1 := topAt_lt (s := L) (i := K) (by rw [HC.out, h44]; decide)
              rw [← HL.out] at h1
              exact h1
            subst h44
            have hk9 : (K : Int) + 1 ≤ 300000 := by omega
            have hk8 : 0 ≤ (K : Int) := by omega
            have HEQ := hId (HNEXT.out.trans (nextK_start f q HC.out))
            have HRD4 := hId ((HRD2.out.set 1 (.int .i64 ((K : Int) + 1))).set 3 (.bool true))
            have HO4 : Hid (Only b w2 ((w2.setCell ⟨b, 1, none⟩ (.int .i64 ((K : Int) + 1))).setCell ⟨b, 3, none⟩ (.bool true))) := hId (((Mod.refl (fun k => k = b) w2).setCell (p := ⟨b, 1, none⟩) (.inl rfl) _).setCell (p := ⟨b, 3, none⟩) (.inl rfl) _)
            have HA4 := hId ((HA2.out.moved HO4.out (r' := ⟨K + 1, some ⟨sg, 0, none⟩, n + 1, sc, true, false, ⟨ok, of, on, ow, ola, oln, olc, oma, omn, omc⟩, false, pl⟩) HRD4.out ⟨rfl, rfl, rfl⟩ (Nat.le_succ _) hlt).pendList HFM.out)
            have HEQ2 : Hid (startS L f q (K + 1) = .run true (f :: q) (K + 1)) := hId (by unfold startS; rw [if_neg (by rw [HFM.out]; simp)])
            have HM3 : Hid (Mod (From B) w ((w2.setCell ⟨b, 1, none⟩ (.int .i64 ((K : Int) + 1))).setCell ⟨b, 3, none⟩ (.bool true))) := hId (HM2.out.trans (HO4.out.fromB hHB))
            have HA3 : Hid (AtS ((w2.setCell ⟨b, 1, none⟩ (.int .i64 ((K : Int) + 1))).setCell ⟨b, 3, none⟩ (.bool true)) B b s (stepS L (.run false (f :: q) i'))) := hId (by rw [HEQ.out, HEQ2.out]; exact ⟨_, _, rfl, rfl, rfl, rfl, HA4.out⟩)
            have HMS3 : Hid (msW b L.length ((w2.setCell ⟨b, 1, none⟩ (.int .i64 ((K : Int) + 1))).setCell ⟨b, 3, none⟩ (.bool true)) = msr L.length (stepS L (.run false (f :: q) i'))) := hId HA3.out.ms
            clear HRD4 HO4
            go_wp2_with fail
            go_roundw
            case rel => exact ⟨_, HA3, HNX, HM3, HGN⟩
            case measure =>
              rw [HMS3.out, HMS.out]
              exact HMN.out
          · by_cases hcl : c = 93
            · have hlt2 : K < s.size := by
                have h1 := topAt_lt (s := L) (i := K) (by rw [HC.out, hcl]; decide)
                rw [← HL.out] at h1
                exact h1
              subst hcl
              have HEQ := hId (HNEXT.out.trans (nextK_end f q (by rw [HC.out, HFM.out]; rfl)))
              have hen := val_end s _ B b w2 f q o oq false HA2.out hz2 (by omega) hlt2 (by rw [HFM.out]; exact HONE.out) (by omega) hlb rfl rfl rfl
              go_wp2_with fail
              refine hen.mono ?_
              clear hen
              rintro e w3 ⟨rfl, hm3, ha3⟩
              have HM3 : Hid (Mod (From B) w w3) := hId (HM2.out.trans hm3)
              have HA3 : Hid (AtS w3 B b s (stepS L (.run false (f :: q) i'))) := hId (by rw [HEQ.out]; exact ha3)
              have HMS3 : Hid (msW b L.length w3 = msr L.length (stepS L (.run false (f :: q) i'))) := hId HA3.out.ms
              clear hm3 ha3
              go_wp2_with fail
              go_roundw
              case rel => exact ⟨_, HA3, HNX, HM3, HGN⟩
              case measure =>
                rw [HMS3.out, HMS.out]
                exact HMN.out
            · have q1 : ((c.toNat : Int) == 44) = false := by
                have : c.toNat ≠ 44 := fun e => h44 (UInt8.toNat_inj.1 e)
                simp; omega
              have q2 : ((c.toNat : Int) == 93) = false := by
                have : c.toNat ≠ 93 := fun e => hcl (UInt8.toNat_inj.1 e)
                simp; omega
              have HEQ := hId (HNEXT.out.trans (nextK_bad f q (by rw [HC.out]; exact h44) (by rw [HC.out, HFM.out]; exact hcl)))
              have hfa := val_failAt s _ B b K w2 HRD2.out rfl hKs hHB
              by_cases h125 : c = 125
              · subst h125
                go_wp2_with fail
                refine hfa.mono ?_
                clear hfa
                rintro e w3 ⟨rfl, hm3, ha3⟩
                have HM3 : Hid (Mod (From B) w w3) := hId (HM2.out.trans hm3)
                have HA3 : Hid (AtS w3 B b s (stepS L (.run false (f :: q) i'))) := hId (by rw [HEQ.out]; exact ha3)
                have HMS3 : Hid (msW b L.length w3 = msr L.length (stepS L (.run false (f :: q) i'))) := hId HA3.out.ms
                clear hm3 ha3
                go_wp2_with fail
                go_roundw
                case rel => exact ⟨_, HA3, HNX, HM3, HGN⟩
                case measure =>
                  rw [HMS3.out, HMS.out]
                  exact HMN.out
              · have q3 : ((c.toNat : Int) == 125) = false := by
                  have : c.toNat ≠ 125 := fun e => h125 (UInt8.toNat_inj.1 e)
                  simp; omega
                go_wp2_with fail
                refine hfa.mono ?_
                clear hfa
                rintro e w3 ⟨rfl, hm3, ha3⟩
                have HM3 : Hid (Mod (From B) w w3) := hId (HM2.out.trans hm3)
                have HA3 : Hid (AtS w3 B b s (stepS L (.run false (f :: q) i'))) := hId (by rw [HEQ.out]; exact ha3)
                have HMS3 : Hid (msW b L.length w3 = msr L.length (stepS L (.run false (f :: q) i'))) := hId HA3.out.ms
                clear hm3 ha3
                go_wp2_with fail
                go_roundw
                case rel => exact ⟨_, HA3, HNX, HM3, HGN⟩
                case measure =>
                  rw [HMS3.out, HMS.out]
                  exact HMN.out
    | fin v i =>
      obtain ⟨r, hri, his, hdn, hbd, hblk, htree⟩ := HAT.out
      obtain ⟨i', sk, sn, sc, begins, done, ⟨ok, of, on, ow, ola, oln, olc, oma, omn, omc⟩, bad, pl⟩ := r
      simp only at hri hdn hbd htree
      subst hri hdn hbd
      have HTR := hId htree
      have c4 := hblk.cell 4
      have c11 := hblk.cell 11
      have bl := hblk.lt
      simp only [RV.cells, lqt, lqz, lqs] at c4 c11
      obtain ⟨K, hK⟩ : ∃ K, spanAt blankB L i' = K := ⟨_, rfl⟩
      have HK := hId hK
      have hKs : K ≤ s.size := by rw [← hK, ← HL.out]; exact spanL_size _ _ his
      have hKi : i' ≤ K := by rw [← hK]; exact spanAt_ge _ _ _
      clear hK
      have HBLK := hId hblk
      have hsk1 := val_skip s _ b wr (by omega) his hblk
      simp only [HL.out, HK.out] at hsk1
      clear hblk
      go_wp2_with fail
      refine hsk1.mono ?_
      clear hsk1 c4 c11 bl
      rintro e w2 ⟨rfl, hb2, hm2⟩
      have HRD2 := hId hb2
      have HO2 := hId hm2
      have HM2 : Hid (Mod (From B) w w2) := hId (HM.out.trans (hm2.fromB hHB))
      clear hb2 hm2
      have c1 := HRD2.out.cell 1
      have c0 := HRD2.out.cell 0
      have bl := HRD2.out.lt
      simp only [RV.cells, lqt, lqz, lqs] at c0 c1
      by_cases hlk : K < s.size
      · have hd5 : decide ((K : Int) < (s.size : Int)) = true := by simp; omega
        have hE : finS L (.fin v i') = .bad K := by
          unfold finS
          simp only
          rw [HK.out, if_pos (by rw [HLL.out]; exact hlk)]
        have HE := hId hE
        clear hE
        have hfa := fun W (hW : New w2 W) => val_failAt s _ B b K W (HRD2.out.mod hW (fun e => e)) rfl hKs hHB
        go_wp2_with fail
        go_quiet (fail)
        go_wp2_with fail
        refine (hfa _ (by with_reducible (repeat (first | exact Mod.refl _ _ | refine Mod.drewN ?_ _ | refine Mod.drew ?_ | refine Mod.alloc ?_ _)))).mono ?_
        clear hfa
        rintro e w3 h3
        obtain ⟨rfl, hm3, ha3⟩ := h3.after (HM2.out.trans (New.fromB (by with_reducible (repeat (first | exact Mod.refl _ _ | refine Mod.drewN ?_ _ | refine Mod.drew ?_ | refine Mod.alloc ?_ _)))))
        have HM3 := hId hm3
        have HA3 := hId ha3
        clear h3 hm3 ha3
        go_wp2_with fail
        go_end0
        exact ⟨_, HLD.out, rfl, by rw [HE.out]; exact ⟨rfl, HM3.out, HA3.out⟩⟩
      · have hd5 : decide ((K : Int) < (s.size : Int)) = false := by simp; omega
        have hE : finS L (.fin v i') = .fin v K := by
          unfold finS
          simp only
          rw [HK.out, if_neg (by rw [HLL.out]; exact hlk)]
        have HE := hId hE
        clear hE
        have HTR2 := hId (Tree.upto hKi ((HTR.out.onlyRd HO2.out HBLK.out.tb)))
        go_wp2_with fail
        go_quiet (fail)
        go_wp2_with fail
        go_end0
        refine ⟨_, HLD.out, rfl, by rw [HE.out]; exact ⟨rfl, HM2.out.trans (New.fromB (by with_reducible (repeat (first | exact Mod.refl _ _ | refine Mod.drewN ?_ _ | refine Mod.drew ?_ | refine Mod.alloc ?_ _)))), _, rfl, hKs, rfl, rfl, HRD2.out.mod (S := fun _ => False) (by with_reducible (repeat (first | exact Mod.refl _ _ | refine Mod.drewN ?_ _ | refine Mod.drew ?_ | refine Mod.alloc ?_ _))) (fun e => e), HTR2.out.new (by with_reducible (repeat (first | exact Mod.refl _ _ | refine Mod.drewN ?_ _ | refine Mod.drew ?_ | refine Mod.alloc ?_ _)))⟩⟩
    | bad p =>
      obtain ⟨r, his, hbd, hpl, hblk⟩ := HAT.out
      obtain ⟨i', sk, sn, sc, begins, done, ⟨ok, of, on, ow, ola, oln, olc, oma, omn, omc⟩, bad, pl⟩ := r
      simp only at hbd hpl his
      subst hbd hpl
      have c4 := hblk.cell 4
      have c11 := hblk.cell 11
      have bl := hblk.lt
      simp only [RV.cells, lqt, lqz, lqs] at c4 c11
      obtain ⟨K, hK⟩ : ∃ K, spanAt blankB L i' = K := ⟨_, rfl⟩
      have HK := hId hK
      have hKs : K ≤ s.size := by rw [← hK, ← HL.out]; exact spanL_size _ _ his
      have hKi : i' ≤ K := by rw [← hK]; exact spanAt_ge _ _ _
      clear hK
      have HBLK := hId hblk
      have hsk1 := val_skip s _ b wr (by omega) his hblk
      simp only [HL.out, HK.out] at hsk1
      clear hblk
      go_wp2_with fail
      refine hsk1.mono ?_
      clear hsk1 c4 c11 bl
      rintro e w2 ⟨rfl, hb2, hm2⟩
      have HRD2 := hId hb2
      have HO2 := hId hm2
      have HM2 : Hid (Mod (From B) w w2) := hId (HM.out.trans (hm2.fromB hHB))
      clear hb2 hm2
      have c1 := HRD2.out.cell 1
      have c0 := HRD2.out.cell 0
      have bl := HRD2.out.lt
      simp only [RV.cells, lqt, lqz, lqs] at c0 c1
      by_cases hlk : K < s.size
      · have hd5 : decide ((K : Int) < (s.size : Int)) = true := by simp; omega
        have hfa := fun W (hW : New w2 W) => val_fail s _ K b W (HRD2.out.mod hW (fun e => e))
        go_wp2_with fail
        go_quiet (fail)
        go_wp2_with fail
        refine (hfa _ (by with_reducible (repeat (first | exact Mod.refl _ _ | refine Mod.drewN ?_ _ | refine Mod.drew ?_ | refine Mod.alloc ?_ _)))).mono ?_
        clear hfa
        rintro e w3 ⟨rfl, hb3, hm3⟩
        have HB3 := hId hb3
        have HM3 : Hid (Mod (From B) w w3) := hId ((HM2.out.trans (New.fromB (by with_reducible (repeat (first | exact Mod.refl _ _ | refine Mod.drewN ?_ _ | refine Mod.drew ?_ | refine Mod.alloc ?_ _))))).trans (hm3.fromB hHB))
        clear hb3 hm3
        go_wp2_with fail
        go_end0
        exact ⟨_, HLD.out, rfl, rfl, HM3.out, _, hKs, rfl, rfl, HB3.out⟩
      · have hd5 : decide ((K : Int) < (s.size : Int)) = false := by simp; omega
        go_wp2_with fail
        go_quiet (fail)
        go_wp2_with fail
        go_end0
        exact ⟨_, HLD.out, rfl, rfl, HM2.out.trans (New.fromB (by with_reducible (repeat (first | exact Mod.refl _ _ | refine Mod.drewN ?_ _ | refine Mod.drew ?_ | refine Mod.alloc ?_ _)))), _, hKs, rfl, rfl, HRD2.out.mod (S := fun _ => False) (by with_reducible (repeat (first | exact Mod.refl _ _ | refine Mod.drewN ?_ _ | refine Mod.drew ?_ | refine Mod.alloc ?_ _))) (fun e => e)⟩
end Go.Proofs.YtjmnkdkdjnmejaaGreatDoor
