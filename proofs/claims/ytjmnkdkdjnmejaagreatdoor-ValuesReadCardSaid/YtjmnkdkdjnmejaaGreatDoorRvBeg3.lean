/- Reading values: the program's reader begins a value: null, a flag or a number. Conditions: a text of at most 240000 bytes. -/
import Derived.Test.YtjmnkdkdjnmejaaGreatDoorRvBeg2
namespace Go.Proofs.YtjmnkdkdjnmejaaGreatDoor
open Go.RowKit
set_option linter.unusedVariables false
set_option linter.unusedSimpArgs false
theorem sign_at (c : UInt8) : decide (0 ≤ Lib.indexByte [45, 43, 46] c) = (c == 45 || c == 43 || c == 46) := by
  revert c
  apply byteOf
  decide +kernel
theorem rowB_nat (c : UInt8) : rowB c = (isLetN c.toNat || isDigN c.toNat || (c == 45 || c == 43 || c == 46)) := by
  unfold rowB
  rw [letB_nat, digB_nat]
  simp [Bool.or_assoc]
section
set_option maxHeartbeats 1500000
set_option maxRecDepth 100000
theorem val_beginB (s : ByteArray) (r : RV) (B b : Nat) (w : World) (st : List RFr) (os : List OF) (h : RdAt w B b s r true st os) (hB : B ≤ w.heap.size) (hs : s.size ≤ 240000)
    (hlen : st.length ≤ 240000) (hl : ∀ g ∈ st, g.items.length ≤ 300000 ∧ g.mems.length ≤ 300000) (hd : r.done = false) (hbad : r.bad = false) (hbg : r.begins = false) (hc : startB (topAt s.data.toList (spanAt blankB s.data.toList r.i)) = true) :
    Calls Tryz.prog 34 #[.pointer (some ⟨b, 0, none⟩)] w (RAt B b s (begK s.data.toList st (spanAt blankB s.data.toList r.i)) w) := by
  have hrd := h.rd
  have hHB := h.hB
  have hir := h.hi
  have HH := hId h
  obtain ⟨i, sk, sn, sc, begins, done, ⟨ok, of, on, ow, ola, oln, olc, oma, omn, omc⟩, bad, pl⟩ := r
  simp only at hd hbad hbg hir hc
  subst hd hbad hbg
  have HRD := hId hrd
  obtain ⟨L, hL⟩ : ∃ L, s.data.toList = L := ⟨_, rfl⟩
  have HL := hId hL
  simp only [hL] at hc
  rw [hL]
  clear hrd hL h
  go_enter Tryz.func34, Tryz.ntmps34
  have hsk1 := val_skip s _ b w (by omega) hir HRD.out
  simp only [HL.out] at hsk1
  obtain ⟨K, hK⟩ : ∃ K, spanAt blankB L i = K := ⟨_, rfl⟩
  simp only [hK] at hsk1 hc
  have HK := hId hK
  have hKs : K ≤ s.size := by rw [← hK, ← HL.out]; exact spanL_size _ _ hir
  have hKi : i ≤ K := by rw [← hK]; exact spanAt_ge _ _ _
  simp only [hK]
  clear hK
  obtain ⟨c, hcc⟩ : ∃ c, topAt L K = c := ⟨_, rfl⟩
  rw [hcc] at hc hsk1
  have hlt : K < s.size := by
    have h1 := topAt_lt (s := L) (i := K) (by rw [hcc]; intro e; rw [e] at hc; exact absurd hc (by decide))
    rw [← HL.out] at h1
    exact h1
  have HC := hId hcc
  have h34 : c ≠ 34 := fun e => by rw [e] at hc; exact absurd hc (by decide)
  have q1 : ((c.toNat : Int) == 34) = false := by
    have : c.toNat ≠ 34 := fun e => h34 (UInt8.toNat_inj.1 e)
    simp; omega
  obtain ⟨E, hE⟩ : ∃ E, spanAt rowB L K = E := ⟨_, rfl⟩
  obtain ⟨X, hX⟩ : ∃ X, begK L st K = X := ⟨_, rfl⟩
  have HX : Hid (X = match rdRow (cutB L K E) with
    | none => .bad K
    | some v => putS st v E) := hId (by
    rw [← hX, ← hE]
    unfold begK
    rw [hcc, if_neg h34, if_pos hc]
    rfl)
  have HE := hId hE
  have hEK : K + 1 ≤ E := by
    rw [← hE, spanAt_yes (p := rowB) (s := L) (k := K) (by rw [← HL.out]; exact hlt) (by rw [← topAt_get (by rw [← HL.out]; exact hlt), hcc]; exact start_row hc)]
    exact spanAt_ge _ _ _
  have hEs : E ≤ s.size := by rw [← hE, ← HL.out]; exact spanL_size _ _ hKs
  rw [hX]
  clear hX hE hcc
  have hl1 := fun W => val_isLetter c.toNat W
  have hd1 := fun W => val_isDigit c.toNat W
  have hb45 : (c == 45) = ((c.toNat : Int) == 45) := by
    rw [Bool.eq_iff_iff]
    simp only [beq_iff_eq]
    constructor
    · intro e; rw [e]; rfl
    · intro e
      have : c.toNat = 45 := by omega
      exact UInt8.toNat_inj.1 this
  simp only [startB] at hc
  rw [letB_nat, digB_nat, hb45] at hc
  clear hb45
  generalize isLetN c.toNat = lt1 at *
  generalize isDigN c.toNat = dg1 at *
  generalize hq5 : ((c.toNat : Int) == 45) = q5 at *
  go_wp2_with fail
  refine hsk1.mono ?_
  clear hsk1
  rintro e w2 ⟨rfl, hb2, hm2⟩
  have HRD2 := hId hb2
  have HM2 := hId hm2
  have HA2 := hId (HH.out.moved HM2.out HRD2.out ⟨rfl, rfl, rfl⟩ hKi hKs)
  clear hb2 hm2
  have c1 := HRD2.out.cell 1
  have c0 := HRD2.out.cell 0
  have bl := HRD2.out.lt
  simp only [RV.cells, lqt, lqz, lqs] at c0 c1
  go_upto_region 8 with (fail)
  go_cut [49] (fun s49 wx => s49 = .bool true ∧ w2 = wx)
  case first =>
    go_wp2_with fail
    refine (hl1 _).mono ?_
    rintro e w3 ⟨rfl, rfl⟩
    cases lt1
    · go_wp2_with fail
      refine (hd1 _).mono ?_
      rintro e w3 ⟨rfl, rfl⟩
      cases dg1
      · have hq6 : q5 = true := by simpa using hc
        subst hq6
        go_wp2_with fail
        go_meet
        case rel => exact ⟨rfl, rfl⟩
      · go_wp2_with fail
        go_meet
        case rel => exact ⟨rfl, rfl⟩
    · go_wp2_with fail
      go_meet
      case rel => exact ⟨rfl, rfl⟩
  case rest =>
    obtain ⟨rfl, rfl⟩ := hcut
    clear hl1 hd1 hc hq5
    have HLEN : Hid (s.data.toList.length = s.size) := hId rfl
    go_wp2_with fail
    go_loopw [6] (fun s6 wr => ∃ k, K ≤ k ∧ k ≤ s.size ∧ s6 = .int .i64 (k : Int) ∧ Hid (spanAt rowB L k = E) ∧ w2 = wr) (fun s6 _ => s.size - (intOf s6).toNat)
    case atStart => exact ⟨K, Nat.le_refl _, hKs, rfl, HE, rfl⟩
    case round =>
      obtain ⟨k, hk1, hk2, rfl, HS, hwr⟩ := hrel
      subst hwr
      rename World => w2
      have kz : (0 : Int) ≤ (k : Int) := by omega
      by_cases hlk : k < s.size
      · have hd0 : decide ((k : Int) < (s.size : Int)) = true := by simp; omega
        have hdk : (k : Int) < (s.size : Int) := by omega
        have hll := fun W => val_isLetter s[k].toNat W
        have hdd := fun W => val_isDigit s[k].toNat W
        have hx := fun W => Tryz.strings_IndexByte ⟨#[45, 43, 46]⟩ (s[k].toNat : Int) W
        simp only [byteBack] at hx
        have hbk := sign_at s[k]
        have hrb := rowB_nat s[k]
        rw [← hbk] at hrb
        have hLk : k < L.length := by rw [← HL.out]; exact hlk
        have hget : L[k]'hLk = s[k] := by
          have h1 := topAt_get hLk
          rw [← h1, ← HL.out, topAt_get (show k < s.data.toList.length from hlk)]
          rfl
        have HYES : Hid (rowB s[k] = true → spanAt rowB L (k + 1) = E) := hId (fun e => by rw [← HS.out]; exact (spanAt_yes hLk (by rw [hget]; exact e)).symm)
        have HNO : Hid (rowB s[k] = false → k = E) := hId (fun e => by rw [← HS.out]; exact (spanAt_no hLk (by rw [hget]; exact e)).symm)
        have HRB := hId hrb
        clear hget hbk hrb
        generalize hiq : Lib.indexByte [45, 43, 46] s[k] = iq at *
        clear hiq
        generalize isLetN s[k].toNat = lt2 at *
        generalize isDigN s[k].toNat = dg2 at *
        cases lt2
        · cases dg2
          · by_cases hq : 0 ≤ iq
            · have hq9 : decide (0 ≤ iq) = true := by simpa using hq
              have HS1 := hId (HYES.out (by rw [HRB.out]; simpa using hq))
              clear HYES HNO HRB HS
              go_wp2_with fail
              refine (hll _).mono ?_
              rintro e w3 ⟨rfl, rfl⟩
              go_wp2_with fail
              refine (hdd _).mono ?_
              rintro e w3 ⟨rfl, rfl⟩
              go_wp2_with fail
              refine (hx _).mono ?_
              rintro e w3 ⟨rfl, rfl⟩
              have hk5 : (k : Int) + 1 < 400000 := by omega
              go_wp2_with fail
              go_roundw
              case rel => exact ⟨k + 1, by omega, by omega, by go_num, HS1, trivial⟩
              case measure => simp [intOf]; omega
            · have hq9 : decide (0 ≤ iq) = false := by simpa using hq
              have hkE := HNO.out (by rw [HRB.out]; simpa using hq)
              clear HYES HNO HRB HS
              subst hkE
              go_wp2_with fail
              refine (hll _).mono ?_
              rintro e w3 ⟨rfl, rfl⟩
              go_wp2_with fail
              refine (hdd _).mono ?_
              rintro e w3 ⟨rfl, rfl⟩
              go_wp2_with fail
              refine (hx _).mono ?_
              rintro e w3 ⟨rfl, hw3⟩
              subst hw3
              rename World => w2
              clear hll hdd hx
              have hkz : (K : Int) ≤ (k : Int) := by omega
              have hkz2 : (k : Int) ≤ (s.size : Int) := by omega
              have hk0 : (0 : Int) ≤ (K : Int) := by omega
              have hcut : s.extract K k = cutB L K k := by
                rw [← HL.out]
                apply ByteArray.ext
                apply Array.toList_inj.mp
                show (s.extract K k).data.toList = _
                rw [extract_data]
                simp [cutB, List.drop_take]
              have hrw := fun W => val_row (s.extract K k) W (by simp only [ByteArray.size_extract]; omega)
              have HCUT := hId hcut
              clear hcut HE
              go_upto_region 12 with (fail)
              have HSX : Hid (∀ W, New w2 W → W.cell? ⟨b, 0, none⟩ = some (.string s) ∧ W.cell? ⟨b, 1, none⟩ = some (.int .i64 (K : Int)) ∧ b < W.heap.size) := hId (fun W hW => by
                have h1 := HRD2.out.mod hW (fun e => e)
                exact ⟨(h1.cell 0).trans rfl, (h1.cell 1).trans rfl, h1.lt⟩)
              clear c0 c1 bl
              refine wp_region_held_drew (S := New w2) (by kernel_rfl) (by with_reducible (repeat (first | exact Mod.refl _ _ | refine Mod.drewN ?_ _ | refine Mod.drew ?_ | refine Mod.alloc ?_ _))) (fun hHeld => ?_)
              simp only [List.size_toArray, List.length_cons, List.length_nil, Nat.reduceAdd]
              refine wpAnyH_take (i := 0) (v := ?_) rfl (by kernel_rfl) (by kernel_rfl) (by kernel_rfl) (fun _ _ _ h => h) (Or.inl ⟨by rfl, fun W hSw => ?_⟩) (by assumption) ?_
              rotate_left
              · (have hq := HSX.out W hSw); (try simp only [lgt, lgz, lgs]); go_simp; any_goals (with_reducible rfl)
              simp only [Act.put, lgt, lgz, lgs, lst, lsz, lss]
              refine wpAnyH_take (i := 1) (v := ?_) rfl (by kernel_rfl) (by kernel_rfl) (by kernel_rfl) (fun _ _ _ h => h) (Or.inl ⟨by rfl, fun W hSw => ?_⟩) (by assumption) ?_
              rotate_left
              · (have hq := HSX.out W hSw); (try simp only [lgt, lgz, lgs]); go_simp; any_goals (with_reducible rfl)
              simp only [Act.put, lgt, lgz, lgs, lst, lsz, lss]
              refine wpAnyH_take (i := 2) (v := ?_) rfl (by kernel_rfl) (by kernel_rfl) (by kernel_rfl) (fun _ _ _ h => h) (Or.inl ⟨by rfl, fun W hSw => ?_⟩) (by assumption) ?_
              rotate_left
              · (have hq := HSX.out W hSw); (try simp only [lgt, lgz, lgs]); go_simp; any_goals (with_reducible rfl)
              simp only [Act.put, lgt, lgz, lgs, lst, lsz, lss]
              refine wpAnyH_take (i := 3) (v := ?_) rfl (by kernel_rfl) (by kernel_rfl) (by kernel_rfl) (fun _ _ _ h => h) (Or.inl ⟨by rfl, fun W hSw => ?_⟩) (by assumption) ?_
              rotate_left
              · (have hq := HSX.out W hSw); (try simp only [lgt, lgz, lgs]); go_simp; any_goals (with_reducible rfl)
              simp only [Act.put, lgt, lgz, lgs, lst, lsz, lss]
              refine wpAnyH_take (i := 4) (v := ?_) rfl (by kernel_rfl) (by kernel_rfl) (by kernel_rfl) (fun _ _ _ h => h) (Or.inl ⟨by rfl, fun W hSw => ?_⟩) (by assumption) ?_
              rotate_left
              · (have hq := HSX.out W hSw); (try simp only [lgt, lgz, lgs]); go_simp; any_goals (with_reducible rfl)
              simp only [Act.put, lgt, lgz, lgs, lst, lsz, lss]
              refine wpAnyH_take (i := 5) (v := ?_) rfl (by kernel_rfl) (by kernel_rfl) (by kernel_rfl) (fun _ _ _ h => h) (Or.inl ⟨by rfl, fun W hSw => ?_⟩) (by assumption) ?_
              rotate_left
              · (have hq := HSX.out W hSw); (try simp only [lgt, lgz, lgs]); go_simp; any_goals (with_reducible rfl)
              simp only [Act.put, lgt, lgz, lgs, lst, lsz, lss]
              refine wpAnyH_take (i := 6) (v := ?_) rfl (by kernel_rfl) (by kernel_rfl) (by kernel_rfl) (fun _ _ _ h => h) (Or.inl ⟨by rfl, fun W hSw => ?_⟩) (by assumption) ?_
              rotate_left
              · (have hq := HSX.out W hSw); (try simp only [lgt, lgz, lgs]); go_simp; any_goals (with_reducible rfl)
              simp only [Act.put, lgt, lgz, lgs, lst, lsz, lss]
              refine wpAnyH_take (i := 7) (v := ?_) rfl (by kernel_rfl) (by kernel_rfl) (by kernel_rfl) (fun _ _ _ h => h) (Or.inl ⟨by rfl, fun W hSw => ?_⟩) (by assumption) ?_
              rotate_left
              · (have hq := HSX.out W hSw); (try simp only [lgt, lgz, lgs]); go_simp; any_goals (with_reducible rfl)
              simp only [Act.put, lgt, lgz, lgs, lst, lsz, lss]
              refine wpAnyH_take (i := 8) (v := ?_) rfl (by kernel_rfl) (by kernel_rfl) (by kernel_rfl) (fun _ _ _ h => h) (Or.inl ⟨by rfl, fun W hSw => ?_⟩) (by assumption) ?_
              rotate_left
              · (have hq := HSX.out W hSw); (try simp only [lgt, lgz, lgs]); go_simp; any_goals (with_reducible rfl)
              simp only [Act.put, lgt, lgz, lgs, lst, lsz, lss]
              refine wpAnyH_take (i := 9) (v := ?_) rfl (by kernel_rfl) (by kernel_rfl) (by kernel_rfl) (fun _ _ _ h => h) (Or.inl ⟨by rfl, fun W hSw => ?_⟩) (by assumption) ?_
              rotate_left
              · (have hq := HSX.out W hSw); (try simp only [lgt, lgz, lgs]); go_simp; any_goals (with_reducible rfl)
              simp only [Act.put, lgt, lgz, lgs, lst, lsz, lss]
              refine wpAnyH_ready (rs := [10, 14]) (by kernel_rfl) (by simp) ?_
              refine AllReadyH.cons rfl (fun Kx hK => ?_) (AllReadyH.cons rfl (fun Kx hK => ?_) AllReadyH.nil)
              · (try simp only [lgt, lgz, lgs])
                go_simp
                refine (hrw _).mono ?_
                clear hrw
                rintro e w3 ⟨hm3, kk, ff, nn, rfl, hv3⟩
                have HN3 : Hid (New w2 w3) := hId ((show New w2 w2.drew from (by with_reducible (repeat (first | exact Mod.refl _ _ | refine Mod.drewN ?_ _ | refine Mod.drew ?_ | refine Mod.alloc ?_ _)))).trans hm3)
                have HV3 := hId hv3
                clear hm3 hv3
                generalize hok : (rdRow (s.extract K k)).isSome = okb at *
                have HOK := hId hok
                clear hok
                go_wp2_with fail
                refine hK.out _ _ HN3.out (fun hHeld => ?_)
                clear hK Kx
                (try simp only [Act.put, lgt, lgz, lgs, lst, lsz, lss])
                refine wpAnyH_take (i := 11) (v := ?_) rfl (by kernel_rfl) (by kernel_rfl) (by kernel_rfl) (fun _ _ _ h => h) (Or.inl ⟨by rfl, fun W hSw => ?_⟩) (by assumption) ?_
                rotate_left
                · (have hq := HSX.out W hSw); (try simp only [lgt, lgz, lgs]); go_simp; any_goals (with_reducible rfl)
                simp only [Act.put, lgt, lgz, lgs, lst, lsz, lss]
                refine wpAnyH_take (i := 12) (v := ?_) rfl (by kernel_rfl) (by kernel_rfl) (by kernel_rfl) (fun _ _ _ h => h) (Or.inl ⟨by rfl, fun W hSw => ?_⟩) (by assumption) ?_
                rotate_left
                · (have hq := HSX.out W hSw); (try simp only [lgt, lgz, lgs]); go_simp; any_goals (with_reducible rfl)
                simp only [Act.put, lgt, lgz, lgs, lst, lsz, lss]
                refine wpAnyH_take (i := 13) (v := ?_) rfl (by kernel_rfl) (by kernel_rfl) (by kernel_rfl) (fun _ _ _ h => h) (Or.inl ⟨by rfl, fun W hSw => ?_⟩) (by assumption) ?_
                rotate_left
                · (have hq := HSX.out W hSw); (try simp only [lgt, lgz, lgs]); go_simp; any_goals (with_reducible rfl)
                simp only [Act.put, lgt, lgz, lgs, lst, lsz, lss]
                refine wpAnyH_ready (rs := [14]) (by kernel_rfl) (by simp) ?_
                refine AllReadyH.cons rfl (fun Kx hK => ?_) AllReadyH.nil
                (try simp only [lgt, lgz, lgs])
                go_simp
                have HVB := hId (Blk.new w3 30 #[.int .i64 0, .bool false, .int .i64 0, .string ⟨#[]⟩, .slice none 0 0, .slice none 0 0])
                have HN4 : Hid (New w2 (w3.alloc (.cells #[.int .i64 0, .bool false, .int .i64 0, .string ⟨#[]⟩, .slice none 0 0, .slice none 0 0] 30))) := hId (HN3.out.alloc _)
                have HVG : Hid (w2.heap.size ≤ w3.heap.size) := hId HN3.out.size
                refine hK.out _ _ HN4.out (fun hHeld => ?_)
                clear hK Kx HN3
                (try simp only [Act.put, lgt, lgz, lgs, lst, lsz, lss])
                generalize w3.alloc (.cells #[.int .i64 0, .bool false, .int .i64 0, .string ⟨#[]⟩, .slice none 0 0, .slice none 0 0] 30) = w4 at *
                generalize w3.heap.size = vb at *
                have v0 := HVB.out.cell 0
                have v1 := HVB.out.cell 1
                have v2 := HVB.out.cell 2
                have v3 := HVB.out.cell 3
                have v4 := HVB.out.cell 4
                have v5 := HVB.out.cell 5
                have vf := HVB.out.frozen
                have vl := HVB.out.lt
                simp only [lqt, lqz, lqs] at v0 v1 v2 v3 v4 v5
                refine wpAnyH_ready (rs := [15]) (by kernel_rfl) (by simp) ?_
                refine AllReadyH.cons rfl (fun Kx hK => ?_) AllReadyH.nil
                (try simp only [lgt, lgz, lgs, VA.val, leafA])
                go_simp
                clear v0 v1 v2 v3 v4 v5 vf vl
                have HVS := hId ((((((HVB.out.set 0 (.int .i64 kk)).set 1 (.bool ff)).set 2 (.int .i64 nn)).set 3 (.string ⟨#[]⟩)).set 4 (.slice none 0 0)).set 5 (.slice none 0 0))
                have HMS : Hid (Only vb w4 ((((((w4.setCell ⟨vb, 0, none⟩ (.int .i64 kk)).setCell ⟨vb, 1, none⟩ (.bool ff)).setCell ⟨vb, 2, none⟩ (.int .i64 nn)).setCell ⟨vb, 3, none⟩ (.string ⟨#[]⟩)).setCell ⟨vb, 4, none⟩ (.slice none 0 0)).setCell ⟨vb, 5, none⟩ (.slice none 0 0))) := hId (by with_reducible repeat (first | exact Mod.refl _ _ | refine Only.set ?_ _ _))
                generalize ((((((w4.setCell ⟨vb, 0, none⟩ (.int .i64 kk)).setCell ⟨vb, 1, none⟩ (.bool ff)).setCell ⟨vb, 2, none⟩ (.int .i64 nn)).setCell ⟨vb, 3, none⟩ (.string ⟨#[]⟩)).setCell ⟨vb, 4, none⟩ (.slice none 0 0)).setCell ⟨vb, 5, none⟩ (.slice none 0 0)) = w5 at *
                have HN5 : Hid (New w2 w5) := hId (HN4.out.step HMS.out (fun k hk e => by have := HVG.out; omega))
                refine hK.out _ _ HN5.out (fun hHeld => ?_)
                clear hK Kx
                (try simp only [Act.put, lgt, lgz, lgs, lst, lsz, lss])
                refine wpAnyH_take (i := 16) (v := ?_) rfl (by kernel_rfl) (by kernel_rfl) (by kernel_rfl) (fun _ _ _ h => h) (Or.inl ⟨by rfl, fun W hSw => ?_⟩) (by assumption) ?_
                rotate_left
                · (have hq := HSX.out W hSw); (try simp only [lgt, lgz, lgs]); go_simp; any_goals (with_reducible rfl)
                simp only [Act.put, lgt, lgz, lgs, lst, lsz, lss]
                refine wpAnyH_done (by kernel_rfl) ?_ _
                clear hHeld HVB HN4 HMS HVG HSX
                have HRD5 := hId (HRD2.out.mod HN5.out (fun e => e))
                have HA5 := hId (HA2.out.new HN5.out)
                have HM5 : Hid (Only b w w5) := hId (HM2.out.trans (HN5.out.mono (fun _ _ e => e.elim)))
                have c1 := HRD5.out.cell 1
                have z1 := HRD5.out.frozen 1
                have bl := HRD5.out.lt
                simp only [RV.cells, lqt, lqz, lqs] at c1
                cases okb
                · have hE : X = .bad K := by
                    have h1 := HOK.out
                    rw [HCUT.out] at h1
                    rw [HX.out]
                    cases hr : rdRow (cutB L K k) with
                    | none => rfl
                    | some v => rw [hr] at h1; cases h1
                  have HE := hId hE
                  clear hE
                  have hfa := val_failAt s _ B b K w5 HRD5.out rfl hKs hHB
                  go_wp2_with fail
                  refine hfa.mono ?_
                  clear hfa
                  rintro e w6 h3
                  obtain ⟨rfl, hm6, ha6⟩ := h3.after (HM5.out.fromB hHB)
                  have HM6 := hId hm6
                  have HA6 := hId ha6
                  clear h3 hm6 ha6
                  go_wp2_with fail
                  go_end0
                  rw [HE.out]
                  exact ⟨rfl, HM6.out, HA6.out⟩
                · have hE : X = putS st (.mk kk ff nn ⟨#[]⟩ [] []) k := by
                    have h1 := HOK.out
                    have h2 := HV3.out
                    rw [HCUT.out] at h1 h2
                    rw [HX.out]
                    cases hr : rdRow (cutB L K k) with
                    | none => rw [hr] at h1; cases h1
                    | some v => simp only; rw [h2 v hr]
                  have HE := hId hE
                  clear hE
                  have HRD6 := hId (HRD5.out.set 1 (.int .i64 (k : Int)))
                  have HO6 : Hid (Only b w5 (w5.setCell ⟨b, 1, none⟩ (.int .i64 (k : Int)))) := hId ((Mod.refl (fun k => k = b) w5).setCell (p := ⟨b, 1, none⟩) (.inl rfl) _)
                  have HA6 := hId (HA5.out.moved HO6.out (r' := ⟨k, sk, sn, sc, false, false, ⟨ok, of, on, ow, ola, oln, olc, oma, omn, omc⟩, false, pl⟩) HRD6.out ⟨rfl, rfl, rfl⟩ (by show K ≤ k; omega) (by show k ≤ s.size; omega))
                  have HM6 : Hid (Only b w (w5.setCell ⟨b, 1, none⟩ (.int .i64 (k : Int)))) := hId (HM5.out.trans HO6.out)
                  have HV6 := hId (HVS.out.mod HO6.out (HVS.out.ne HRD5.out (by decide)))
                  go_upto_region 16 with (fail)
                  clear c1 z1 bl
                  generalize w5.setCell ⟨b, 1, none⟩ (.int .i64 (k : Int)) = w6 at *
                  have v0 := HV6.out.cell 0
                  have v1 := HV6.out.cell 1
                  have v2 := HV6.out.cell 2
                  have v3 := HV6.out.cell 3
                  have v4 := HV6.out.cell 4
                  have v5 := HV6.out.cell 5
                  have vl := HV6.out.lt
                  simp only [lqt, lqz, lqs, lst, lsz, lss] at v0 v1 v2 v3 v4 v5
                  have hz6 : B ≤ w6.heap.size := Nat.le_trans hB HM6.out.size
                  have hpu := val_put s _ B b w6 ⟨kk, ff, nn, ⟨#[]⟩, none, 0, 0, none, 0, 0⟩ (.mk kk ff nn ⟨#[]⟩ [] []) st os HA6.out (leafTree _ _ (by show 0 < k; omega) _ _ _ _) hz6 (by omega) hl
                  simp only [VA.val] at hpu
                  go_wp2_with fail
                  refine hpu.mono ?_
                  clear hpu
                  rintro e w7 hput
                  obtain ⟨rfl, hm7, ha7⟩ := hput.at rfl rfl rfl hk2
                  have HM7 := hId hm7
                  have HA7 := hId ha7
                  clear hput hm7 ha7
                  go_wp2_with fail
                  go_end0
                  rw [HE.out]
                  exact ⟨rfl, (HM6.out.fromB hHB).trans HM7.out, HA7.out⟩
              · (try simp only [lgt, lgz, lgs])
                go_simp
                have hva := Blk.new w2 30 #[.int .i64 0, .bool false, .int .i64 0, .string ⟨#[]⟩, .slice none 0 0, .slice none 0 0]
                have HVB := hId (hva.mod ((Mod.refl (fun _ => False) _).drew) (fun e => e))
                have HN3 : Hid (New w2 (w2.alloc (.cells #[.int .i64 0, .bool false, .int .i64 0, .string ⟨#[]⟩, .slice none 0 0, .slice none 0 0] 30)).drew) := hId (by with_reducible (repeat (first | exact Mod.refl _ _ | refine Mod.drewN ?_ _ | refine Mod.drew ?_ | refine Mod.alloc ?_ _)))
                refine hK.out _ _ (by with_reducible (repeat (first | exact Mod.refl _ _ | refine Mod.drewN ?_ _ | refine Mod.drew ?_ | refine Mod.alloc ?_ _))) (fun hHeld => ?_)
                clear hK Kx hva
                (try simp only [Act.put, lgt, lgz, lgs, lst, lsz, lss])
                generalize (w2.alloc (.cells #[.int .i64 0, .bool false, .int .i64 0, .string ⟨#[]⟩, .slice none 0 0, .slice none 0 0] 30)).drew = w3 at *
                obtain ⟨vb, hvb⟩ : ∃ vb, w2.heap.size = vb := ⟨_, rfl⟩
                rw [hvb] at HVB
                simp only [hvb]
                have HVG : Hid (w2.heap.size ≤ vb) := hId (Nat.le_of_eq hvb)
                clear hvb
                refine wpAnyH_ready (rs := [10]) (by kernel_rfl) (by simp) ?_
                refine AllReadyH.cons rfl (fun Kx hK => ?_) AllReadyH.nil
                (try simp only [lgt, lgz, lgs])
                go_simp
                refine (hrw _).mono ?_
                clear hrw
                rintro e w4 ⟨hm4, kk, ff, nn, rfl, hv3⟩
                have HN4 : Hid (New w2 w4) := hId (HN3.out.trans hm4)
                have HVB := hId (HVB.out.mod hm4 (fun e => e))
                have HV3 := hId hv3
                clear hm4 hv3
                generalize hok : (rdRow (s.extract K k)).isSome = okb at *
                have HOK := hId hok
                clear hok
                go_wp2_with fail
                refine hK.out _ _ HN4.out (fun hHeld => ?_)
                clear hK Kx HN3
                (try simp only [Act.put, lgt, lgz, lgs, lst, lsz, lss])
                refine wpAnyH_take (i := 11) (v := ?_) rfl (by kernel_rfl) (by kernel_rfl) (by kernel_rfl) (fun _ _ _ h => h) (Or.inl ⟨by rfl, fun W hSw => ?_⟩) (by assumption) ?_
                rotate_left
                · (have hq := HSX.out W hSw); (try simp only [lgt, lgz, lgs]); go_simp; any_goals (with_reducible rfl)
                simp only [Act.put, lgt, lgz, lgs, lst, lsz, lss]
                refine wpAnyH_take (i := 12) (v := ?_) rfl (by kernel_rfl) (by kernel_rfl) (by kernel_rfl) (fun _ _ _ h => h) (Or.inl ⟨by rfl, fun W hSw => ?_⟩) (by assumption) ?_
                rotate_left
                · (have hq := HSX.out W hSw); (try simp only [lgt, lgz, lgs]); go_simp; any_goals (with_reducible rfl)
                simp only [Act.put, lgt, lgz, lgs, lst, lsz, lss]
                refine wpAnyH_take (i := 13) (v := ?_) rfl (by kernel_rfl) (by kernel_rfl) (by kernel_rfl) (fun _ _ _ h => h) (Or.inl ⟨by rfl, fun W hSw => ?_⟩) (by assumption) ?_
                rotate_left
                · (have hq := HSX.out W hSw); (try simp only [lgt, lgz, lgs]); go_simp; any_goals (with_reducible rfl)
                simp only [Act.put, lgt, lgz, lgs, lst, lsz, lss]
                have v0 := HVB.out.cell 0
                have v1 := HVB.out.cell 1
                have v2 := HVB.out.cell 2
                have v3 := HVB.out.cell 3
                have v4 := HVB.out.cell 4
                have v5 := HVB.out.cell 5
                have vf := HVB.out.frozen
                have vl := HVB.out.lt
                simp only [lqt, lqz, lqs] at v0 v1 v2 v3 v4 v5
                refine wpAnyH_ready (rs := [15]) (by kernel_rfl) (by simp) ?_
                refine AllReadyH.cons rfl (fun Kx hK => ?_) AllReadyH.nil
                (try simp only [lgt, lgz, lgs, VA.val, leafA])
                go_simp
                clear v0 v1 v2 v3 v4 v5 vf vl
                have HVS := hId ((((((HVB.out.set 0 (.int .i64 kk)).set 1 (.bool ff)).set 2 (.int .i64 nn)).set 3 (.string ⟨#[]⟩)).set 4 (.slice none 0 0)).set 5 (.slice none 0 0))
                have HMS : Hid (Only vb w4 ((((((w4.setCell ⟨vb, 0, none⟩ (.int .i64 kk)).setCell ⟨vb, 1, none⟩ (.bool ff)).setCell ⟨vb, 2, none⟩ (.int .i64 nn)).setCell ⟨vb, 3, none⟩ (.string ⟨#[]⟩)).setCell ⟨vb, 4, none⟩ (.slice none 0 0)).setCell ⟨vb, 5, none⟩ (.slice none 0 0))) := hId (by with_reducible repeat (first | exact Mod.refl _ _ | refine Only.set ?_ _ _))
                generalize ((((((w4.setCell ⟨vb, 0, none⟩ (.int .i64 kk)).setCell ⟨vb, 1, none⟩ (.bool ff)).setCell ⟨vb, 2, none⟩ (.int .i64 nn)).setCell ⟨vb, 3, none⟩ (.string ⟨#[]⟩)).setCell ⟨vb, 4, none⟩ (.slice none 0 0)).setCell ⟨vb, 5, none⟩ (.slice none 0 0)) = w5 at *
                have HN5 : Hid (New w2 w5) := hId (HN4.out.step HMS.out (fun k hk e => by have := HVG.out; omega))
                refine hK.out _ _ HN5.out (fun hHeld => ?_)
                clear hK Kx
                (try simp only [Act.put, lgt, lgz, lgs, lst, lsz, lss])
                refine wpAnyH_take (i := 16) (v := ?_) rfl (by kernel_rfl) (by kernel_rfl) (by kernel_rfl) (fun _ _ _ h => h) (Or.inl ⟨by rfl, fun W hSw => ?_⟩) (by assumption) ?_
                rotate_left
                · (have hq := HSX.out W hSw); (try simp only [lgt, lgz, lgs]); go_simp; any_goals (with_reducible rfl)
                simp only [Act.put, lgt, lgz, lgs, lst, lsz, lss]
                refine wpAnyH_done (by kernel_rfl) ?_ _
                clear hHeld HVB HN4 HMS HVG HSX
                have HRD5 := hId (HRD2.out.mod HN5.out (fun e => e))
                have HA5 := hId (HA2.out.new HN5.out)
                have HM5 : Hid (Only b w w5) := hId (HM2.out.trans (HN5.out.mono (fun _ _ e => e.elim)))
                have c1 := HRD5.out.cell 1
                have z1 := HRD5.out.frozen 1
                have bl := HRD5.out.lt
                simp only [RV.cells, lqt, lqz, lqs] at c1
                cases okb
                · have hE : X = .bad K := by
                    have h1 := HOK.out
                    rw [HCUT.out] at h1
                    rw [HX.out]
                    cases hr : rdRow (cutB L K k) with
                    | none => rfl
                    | some v => rw [hr] at h1; cases h1
                  have HE := hId hE
                  clear hE
                  have hfa := val_failAt s _ B b K w5 HRD5.out rfl hKs hHB
                  go_wp2_with fail
                  refine hfa.mono ?_
                  clear hfa
                  rintro e w6 h3
                  obtain ⟨rfl, hm6, ha6⟩ := h3.after (HM5.out.fromB hHB)
                  have HM6 := hId hm6
                  have HA6 := hId ha6
                  clear h3 hm6 ha6
                  go_wp2_with fail
                  go_end0
                  rw [HE.out]
                  exact ⟨rfl, HM6.out, HA6.out⟩
                · have hE : X = putS st (.mk kk ff nn ⟨#[]⟩ [] []) k := by
                    have h1 := HOK.out
                    have h2 := HV3.out
                    rw [HCUT.out] at h1 h2
                    rw [HX.out]
                    cases hr : rdRow (cutB L K k) with
                    | none => rw [hr] at h1; cases h1
                    | some v => simp only; rw [h2 v hr]
                  have HE := hId hE
                  clear hE
                  have HRD6 := hId (HRD5.out.set 1 (.int .i64 (k : Int)))
                  have HO6 : Hid (Only b w5 (w5.setCell ⟨b, 1, none⟩ (.int .i64 (k : Int)))) := hId ((Mod.refl (fun k => k = b) w5).setCell (p := ⟨b, 1, none⟩) (.inl rfl) _)
                  have HA6 := hId (HA5.out.moved HO6.out (r' := ⟨k, sk, sn, sc, false, false, ⟨ok, of, on, ow, ola, oln, olc, oma, omn, omc⟩, false, pl⟩) HRD6.out ⟨rfl, rfl, rfl⟩ (by show K ≤ k; omega) (by show k ≤ s.size; omega))
                  have HM6 : Hid (Only b w (w5.setCell ⟨b, 1, none⟩ (.int .i64 (k : Int)))) := hId (HM5.out.trans HO6.out)
                  have HV6 := hId (HVS.out.mod HO6.out (HVS.out.ne HRD5.out (by decide)))
                  go_upto_region 16 with (fail)
                  clear c1 z1 bl
                  generalize w5.setCell ⟨b, 1, none⟩ (.int .i64 (k : Int)) = w6 at *
                  have v0 := HV6.out.cell 0
                  have v1 := HV6.out.cell 1
                  have v2 := HV6.out.cell 2
                  have v3 := HV6.out.cell 3
                  have v4 := HV6.out.cell 4
                  have v5 := HV6.out.cell 5
                  have vl := HV6.out.lt
                  simp only [lqt, lqz, lqs, lst, lsz, lss] at v0 v1 v2 v3 v4 v5
                  have hz6 : B ≤ w6.heap.size := Nat.le_trans hB HM6.out.size
                  have hpu := val_put s _ B b w6 ⟨kk, ff, nn, ⟨#[]⟩, none, 0, 0, none, 0, 0⟩ (.mk kk ff nn ⟨#[]⟩ [] []) st os HA6.out (leafTree _ _ (by show 0 < k; omega) _ _ _ _) hz6 (by omega) hl
                  simp only [VA.val] at hpu
                  go_wp2_with fail
                  refine hpu.mono ?_
                  clear hpu
                  rintro e w7 hput
                  obtain ⟨rfl, hm7, ha7⟩ := hput.at rfl rfl rfl hk2
                  have HM7 := hId hm7
                  have HA7 := hId ha7
                  clear hput hm7 ha7
                  go_wp2_with fail
                  go_end0
                  rw [HE.out]
                  exact ⟨rfl, (HM6.out.fromB hHB).trans HM7.out, HA7.out⟩
          · have HS1 := hId (HYES.out (by rw [HRB.out]; rfl))
            clear HYES HNO HRB HS
            go_wp2_with fail
            refine (hll _).mono ?_
            rintro e w3 ⟨rfl, rfl⟩
            go_wp2_with fail
            refine (hdd _).mono ?_
            rintro e w3 ⟨rfl, rfl⟩
            have hk5 : (k : Int) + 1 < 400000 := by omega
            go_wp2_with fail
            go_roundw
            case rel => exact ⟨k + 1, by omega, by omega, by go_num, HS1, trivial⟩
            case measure => simp [intOf]; omega
        · have HS1 := hId (HYES.out (by rw [HRB.out]; rfl))
          clear HYES HNO HRB HS
          go_wp2_with fail
          refine (hll _).mono ?_
          rintro e w3 ⟨rfl, rfl⟩
          have hk5 : (k : Int) + 1 < 400000 := by omega
          go_wp2_with fail
          go_roundw
          case rel => exact ⟨k + 1, by omega, by omega, by go_num, HS1, trivial⟩
          case measure => simp [intOf]; omega
      · have hd0 : decide ((k : Int) < (s.size : Int)) = false := by simp; omega
        have hkE : k = E := by rw [← HS.out]; exact (spanAt_end _ (by rw [← HL.out, HLEN.out]; omega)).symm
        clear HS
        subst hkE
        have hkz : (K : Int) ≤ (k : Int) := by omega
        have hkz2 : (k : Int) ≤ (s.size : Int) := by omega
        have hk0 : (0 : Int) ≤ (K : Int) := by omega
        have hcut : s.extract K k = cutB L K k := by
          rw [← HL.out]
          apply ByteArray.ext
          apply Array.toList_inj.mp
          show (s.extract K k).data.toList = _
          rw [extract_data]
          simp [cutB, List.drop_take]
        have hrw := fun W => val_row (s.extract K k) W (by simp only [ByteArray.size_extract]; omega)
        have HCUT := hId hcut
        clear hcut HE
        go_upto_region 12 with (fail)
        have HSX : Hid (∀ W, New w2 W → W.cell? ⟨b, 0, none⟩ = some (.string s) ∧ W.cell? ⟨b, 1, none⟩ = some (.int .i64 (K : Int)) ∧ b < W.heap.size) := hId (fun W hW => by
          have h1 := HRD2.out.mod hW (fun e => e)
          exact ⟨(h1.cell 0).trans rfl, (h1.cell 1).trans rfl, h1.lt⟩)
        clear c0 c1 bl
        refine wp_region_held_drew (S := New w2) (by kernel_rfl) (by with_reducible (repeat (first | exact Mod.refl _ _ | refine Mod.drewN ?_ _ | refine Mod.drew ?_ | refine Mod.alloc ?_ _))) (fun hHeld => ?_)
        simp only [List.size_toArray, List.length_cons, List.length_nil, Nat.reduceAdd]
        refine wpAnyH_take (i := 0) (v := ?_) rfl (by kernel_rfl) (by kernel_rfl) (by kernel_rfl) (fun _ _ _ h => h) (Or.inl ⟨by rfl, fun W hSw => ?_⟩) (by assumption) ?_
        rotate_left
        · (have hq := HSX.out W hSw); (try simp only [lgt, lgz, lgs]); go_simp; any_goals (with_reducible rfl)
        simp only [Act.put, lgt, lgz, lgs, lst, lsz, lss]
        refine wpAnyH_take (i := 1) (v := ?_) rfl (by kernel_rfl) (by kernel_rfl) (by kernel_rfl) (fun _ _ _ h => h) (Or.inl ⟨by rfl, fun W hSw => ?_⟩) (by assumption) ?_
        rotate_left
        · (have hq := HSX.out W hSw); (try simp only [lgt, lgz, lgs]); go_simp; any_goals (with_reducible rfl)
        simp only [Act.put, lgt, lgz, lgs, lst, lsz, lss]
        refine wpAnyH_take (i := 2) (v := ?_) rfl (by kernel_rfl) (by kernel_rfl) (by kernel_rfl) (fun _ _ _ h => h) (Or.inl ⟨by rfl, fun W hSw => ?_⟩) (by assumption) ?_
        rotate_left
        · (have hq := HSX.out W hSw); (try simp only [lgt, lgz, lgs]); go_simp; any_goals (with_reducible rfl)
        simp only [Act.put, lgt, lgz, lgs, lst, lsz, lss]
        refine wpAnyH_take (i := 3) (v := ?_) rfl (by kernel_rfl) (by kernel_rfl) (by kernel_rfl) (fun _ _ _ h => h) (Or.inl ⟨by rfl, fun W hSw => ?_⟩) (by assumption) ?_
        rotate_left
        · (have hq := HSX.out W hSw); (try simp only [lgt, lgz, lgs]); go_simp; any_goals (with_reducible rfl)
        simp only [Act.put, lgt, lgz, lgs, lst, lsz, lss]
        refine wpAnyH_take (i := 4) (v := ?_) rfl (by kernel_rfl) (by kernel_rfl) (by kernel_rfl) (fun _ _ _ h => h) (Or.inl ⟨by rfl, fun W hSw => ?_⟩) (by assumption) ?_
        rotate_left
        · (have hq := HSX.out W hSw); (try simp only [lgt, lgz, lgs]); go_simp; any_goals (with_reducible rfl)
        simp only [Act.put, lgt, lgz, lgs, lst, lsz, lss]
        refine wpAnyH_take (i := 5) (v := ?_) rfl (by kernel_rfl) (by kernel_rfl) (by kernel_rfl) (fun _ _ _ h => h) (Or.inl ⟨by rfl, fun W hSw => ?_⟩) (by assumption) ?_
        rotate_left
        · (have hq := HSX.out W hSw); (try simp only [lgt, lgz, lgs]); go_simp; any_goals (with_reducible rfl)
        simp only [Act.put, lgt, lgz, lgs, lst, lsz, lss]
        refine wpAnyH_take (i := 6) (v := ?_) rfl (by kernel_rfl) (by kernel_rfl) (by kernel_rfl) (fun _ _ _ h => h) (Or.inl ⟨by rfl, fun W hSw => ?_⟩) (by assumption) ?_
        rotate_left
        · (have hq := HSX.out W hSw); (try simp only [lgt, lgz, lgs]); go_simp; any_goals (with_reducible rfl)
        simp only [Act.put, lgt, lgz, lgs, lst, lsz, lss]
        refine wpAnyH_take (i := 7) (v := ?_) rfl (by kernel_rfl) (by kernel_rfl) (by kernel_rfl) (fun _ _ _ h => h) (Or.inl ⟨by rfl, fun W hSw => ?_⟩) (by assumption) ?_
        rotate_left
        · (have hq := HSX.out W hSw); (try simp only [lgt, lgz, lgs]); go_simp; any_goals (with_reducible rfl)
        simp only [Act.put, lgt, lgz, lgs, lst, lsz, lss]
        refine wpAnyH_take (i := 8) (v := ?_) rfl (by kernel_rfl) (by kernel_rfl) (by kernel_rfl) (fun _ _ _ h => h) (Or.inl ⟨by rfl, fun W hSw => ?_⟩) (by assumption) ?_
        rotate_left
        · (have hq := HSX.out W hSw); (try simp only [lgt, lgz, lgs]); go_simp; any_goals (with_reducible rfl)
        simp only [Act.put, lgt, lgz, lgs, lst, lsz, lss]
        refine wpAnyH_take (i := 9) (v := ?_) rfl (by kernel_rfl) (by kernel_rfl) (by kernel_rfl) (fun _ _ _ h => h) (Or.inl ⟨by rfl, fun W hSw => ?_⟩) (by assumption) ?_
        rotate_left
        · (have hq := HSX.out W hSw); (try simp only [lgt, lgz, lgs]); go_simp; any_goals (with_reducible rfl)
        simp only [Act.put, lgt, lgz, lgs, lst, lsz, lss]
        refine wpAnyH_ready (rs := [10, 14]) (by kernel_rfl) (by simp) ?_
        refine AllReadyH.cons rfl (fun Kx hK => ?_) (AllReadyH.cons rfl (fun Kx hK => ?_) AllReadyH.nil)
        · (try simp only [lgt, lgz, lgs])
          go_simp
          refine (hrw _).mono ?_
          clear hrw
          rintro e w3 ⟨hm3, kk, ff, nn, rfl, hv3⟩
          have HN3 : Hid (New w2 w3) := hId ((show New w2 w2.drew from (by with_reducible (repeat (first | exact Mod.refl _ _ | refine Mod.drewN ?_ _ | refine Mod.drew ?_ | refine Mod.alloc ?_ _)))).trans hm3)
          have HV3 := hId hv3
          clear hm3 hv3
          generalize hok : (rdRow (s.extract K k)).isSome = okb at *
          have HOK := hId hok
          clear hok
          go_wp2_with fail
          refine hK.out _ _ HN3.out (fun hHeld => ?_)
          clear hK Kx
          (try simp only [Act.put, lgt, lgz, lgs, lst, lsz, lss])
          refine wpAnyH_take (i := 11) (v := ?_) rfl (by kernel_rfl) (by kernel_rfl) (by kernel_rfl) (fun _ _ _ h => h) (Or.inl ⟨by rfl, fun W hSw => ?_⟩) (by assumption) ?_
          rotate_left
          · (have hq := HSX.out W hSw); (try simp only [lgt, lgz, lgs]); go_simp; any_goals (with_reducible rfl)
          simp only [Act.put, lgt, lgz, lgs, lst, lsz, lss]
          refine wpAnyH_take (i := 12) (v := ?_) rfl (by kernel_rfl) (by kernel_rfl) (by kernel_rfl) (fun _ _ _ h => h) (Or.inl ⟨by rfl, fun W hSw => ?_⟩) (by assumption) ?_
          rotate_left
          · (have hq := HSX.out W hSw); (try simp only [lgt, lgz, lgs]); go_simp; any_goals (with_reducible rfl)
          simp only [Act.put, lgt, lgz, lgs, lst, lsz, lss]
          refine wpAnyH_take (i := 13) (v := ?_) rfl (by kernel_rfl) (by kernel_rfl) (by kernel_rfl) (fun _ _ _ h => h) (Or.inl ⟨by rfl, fun W hSw => ?_⟩) (by assumption) ?_
          rotate_left
          · (have hq := HSX.out W hSw); (try simp only [lgt, lgz, lgs]); go_simp; any_goals (with_reducible rfl)
          simp only [Act.put, lgt, lgz, lgs, lst, lsz, lss]
          refine wpAnyH_ready (rs := [14]) (by kernel_rfl) (by simp) ?_
          refine AllReadyH.cons rfl (fun Kx hK => ?_) AllReadyH.nil
          (try simp only [lgt, lgz, lgs])
          go_simp
          have HVB := hId (Blk.new w3 30 #[.int .i64 0, .bool false, .int .i64 0, .string ⟨#[]⟩, .slice none 0 0, .slice none 0 0])
          have HN4 : Hid (New w2 (w3.alloc (.cells #[.int .i64 0, .bool false, .int .i64 0, .string ⟨#[]⟩, .slice none 0 0, .slice none 0 0] 30))) := hId (HN3.out.alloc _)
          have HVG : Hid (w2.heap.size ≤ w3.heap.size) := hId HN3.out.size
          refine hK.out _ _ HN4.out (fun hHeld => ?_)
          clear hK Kx HN3
          (try simp only [Act.put, lgt, lgz, lgs, lst, lsz, lss])
          generalize w3.alloc (.cells #[.int .i64 0, .bool false, .int .i64 0, .string ⟨#[]⟩, .slice none 0 0, .slice none 0 0] 30) = w4 at *
          generalize w3.heap.size = vb at *
          have v0 := HVB.out.cell 0
          have v1 := HVB.out.cell 1
          have v2 := HVB.out.cell 2
          have v3 := HVB.out.cell 3
          have v4 := HVB.out.cell 4
          have v5 := HVB.out.cell 5
          have vf := HVB.out.frozen
          have vl := HVB.out.lt
          simp only [lqt, lqz, lqs] at v0 v1 v2 v3 v4 v5
          refine wpAnyH_ready (rs := [15]) (by kernel_rfl) (by simp) ?_
          refine AllReadyH.cons rfl (fun Kx hK => ?_) AllReadyH.nil
          (try simp only [lgt, lgz, lgs, VA.val, leafA])
          go_simp
          clear v0 v1 v2 v3 v4 v5 vf vl
          have HVS := hId ((((((HVB.out.set 0 (.int .i64 kk)).set 1 (.bool ff)).set 2 (.int .i64 nn)).set 3 (.string ⟨#[]⟩)).set 4 (.slice none 0 0)).set 5 (.slice none 0 0))
          have HMS : Hid (Only vb w4 ((((((w4.setCell ⟨vb, 0, none⟩ (.int .i64 kk)).setCell ⟨vb, 1, none⟩ (.bool ff)).setCell ⟨vb, 2, none⟩ (.int .i64 nn)).setCell ⟨vb, 3, none⟩ (.string ⟨#[]⟩)).setCell ⟨vb, 4, none⟩ (.slice none 0 0)).setCell ⟨vb, 5, none⟩ (.slice none 0 0))) := hId (by with_reducible repeat (first | exact Mod.refl _ _ | refine Only.set ?_ _ _))
          generalize ((((((w4.setCell ⟨vb, 0, none⟩ (.int .i64 kk)).setCell ⟨vb, 1, none⟩ (.bool ff)).setCell ⟨vb, 2, none⟩ (.int .i64 nn)).setCell ⟨vb, 3, none⟩ (.string ⟨#[]⟩)).setCell ⟨vb, 4, none⟩ (.slice none 0 0)).setCell ⟨vb, 5, none⟩ (.slice none 0 0)) = w5 at *
          have HN5 : Hid (New w2 w5) := hId (HN4.out.step HMS.out (fun k hk e => by have := HVG.out; omega))
          refine hK.out _ _ HN5.out (fun hHeld => ?_)
          clear hK Kx
          (try simp only [Act.put, lgt, lgz, lgs, lst, lsz, lss])
          refine wpAnyH_take (i := 16) (v := ?_) rfl (by kernel_rfl) (by kernel_rfl) (by kernel_rfl) (fun _ _ _ h => h) (Or.inl ⟨by rfl, fun W hSw => ?_⟩) (by assumption) ?_
          rotate_left
          · (have hq := HSX.out W hSw); (try simp only [lgt, lgz, lgs]); go_simp; any_goals (with_reducible rfl)
          simp only [Act.put, lgt, lgz, lgs, lst, lsz, lss]
          refine wpAnyH_done (by kernel_rfl) ?_ _
          clear hHeld HVB HN4 HMS HVG HSX
          have HRD5 := hId (HRD2.out.mod HN5.out (fun e => e))
          have HA5 := hId (HA2.out.new HN5.out)
          have HM5 : Hid (Only b w w5) := hId (HM2.out.trans (HN5.out.mono (fun _ _ e => e.elim)))
          have c1 := HRD5.out.cell 1
          have z1 := HRD5.out.frozen 1
          have bl := HRD5.out.lt
          simp only [RV.cells, lqt, lqz, lqs] at c1
          cases okb
          · have hE : X = .bad K := by
              have h1 := HOK.out
              rw [HCUT.out] at h1
              rw [HX.out]
              cases hr : rdRow (cutB L K k) with
              | none => rfl
              | some v => rw [hr] at h1; cases h1
            have HE := hId hE
            clear hE
            have hfa := val_failAt s _ B b K w5 HRD5.out rfl hKs hHB
            go_wp2_with fail
            refine hfa.mono ?_
            clear hfa
            rintro e w6 h3
            obtain ⟨rfl, hm6, ha6⟩ := h3.after (HM5.out.fromB hHB)
            have HM6 := hId hm6
            have HA6 := hId ha6
            clear h3 hm6 ha6
            go_wp2_with fail
            go_end0
            rw [HE.out]
            exact ⟨rfl, HM6.out, HA6.out⟩
          · have hE : X = putS st (.mk kk ff nn ⟨#[]⟩ [] []) k := by
              have h1 := HOK.out
              have h2 := HV3.out
              rw [HCUT.out] at h1 h2
              rw [HX.out]
              cases hr : rdRow (cutB L K k) with
              | none => rw [hr] at h1; cases h1
              | some v => simp only; rw [h2 v hr]
            have HE := hId hE
            clear hE
            have HRD6 := hId (HRD5.out.set 1 (.int .i64 (k : Int)))
            have HO6 : Hid (Only b w5 (w5.setCell ⟨b, 1, none⟩ (.int .i64 (k : Int)))) := hId ((Mod.refl (fun k => k = b) w5).setCell (p := ⟨b, 1, none⟩) (.inl rfl) _)
            have HA6 := hId (HA5.out.moved HO6.out (r' := ⟨k, sk, sn, sc, false, false, ⟨ok, of, on, ow, ola, oln, olc, oma, omn, omc⟩, false, pl⟩) HRD6.out ⟨rfl, rfl, rfl⟩ (by show K ≤ k; omega) (by show k ≤ s.size; omega))
            have HM6 : Hid (Only b w (w5.setCell ⟨b, 1, none⟩ (.int .i64 (k : Int)))) := hId (HM5.out.trans HO6.out)
            have HV6 := hId (HVS.out.mod HO6.out (HVS.out.ne HRD5.out (by decide)))
            go_upto_region 16 with (fail)
            clear c1 z1 bl
            generalize w5.setCell ⟨b, 1, none⟩ (.int .i64 (k : Int)) = w6 at *
            have v0 := HV6.out.cell 0
            have v1 := HV6.out.cell 1
            have v2 := HV6.out.cell 2
            have v3 := HV6.out.cell 3
            have v4 := HV6.out.cell 4
            have v5 := HV6.out.cell 5
            have vl := HV6.out.lt
            simp only [lqt, lqz, lqs, lst, lsz, lss] at v0 v1 v2 v3 v4 v5
            have hz6 : B ≤ w6.heap.size := Nat.le_trans hB HM6.out.size
            have hpu := val_put s _ B b w6 ⟨kk, ff, nn, ⟨#[]⟩, none, 0, 0, none, 0, 0⟩ (.mk kk ff nn ⟨#[]⟩ [] []) st os HA6.out (leafTree _ _ (by show 0 < k; omega) _ _ _ _) hz6 (by omega) hl
            simp only [VA.val] at hpu
            go_wp2_with fail
            refine hpu.mono ?_
            clear hpu
            rintro e w7 hput
            obtain ⟨rfl, hm7, ha7⟩ := hput.at rfl rfl rfl hk2
            have HM7 := hId hm7
            have HA7 := hId ha7
            clear hput hm7 ha7
            go_wp2_with fail
            go_end0
            rw [HE.out]
            exact ⟨rfl, (HM6.out.fromB hHB).trans HM7.out, HA7.out⟩
        · (try simp only [lgt, lgz, lgs])
          go_simp
          have hva := Blk.new w2 30 #[.int .i64 0, .bool false, .int .i64 0, .string ⟨#[]⟩, .slice none 0 0, .slice none 0 0]
          have HVB := hId (hva.mod ((Mod.refl (fun _ => False) _).drew) (fun e => e))
          have HN3 : Hid (New w2 (w2.alloc (.cells #[.int .i64 0, .bool false, .int .i64 0, .string ⟨#[]⟩, .slice none 0 0, .slice none 0 0] 30)).drew) := hId (by with_reducible (repeat (first | exact Mod.refl _ _ | refine Mod.drewN ?_ _ | refine Mod.drew ?_ | refine Mod.alloc ?_ _)))
          refine hK.out _ _ (by with_reducible (repeat (first | exact Mod.refl _ _ | refine Mod.drewN ?_ _ | refine Mod.drew ?_ | refine Mod.alloc ?_ _))) (fun hHeld => ?_)
          clear hK Kx hva
          (try simp only [Act.put, lgt, lgz, lgs, lst, lsz, lss])
          generalize (w2.alloc (.cells #[.int .i64 0, .bool false, .int .i64 0, .string ⟨#[]⟩, .slice none 0 0, .slice none 0 0] 30)).drew = w3 at *
          obtain ⟨vb, hvb⟩ : ∃ vb, w2.heap.size = vb := ⟨_, rfl⟩
          rw [hvb] at HVB
          simp only [hvb]
          have HVG : Hid (w2.heap.size ≤ vb) := hId (Nat.le_of_eq hvb)
          clear hvb
          refine wpAnyH_ready (rs := [10]) (by kernel_rfl) (by simp) ?_
          refine AllReadyH.cons rfl (fun Kx hK => ?_) AllReadyH.nil
          (try simp only [lgt, lgz, lgs])
          go_simp
          refine (hrw _).mono ?_
          clear hrw
          rintro e w4 ⟨hm4, kk, ff, nn, rfl, hv3⟩
          have HN4 : Hid (New w2 w4) := hId (HN3.out.trans hm4)
          have HVB := hId (HVB.out.mod hm4 (fun e => e))
          have HV3 := hId hv3
          clear hm4 hv3
          generalize hok : (rdRow (s.extract K k)).isSome = okb at *
          have HOK := hId hok
          clear hok
          go_wp2_with fail
          refine hK.out _ _ HN4.out (fun hHeld => ?_)
          clear hK Kx HN3
          (try simp only [Act.put, lgt, lgz, lgs, lst, lsz, lss])
          refine wpAnyH_take (i := 11) (v := ?_) rfl (by kernel_rfl) (by kernel_rfl) (by kernel_rfl) (fun _ _ _ h => h) (Or.inl ⟨by rfl, fun W hSw => ?_⟩) (by assumption) ?_
          rotate_left
          · (have hq := HSX.out W hSw); (try simp only [lgt, lgz, lgs]); go_simp; any_goals (with_reducible rfl)
          simp only [Act.put, lgt, lgz, lgs, lst, lsz, lss]
          refine wpAnyH_take (i := 12) (v := ?_) rfl (by kernel_rfl) (by kernel_rfl) (by kernel_rfl) (fun _ _ _ h => h) (Or.inl ⟨by rfl, fun W hSw => ?_⟩) (by assumption) ?_
          rotate_left
          · (have hq := HSX.out W hSw); (try simp only [lgt, lgz, lgs]); go_simp; any_goals (with_reducible rfl)
          simp only [Act.put, lgt, lgz, lgs, lst, lsz, lss]
          refine wpAnyH_take (i := 13) (v := ?_) rfl (by kernel_rfl) (by kernel_rfl) (by kernel_rfl) (fun _ _ _ h => h) (Or.inl ⟨by rfl, fun W hSw => ?_⟩) (by assumption) ?_
          rotate_left
          · (have hq := HSX.out W hSw); (try simp only [lgt, lgz, lgs]); go_simp; any_goals (with_reducible rfl)
          simp only [Act.put, lgt, lgz, lgs, lst, lsz, lss]
          have v0 := HVB.out.cell 0
          have v1 := HVB.out.cell 1
          have v2 := HVB.out.cell 2
          have v3 := HVB.out.cell 3
          have v4 := HVB.out.cell 4
          have v5 := HVB.out.cell 5
          have vf := HVB.out.frozen
          have vl := HVB.out.lt
          simp only [lqt, lqz, lqs] at v0 v1 v2 v3 v4 v5
          refine wpAnyH_ready (rs := [15]) (by kernel_rfl) (by simp) ?_
          refine AllReadyH.cons rfl (fun Kx hK => ?_) AllReadyH.nil
          (try simp only [lgt, lgz, lgs, VA.val, leafA])
          go_simp
          clear v0 v1 v2 v3 v4 v5 vf vl
          have HVS := hId ((((((HVB.out.set 0 (.int .i64 kk)).set 1 (.bool ff)).set 2 (.int .i64 nn)).set 3 (.string ⟨#[]⟩)).set 4 (.slice none 0 0)).set 5 (.slice none 0 0))
          have HMS : Hid (Only vb w4 ((((((w4.setCell ⟨vb, 0, none⟩ (.int .i64 kk)).setCell ⟨vb, 1, none⟩ (.bool ff)).setCell ⟨vb, 2, none⟩ (.int .i64 nn)).setCell ⟨vb, 3, none⟩ (.string ⟨#[]⟩)).setCell ⟨vb, 4, none⟩ (.slice none 0 0)).setCell ⟨vb, 5, none⟩ (.slice none 0 0))) := hId (by with_reducible repeat (first | exact Mod.refl _ _ | refine Only.set ?_ _ _))
          generalize ((((((w4.setCell ⟨vb, 0, none⟩ (.int .i64 kk)).setCell ⟨vb, 1, none⟩ (.bool ff)).setCell ⟨vb, 2, none⟩ (.int .i64 nn)).setCell ⟨vb, 3, none⟩ (.string ⟨#[]⟩)).setCell ⟨vb, 4, none⟩ (.slice none 0 0)).setCell ⟨vb, 5, none⟩ (.slice none 0 0)) = w5 at *
          have HN5 : Hid (New w2 w5) := hId (HN4.out.step HMS.out (fun k hk e => by have := HVG.out; omega))
          refine hK.out _ _ HN5.out (fun hHeld => ?_)
          clear hK Kx
          (try simp only [Act.put, lgt, lgz, lgs, lst, lsz, lss])
          refine wpAnyH_take (i := 16) (v := ?_) rfl (by kernel_rfl) (by kernel_rfl) (by kernel_rfl) (fun _ _ _ h => h) (Or.inl ⟨by rfl, fun W hSw => ?_⟩) (by assumption) ?_
          rotate_left
          · (have hq := HSX.out W hSw); (try simp only [lgt, lgz, lgs]); go_simp; any_goals (with_reducible rfl)
          simp only [Act.put, lgt, lgz, lgs, lst, lsz, lss]
          refine wpAnyH_done (by kernel_rfl) ?_ _
          clear hHeld HVB HN4 HMS HVG HSX
          have HRD5 := hId (HRD2.out.mod HN5.out (fun e => e))
          have HA5 := hId (HA2.out.new HN5.out)
          have HM5 : Hid (Only b w w5) := hId (HM2.out.trans (HN5.out.mono (fun _ _ e => e.elim)))
          have c1 := HRD5.out.cell 1
          have z1 := HRD5.out.frozen 1
          have bl := HRD5.out.lt
          simp only [RV.cells, lqt, lqz, lqs] at c1
          cases okb
          · have hE : X = .bad K := by
              have h1 := HOK.out
              rw [HCUT.out] at h1
              rw [HX.out]
              cases hr : rdRow (cutB L K k) with
              | none => rfl
              | some v => rw [hr] at h1; cases h1
            have HE := hId hE
            clear hE
            have hfa := val_failAt s _ B b K w5 HRD5.out rfl hKs hHB
            go_wp2_with fail
            refine hfa.mono ?_
            clear hfa
            rintro e w6 h3
            obtain ⟨rfl, hm6, ha6⟩ := h3.after (HM5.out.fromB hHB)
            have HM6 := hId hm6
            have HA6 := hId ha6
            clear h3 hm6 ha6
            go_wp2_with fail
            go_end0
            rw [HE.out]
            exact ⟨rfl, HM6.out, HA6.out⟩
          · have hE : X = putS st (.mk kk ff nn ⟨#[]⟩ [] []) k := by
              have h1 := HOK.out
              have h2 := HV3.out
              rw [HCUT.out] at h1 h2
              rw [HX.out]
              cases hr : rdRow (cutB L K k) with
              | none => rw [hr] at h1; cases h1
              | some v => simp only; rw [h2 v hr]
            have HE := hId hE
            clear hE
            have HRD6 := hId (HRD5.out.set 1 (.int .i64 (k : Int)))
            have HO6 : Hid (Only b w5 (w5.setCell ⟨b, 1, none⟩ (.int .i64 (k : Int)))) := hId ((Mod.refl (fun k => k = b) w5).setCell (p := ⟨b, 1, none⟩) (.inl rfl) _)
            have HA6 := hId (HA5.out.moved HO6.out (r' := ⟨k, sk, sn, sc, false, false, ⟨ok, of, on, ow, ola, oln, olc, oma, omn, omc⟩, false, pl⟩) HRD6.out ⟨rfl, rfl, rfl⟩ (by show K ≤ k; omega) (by show k ≤ s.size; omega))
            have HM6 : Hid (Only b w (w5.setCell ⟨b, 1, none⟩ (.int .i64 (k : Int)))) := hId (HM5.out.trans HO6.out)
            have HV6 := hId (HVS.out.mod HO6.out (HVS.out.ne HRD5.out (by decide)))
            go_upto_region 16 with (fail)
            clear c1 z1 bl
            generalize w5.setCell ⟨b, 1, none⟩ (.int .i64 (k : Int)) = w6 at *
            have v0 := HV6.out.cell 0
            have v1 := HV6.out.cell 1
            have v2 := HV6.out.cell 2
            have v3 := HV6.out.cell 3
            have v4 := HV6.out.cell 4
            have v5 := HV6.out.cell 5
            have vl := HV6.out.lt
            simp only [lqt, lqz, lqs, lst, lsz, lss] at v0 v1 v2 v3 v4 v5
            have hz6 : B ≤ w6.heap.size := Nat.le_trans hB HM6.out.size
            have hpu := val_put s _ B b w6 ⟨kk, ff, nn, ⟨#[]⟩, none, 0, 0, none, 0, 0⟩ (.mk kk ff nn ⟨#[]⟩ [] []) st os HA6.out (leafTree _ _ (by show 0 < k; omega) _ _ _ _) hz6 (by omega) hl
            simp only [VA.val] at hpu
            go_wp2_with fail
            refine hpu.mono ?_
            clear hpu
            rintro e w7 hput
            obtain ⟨rfl, hm7, ha7⟩ := hput.at rfl rfl rfl hk2
            have HM7 := hId hm7
            have HA7 := hId ha7
            clear hput hm7 ha7
            go_wp2_with fail
            go_end0
            rw [HE.out]
            exact ⟨rfl, (HM6.out.fromB hHB).trans HM7.out, HA7.out⟩
end
end Go.Proofs.YtjmnkdkdjnmejaaGreatDoor
