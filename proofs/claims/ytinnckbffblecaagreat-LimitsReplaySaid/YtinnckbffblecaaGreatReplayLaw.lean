/- The law LimitsReplay, walked. Conditions: the argument is a slice of ints that can be read. -/
import Derived.Test.YtinnckbffblecaaGreatReplay
import Derived.Test.YtinnckbffblecaaGreatRefReplay2
import Derived.Test.YtinnckbffblecaaGreatAsksRef
import Derived.Test.YtinnckbffblecaaGreatAsksMake
import Derived.Test.YtinnckbffblecaaGreatLimsMake
import Derived.Test.YtinnckbffblecaaGreatLimited
import Derived.Test.YtinnckbffblecaaGreatCmp
import Derived.Test.YtinnckbffblecaaGreatLaw
namespace Go.Proofs.YtinnckbffblecaaGreat
open Go.RowKit
set_option linter.unusedVariables false
set_option linter.unusedSimpArgs false

theorem equal_vds (zs : List Vd) (A1 A2 : Option Addr) (n c1 c2 : Nat) (w : World) (h1 : VdRows w A1 n zs) (h2 : VdRows w A2 n zs) (hn : n ≤ 1000000) :
    Calls Tryz.prog 28 #[.slice A1 n c1, .slice A2 n c2] w fun e w' => e = .returned (.bool true) ∧ ∃ q, w' = w.drewN q := by
  have hlen := h1.1
  have H1 := Lib.hid h1
  have H2 := Lib.hid h2
  clear h1 h2
  go_enter Tryz.func28, Tryz.ntmps28
  go_wp2_with fail
  go_loopw [5, 13] (fun _ i wr => ∃ k : Nat, k ≤ n ∧ i = .int .i64 k ∧ ∃ q, wr = w.drewN q) (fun _ i _ => n - (intOf i).toNat)
  case atStart => exact ⟨0, Nat.zero_le _, rfl, 0, rfl⟩
  case round =>
    obtain ⟨k, hk, rfl, q, rfl⟩ := hrel
    by_cases hlt : k < n
    · obtain ⟨g1, o1, hA1, t1, k1⟩ := H1.out.2 (by omega)
      obtain ⟨g2, o2, hA2, t2, k2⟩ := H2.out.2 (by omega)
      subst hA1 hA2
      have a0 := k1 k (by omega) 0 (by omega)
      have a1 := k1 k (by omega) 1 (by omega)
      have a2 := k1 k (by omega) 2 (by omega)
      have b0 := k2 k (by omega) 0 (by omega)
      have b1 := k2 k (by omega) 1 (by omega)
      have b2 := k2 k (by omega) 2 (by omega)
      simp only [Vd.enc, Nat.add_zero] at a0 a1 a2 b0 b1 b2
      have l1 := t1.lt
      have l2 := t2.lt
      have hb1 : (0 : Int) ≤ k := by omega
      have hb2 : (k : Int) < n := by omega
      clear k1 k2
      generalize zs[k] = z at *
      go_wp2_with fail
      go_quiet (fail)
      go_wp2_with fail
      exact ⟨⟨k + 1, by omega, by go_num, _, rfl⟩, by simp [intOf]; omega⟩
    · obtain rfl : k = n := by omega
      go_wp2_with fail
      go_ret
      exact ⟨rfl, _, rfl⟩

theorem orL_replF (ls : List Lim) (ks : List AskD) : orL [limsFault ls, asksFault ks] = replF ls ks := by
  unfold replF
  by_cases h : limsFault ls = 0
  · by_cases h2 : asksFault ks = 0 <;> simp [orL, h, h2]
  · simp [orL, h]

theorem Sl.stream {α : Type} {w w' : World} {t : TypeId} {sz : Nat} {enc : α → Nat → Value} {A : Option Addr} {n b k : Nat} {xs : List α} (h : Sl w t sz enc A n xs) (hs : SInv b w k) (ht : t ≠ 25) (hm : Only b w w') : Sl w' t sz enc A n xs :=
  h.mod hm (fun g hg e => by
    subst e
    obtain ⟨_, _, _, _, _, hb, _⟩ := hs
    exact hg.ne hb.tb ht rfl)

set_option maxRecDepth 100000 in
set_option maxHeartbeats 2000000 in
theorem replay_walk (A : Option Addr) (n c : Nat) (w : World) (h : InInts w A n) :
    Calls Tryz.prog 4 #[.slice A n c] w fun e w' => e = .returned (.bool true) ∧ New w w' := by
  have hs := SInv.start (c := c) h
  go_enter Tryz.func4, Tryz.ntmps4
  go_wp2_with fail
  have T0 := SStep.refl hs
  refine (stream_limits _ _ _ hs (by omega)).mono ?_
  rintro e w1 ⟨Al, nl, cl, ls, rfl, hlr, hnl, hfi, h1⟩
  have T1 := T0.trans h1
  clear T0 h1
  generalize hW0 : w.alloc (.cells #[.slice A n c, .int .i64 0] 25) = W0 at *
  have hW0s : W0.heap.size = w.heap.size + 1 := by rw [← hW0]; simp
  have hnews : ∀ w' k, SStep w.heap.size W0 w' k → New w w' := fun w' k hh => by rw [← hW0] at hh; exact hh.news
  have HN := Lib.hid hnews
  have HW0s := Lib.hid hW0s
  clear hnews hW0 hW0s hs
  have hks : ∀ l ∈ ls, l.key.size ≤ maxLen := fun l hl => by have := (hfi l hl).1; unfold maxLen; omega
  have HKS := Lib.hid hks
  clear hfi hks
  go_wp2_with fail
  refine (range_any _ _ _ _ _ T1.inv (by omega) (by omega) (by omega) (by omega)).mono ?_
  rintro e w2 ⟨nn, rfl, hnn0, hnn1, h2⟩
  obtain ⟨nn, rfl⟩ := Int.eq_ofNat_of_zero_le hnn0
  have T2 := T1.trans h2
  have L2 := hlr.stream T1.inv (by decide) h2.only
  clear h2 T1 hlr hnn0
  go_wp2_with fail
  refine (stream_asks _ _ nn _ T2.inv (by omega) (by omega)).mono ?_
  rintro e w3 ⟨Aa, ca, ks, rfl, hka, hwh, h3⟩
  have T3 := T2.trans h3
  have L3 := L2.stream T2.inv (by decide) h3.only
  clear h3 T2 L2
  have hws : ∀ a ∈ ks, a.who.size ≤ maxLen := fun a ha => by have := hwh a ha; unfold maxLen; omega
  have hrp := limit_replay Al Aa nl cl nn ca ls ks w3 L3 hka (by omega) (by omega) HKS.out hws
  have HL3 := Lib.hid L3
  have HKA := Lib.hid hka
  have HWS := Lib.hid hws
  clear L3 hka hws hwh
  go_wp2_with fail
  refine hrp.mono ?_
  clear hrp
  rintro e w4 ⟨A4, c4, rfl, hv4, m4⟩
  have HV4 := Lib.hid hv4
  clear hv4
  have hcl := fun W (hW : New w3 W) => limit_checkLimits ls Al nl cl W (HL3.out.new hW) (by omega) HKS.out
  have hrl := fun W (hW : New w3 W) => ref_limitsFault ls Al nl cl W (HL3.out.new hW) (by omega) HKS.out
  have hca := fun W (hW : New w3 W) => limit_checkAsks ks Aa nn ca W (HKA.out.new hW) (by omega) HWS.out
  have hra := fun W (hW : New w3 W) => ref_asksFault ks Aa nn ca W (HKA.out.new hW) (by omega) HWS.out
  have hor := fun g W (hb : Blk W g 36 #[.int .i64 (limsFault ls), .int .i64 (asksFault ks)]) => cmpOr_any [limsFault ls, asksFault ks] g 2 W hb rfl (by omega)
  rw [orL_replF] at hor
  have hro : replF ls ks = 0 → ∀ W, New w3 W → Calls Tryz.prog 27 #[.slice Al nl cl, .slice Aa nn ca] W (RVds W (runC ls ks []) 0) := fun h0 W hW => by
    unfold replF at h0
    have h1 : limsFault ls = 0 := by
      by_cases e : limsFault ls = 0
      · exact e
      · rw [if_pos e] at h0; exact h0
    rw [if_neg (by simp [h1])] at h0
    have hR := lims_right h1
    obtain ⟨_, h2, h3⟩ := asks_right h0
    have h4 := ref_replayOf Al Aa nl cl nn ca ls ks W (HL3.out.new hW) (HKA.out.new hW) hR (fun a ha => (h2 a ha).2) h3 (by omega) (by omega)
    rw [run_eq hR (Both.start hR) h3 (fun a ha => ⟨(h2 a ha).2.at_.1, (h2 a ha).2.cost.1, (h2 a ha).2.long.1⟩)] at h4
    exact h4
  have HRO := Lib.hid hro
  have hvl : (if replF ls ks = 0 then runC ls ks [] else []).length ≤ 1000000 := by
    have : ∀ (q : List AskD) σ, (runC ls q σ).length = q.length := by
      intro q
      induction q with
      | nil => intro σ; rfl
      | cons a q ih => intro σ; simp [runC, ih]
    split
    · rw [this]; have := HKA.out.1; omega
    · simp
  have HVLN := Lib.hid hvl
  clear hro hvl
  generalize hvs : (if replF ls ks = 0 then runC ls ks [] else []) = vs at *
  have HVS := Lib.hid hvs
  clear hvs
  generalize limsFault ls = F1 at *
  generalize asksFault ks = F2 at *
  go_wp2_with fail
  refine (hcl w4 m4).mono ?_
  clear hcl
  rintro e w5 ⟨rfl, m5⟩
  go_wp2_with fail
  refine (hrl w5 (m4.trans m5)).mono ?_
  rintro e w6 ⟨rfl, m6⟩
  have hne1 : (F1 != F1) = false := by simp
  go_wp2_with fail
  refine (hca w6 ((m4.trans m5).trans m6)).mono ?_
  clear hca
  rintro e w7 ⟨rfl, m7⟩
  go_wp2_with fail
  refine (hra w7 (((m4.trans m5).trans m6).trans m7)).mono ?_
  rintro e w8 ⟨rfl, m8⟩
  have hne2 : (F2 != F2) = false := by simp
  have m38 := (((m4.trans m5).trans m6).trans m7).trans m8
  go_wp2_with fail
  refine (hrl w8 m38).mono ?_
  clear hrl
  rintro e w9 ⟨rfl, m9⟩
  go_wp2_with fail
  refine (hra w9 (m38.trans m9)).mono ?_
  clear hra
  rintro e w10 ⟨rfl, m10⟩
  have m310 := (m38.trans m9).trans m10
  go_wp2_with fail
  refine (hor _ _ (Blk.new _ _ _)).mono ?_
  clear hor
  rintro e w11 ⟨rfl, rfl⟩
  have m311 : New w3 (w10.alloc (.cells #[.int .i64 F1, .int .i64 F2] 36)) := m310.alloc _
  have HN11 := Lib.hid m311
  have s4 := HV4.out.new ((((((m5.trans m6).trans m7).trans m8).trans m9).trans m10).alloc (.cells #[.int .i64 F1, .int .i64 F2] 36))
  generalize w10.alloc (.cells #[.int .i64 F1, .int .i64 F2] 36) = w12 at *
  have HS4 := Lib.hid s4
  clear m5 m6 m7 m8 m9 m10 m38 m310 m311 s4 hne1 hne2 m4
  by_cases hf : replF ls ks = 0
  · have hro := HRO.out hf w12 HN11.out
    have hvs : vs = runC ls ks [] := by rw [← HVS.out, if_pos hf]
    rw [hf]
    rw [← hvs] at hro
    clear hf hvs
    go_wp2_with fail
    refine hro.mono ?_
    clear hro
    rintro e w13 ⟨A13, c13, rfl, hv13, m13⟩
    have heq := equal_vds vs A4 A13 vs.length c4 c13 w13 (HS4.out.new m13) hv13 HVLN.out
    clear hv13
    go_wp2_with fail
    refine heq.mono ?_
    clear heq
    rintro e w14 ⟨rfl, q14, rfl⟩
    go_wp2_with fail
    refine (limited_true _).mono ?_
    rintro e w15 ⟨rfl, m15⟩
    go_wp2_with fail
    go_ret
    exact ⟨rfl, HN.out _ _ (T3.new (((HN11.out.trans m13).drewN q14).trans m15))⟩
  · have hvs : vs.length = 0 := by rw [← HVS.out, if_neg hf]; rfl
    have hf' : (replF ls ks != 0) = true := by simpa using hf
    rw [hvs]
    clear hf hvs
    generalize replF ls ks = F at *
    go_wp2_with fail
    refine (limited_true _).mono ?_
    rintro e w15 ⟨rfl, m15⟩
    go_wp2_with fail
    go_ret
    exact ⟨rfl, HN.out _ _ (T3.new (HN11.out.trans m15))⟩

end Go.Proofs.YtinnckbffblecaaGreat
