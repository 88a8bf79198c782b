/- The law LimitTexts, walked. Conditions: the argument is a slice of ints that can be read; the library's variables lie as they should. -/
import Derived.Test.YtinnckbffblecaaGreatDoorRead6
import Derived.Test.YtinnckbffblecaaGreatDoorLimStr
import Derived.Test.YtinnckbffblecaaGreatDoorLimited
import Derived.Test.YtinnckbffblecaaGreatDoorLaw
namespace Go.Proofs.YtinnckbffblecaaGreatDoor
open Go.RowKit
set_option linter.unusedVariables false
set_option linter.unusedSimpArgs false

theorem readL_len (P : List ByteArray) : ∀ (acc : List Lim) (i : Nat), (readL P acc i).1.length ≤ acc.length + P.length := by
  induction P with
  | nil => intro acc i; simp [readL]
  | cons l r ih =>
    intro acc i
    rw [readL]
    split
    · split <;> simp
    · split
      · simp
      · have := ih (acc ++ [‹Lim›]) (i + 1)
        simp only [List.length_append, List.length_cons, List.length_nil] at this ⊢
        omega
theorem readF_len {t : ByteArray} (h : t.size ≤ 900) : (readF t).1.length ≤ 901 := by
  have h1 := readL_len (pieces t nl) [] 0
  have h2 : (pieces t nl).length ≤ 901 := by
    rw [pieces_length (show 1 ≤ (nl : ByteArray).size from Nat.le_refl _)]
    have := Lib.countB_le nl (Nat.le_refl _) t.size t (Nat.le_refl _)
    omega
  unfold readF
  split
  · simp
  · split
    · simp
    · simp only [List.length_nil, Nat.zero_add] at h1
      exact Nat.le_trans h1 h2

set_option maxRecDepth 100000 in
set_option maxHeartbeats 4000000 in
theorem texts_walk (A : Option Addr) (n c : Nat) (w : World) (h : InInts w A n) (hT0 : Pow10 w) (hX0 : MaxLn w) :
    Calls Tryz.prog 3 #[.slice A n c] w fun e w' => e = .returned (.bool true) ∧ New w w' := by
  have hs := SInv.start (c := c) h
  go_enter Tryz.func3, Tryz.ntmps3
  go_wp2_with fail
  have T0 := SStep.refl hs
  have hA : New w (w.alloc (.cells #[.slice A n c, .int .i64 0] 25)) := (Mod.refl _ _).alloc _
  have HTA := Lib.hid (hT0.new hA)
  have HXA := Lib.hid (hX0.new hA)
  have HT0 := Lib.hid hT0
  have HX0 := Lib.hid hX0
  clear hT0 hX0
  refine (stream_limits _ _ _ hs (by omega)).mono ?_
  rintro e w1 ⟨Al, nl_, cl, ls, rfl, hlr, hnl, hfi, h1⟩
  have T1 := T0.trans h1
  have HT1 := Lib.hid (HT0.out.mod HTA.out h1.only (fun g hg e => by omega))
  have HX1 := Lib.hid (HX0.out.mod HXA.out h1.only (fun g hg e => by omega))
  clear T0 h1 hA HTA HXA
  generalize hW0 : w.alloc (.cells #[.slice A n c, .int .i64 0] 25) = W0 at *
  have hW0s : W0.heap.size = w.heap.size + 1 := by rw [← hW0]; simp
  have hnews : ∀ w' k, SStep w.heap.size W0 w' k → New w w' := fun w' k hh => by rw [← hW0] at hh; exact hh.news
  have HN := Lib.hid hnews
  clear hnews hW0 hW0s hs
  have hks : ∀ l ∈ ls, l.key.size ≤ maxLen := fun l hl => by have := (hfi l hl).1; unfold maxLen; omega
  have htx := limit_text ls Al nl_ cl w1 hlr (by omega) hks (fun hf => fine_lines hfi hf) HT1.out
  have HLR := Lib.hid hlr
  have HFI := Lib.hid hfi
  have HKS := Lib.hid hks
  clear hlr hfi hks
  unfold RText at htx
  by_cases hf : limsFault ls = 0
  · rw [if_pos hf, hf] at htx
    have hfl := fine_lines HFI.out hf
    have HFL := Lib.hid hfl
    go_wp2_with fail
    refine htx.mono ?_
    clear htx
    rintro e w2 ⟨rfl, m2⟩
    have hlf := ref_limitsFault ls Al nl_ cl w2 (HLR.out.new m2) (by omega) HKS.out
    rw [hf] at hlf
    have T2 := T1.new m2
    have HT2 := Lib.hid (HT1.out.new m2)
    have HX2 := Lib.hid (HX1.out.new m2)
    have HL2 := Lib.hid (HLR.out.new m2)
    clear hf hfl T1 m2
    go_wp2_with fail
    refine hlf.mono ?_
    clear hlf
    rintro e w3 ⟨rfl, m3⟩
    have hll := ref_limitLines ls Al nl_ cl w3 (HL2.out.new m3) (by omega) HFL.out (HT2.out.new m3)
    have T3 := T2.new m3
    have HT3 := Lib.hid (HT2.out.new m3)
    have HX3 := Lib.hid (HX2.out.new m3)
    clear T2 m3 HL2
    generalize (⟨(textL ls).toArray⟩ : ByteArray) = X at *
    go_wp2_with fail
    refine hll.mono ?_
    clear hll
    rintro e wc ⟨rfl, m4⟩
    have TK := T3.new m4
    have HTC := Lib.hid (HT3.out.new m4)
    have HXC := Lib.hid (HX3.out.new m4)
    have hxx : (X.toList == X.toList) = true := by simp
    clear T3 m4
    go_wp2_with fail
    refine (limitString_any w.heap.size _ wc w TK.inv (by omega) HT0.out (Nat.le_refl _) HTC.out).mono ?_
    rintro e w5 ⟨t, rfl, hts, h5⟩
    have T5 := TK.trans h5
    have HT5 := Lib.hid (HT0.out.mod HTC.out h5.only (fun g hg e => by omega))
    have HX5 := Lib.hid (HX0.out.mod HXC.out h5.only (fun g hg e => by omega))
    have hrd := limit_read t w5 hts HX5.out
    have hrl := readF_len hts
    clear TK h5 HTC HXC
    go_wp2_with fail
    refine hrd.mono ?_
    clear hrd
    rintro e w6 ⟨A6, n6, c6, rfl, hl6, m6⟩
    have T6 := T5.new m6
    have hrr := ref_limitsRead t w6 hts (HX5.out.new m6) (HT5.out.new m6)
    have HL6 := Lib.hid hl6
    clear hl6 T5 m6
    go_wp2_with fail
    refine hrr.mono ?_
    clear hrr
    rintro e w7 ⟨A7, n7, c7, rfl, hl7, m7⟩
    have T7 := T6.new m7
    have hl6 := HL6.out.new m7
    have hn : n6 = n7 := by have h1 := hl6.1; have h2 := hl7.1; omega
    subst hn
    have heq := equal_lims (readF t).1 A6 A7 n6 c6 c7 w7 hl6 hl7 (by have h1 := hl6.1; omega)
    clear hl6 hl7 T6 m7 HL6 hrl
    generalize (readF t).2.1 = I1 at *
    generalize (readF t).2.2 = I2 at *
    go_wp2_with fail
    refine heq.mono ?_
    clear heq
    rintro e w8 ⟨rfl, q, rfl⟩
    go_wp2_with fail
    refine (limited_true _).mono ?_
    rintro e w15 ⟨rfl, m15⟩
    go_wp2_with fail
    go_ret
    exact ⟨rfl, HN.out _ _ ((T7.drewN q).new m15)⟩
  · rw [if_neg hf] at htx
    have hf1 : (limsFault ls == 0) = false := by simpa using hf
    have hf2 : (limsFault ls != 0) = true := by simpa using hf
    have hlf := fun w2 (m2 : New w1 w2) => ref_limitsFault ls Al nl_ cl w2 (HLR.out.new m2) (by omega) HKS.out
    clear hf
    generalize limsFault ls = F at *
    go_wp2_with fail
    refine htx.mono ?_
    clear htx
    rintro e w2 ⟨rfl, m2⟩
    go_wp2_with fail
    refine (hlf w2 m2).mono ?_
    clear hlf
    rintro e wc ⟨rfl, m3⟩
    have TK := (T1.new m2).new m3
    have HTC := Lib.hid ((HT1.out.new m2).new m3)
    have HXC := Lib.hid ((HX1.out.new m2).new m3)
    clear T1 m2 m3
    go_wp2_with fail
    refine (limitString_any w.heap.size _ wc w TK.inv (by omega) HT0.out (Nat.le_refl _) HTC.out).mono ?_
    rintro e w5 ⟨t, rfl, hts, h5⟩
    have T5 := TK.trans h5
    have HT5 := Lib.hid (HT0.out.mod HTC.out h5.only (fun g hg e => by omega))
    have HX5 := Lib.hid (HX0.out.mod HXC.out h5.only (fun g hg e => by omega))
    have hrd := limit_read t w5 hts HX5.out
    have hrl := readF_len hts
    clear TK h5 HTC HXC
    go_wp2_with fail
    refine hrd.mono ?_
    clear hrd
    rintro e w6 ⟨A6, n6, c6, rfl, hl6, m6⟩
    have T6 := T5.new m6
    have hrr := ref_limitsRead t w6 hts (HX5.out.new m6) (HT5.out.new m6)
    have HL6 := Lib.hid hl6
    clear hl6 T5 m6
    go_wp2_with fail
    refine hrr.mono ?_
    clear hrr
    rintro e w7 ⟨A7, n7, c7, rfl, hl7, m7⟩
    have T7 := T6.new m7
    have hl6 := HL6.out.new m7
    have hn : n6 = n7 := by have h1 := hl6.1; have h2 := hl7.1; omega
    subst hn
    have heq := equal_lims (readF t).1 A6 A7 n6 c6 c7 w7 hl6 hl7 (by have h1 := hl6.1; omega)
    clear hl6 hl7 T6 m7 HL6 hrl
    generalize (readF t).2.1 = I1 at *
    generalize (readF t).2.2 = I2 at *
    go_wp2_with fail
    refine heq.mono ?_
    clear heq
    rintro e w8 ⟨rfl, q, rfl⟩
    go_wp2_with fail
    refine (limited_true _).mono ?_
    rintro e w15 ⟨rfl, m15⟩
    go_wp2_with fail
    go_ret
    exact ⟨rfl, HN.out _ _ ((T7.drewN q).new m15)⟩

end Go.Proofs.YtinnckbffblecaaGreatDoor
