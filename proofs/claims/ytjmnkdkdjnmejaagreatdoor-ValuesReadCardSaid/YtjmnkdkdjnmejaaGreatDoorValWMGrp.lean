/- Several texts in one. (1) Values written: the reference's Written, of a value of whatever faults but of right kinds and numbers (printed by mkvalwm.py out of XValW and XValT). Conditions: a text that is not too large; strconv's table. (2) A text that is nearly another (Stream.Changed), whatever letters are put in. Conditions: the stream's own. (3) Strings of values, or nearly: Stream.ValueString (printed by mkvstr.py). Conditions: the stream's own; strconv's table. (4) Parameters of templates: is there one with a name among parts? (both sides: slices.ContainsFunc over a function value). Conditions: at most 100000 parts. -/
import Derived.Test.YtjmnkdkdjnmejaaGreatDoorValW
import Derived.Test.YtjmnkdkdjnmejaaGreatDoorValMM
import Derived.Test.YtjmnkdkdjnmejaaGreatDoorRpAllGrp
import Derived.Test.YtjmnkdkdjnmejaaGreatDoorValCloneGrp
import Derived.Test.YtjmnkdkdjnmejaaGreatDoorVal1Grp
import Derived.BigQuiet
import Derived.Deep.QuietTactic
import Derived.Test.YtjmnkdkdjnmejaaGreatDoorTplLaw
import Derived.Test.YtjmnkdkdjnmejaaGreatDoorBaseGrp

namespace Go.Proofs.YtjmnkdkdjnmejaaGreatDoor
open Go.RowKit
set_option linter.unusedVariables false
set_option linter.unusedSimpArgs false

theorem right_partsM {d : Nat} {v : VT} (h : Mild (d + 1) v) : (0 ≤ v.kind ∧ v.kind ≤ 5) ∧ (-1000000000000000 ≤ v.num ∧ v.num ≤ 1000000000000000) ∧ (∀ k (h : k < v.list.length), Mild d v.list[k]) ∧ (∀ k (h : k < v.mem.length), Mild d v.mem[k].2) :=
  ⟨h.1, h.2.1, fun k hk => h.2.2.1 _ (List.getElem_mem hk), fun k hk => h.2.2.2 _ (List.getElem_mem hk)⟩
theorem vText_lengthM (d : Nat) : ∀ v, Mild d v → (vText d v).length ≤ vW d v := by
  induction d with
  | zero => intro v _; simp [vText]
  | succ d ih =>
    intro v h
    obtain ⟨hk, hn, hl, hm⟩ := right_partsM h
    have h1 : (v.list.map fun x => (vText d x).length + 1).sum ≤ (v.list.map fun x => vW d x + 1).sum := sum_map_mono _ _ _ (fun x hx => by
      obtain ⟨i, hi, rfl⟩ := List.mem_iff_getElem.1 hx
      have := ih _ (hl i hi); omega)
    have h2 : (v.mem.map fun p => (quoteL p.1.data.toList).length + 1 + (vText d p.2).length + 1).sum ≤ (v.mem.map fun p => vW d p.2 + (6 * p.1.size + 4)).sum := sum_map_mono _ _ _ (fun p hp => by
      obtain ⟨i, hi, rfl⟩ := List.mem_iff_getElem.1 hp
      have h3 := ih _ (hm i hi)
      have h4 := quoteL_length v.mem[i].1.data.toList
      have h5 : v.mem[i].1.data.toList.length = v.mem[i].1.size := rfl
      omega)
    have c1 := commas_length (v.list.map (vText d))
    have c2 := commas_length (v.mem.map fun p => quoteL p.1.data.toList ++ 58 :: vText d p.2)
    simp only [List.map_map] at c1 c2
    have e1 : ((fun x : List UInt8 => x.length + 1) ∘ vText d) = fun x => (vText d x).length + 1 := rfl
    have e2 : ((fun x : List UInt8 => x.length + 1) ∘ fun p : ByteArray × VT => quoteL p.1.data.toList ++ 58 :: vText d p.2) = fun p => (quoteL p.1.data.toList).length + 1 + (vText d p.2).length + 1 := by
      funext p; simp only [Function.comp, List.length_append, List.length_cons]; omega
    rw [e1] at c1
    rw [e2] at c2
    have q := quoteL_length v.words.data.toList
    have q5 : v.words.data.toList.length = v.words.size := rfl
    have i1 := Lib.itoa_length_le v.num (by omega) (by omega)
    have f1 : (Lib.formatBool v.flag).length ≤ 5 := by cases v.flag <;> decide
    simp only [vText, vW]
    split
    · omega
    split
    · omega
    split
    · omega
    split
    · simp only [List.length_cons, List.length_append, List.length_nil]; omega
    split
    · simp only [List.length_cons, List.length_append, List.length_nil]; omega
    · simp [nullL]; omega
set_option maxRecDepth 100000 in
set_option maxHeartbeats 1500000 in
theorem written_m (d : Nat) : ∀ (x : VA) (v : VT) (G : Nat → Prop) (w : World), Tree w G d x v → Fit d v → Mild d v → vW d v ≤ 200000 → Pow10 w →
    Calls Tryz.prog 11 #[x.val] w fun e w' => e = .returned (.string (txtB (vText d v))) ∧ New w w' := by
  induction d with
  | zero => intro x v G w ht; exact ht.elim
  | succ d ih =>
    intro x v G w ht hf hr hlen hP
    have hvl := vText_lengthM (d + 1) v hr
    obtain ⟨hk05, hn15, hrl, hrm⟩ := right_partsM hr
    have hwp : v.list.length ≤ 200000 ∧ v.mem.length ≤ 200000 ∧ v.words.size ≤ 100000 := by
      have h1 := hf.parts
      have h2 := vW_parts d v
      omega
    have hfl := ht.fields
    have HT := hId ht
    have HIH := hId ih
    have HF := hId hf
    have HRL := hId hrl
    have HRM := hId hrm
    have HW := hId hlen
    have hv : vText (d + 1) v = if v.kind = 1 then Lib.formatBool v.flag else if v.kind = 2 then Lib.itoa v.num else if v.kind = 3 then quoteL v.words.data.toList else
      if v.kind = 4 then 91 :: (commas (v.list.map (vText d)) ++ [93]) else
      if v.kind = 5 then 123 :: (commas (v.mem.map fun p => quoteL p.1.data.toList ++ 58 :: vText d p.2) ++ [125]) else nullL := rfl
    obtain ⟨g1, g2, g3, g4, g5, g6⟩ := hfl
    rw [g1, g2, g3, g4] at hv
    rw [g1] at hk05
    rw [g3] at hn15
    rw [g4, g5, g6] at hwp
    have HLN := hId g5
    have HMN := hId g6
    have HV := hId hv
    have HVL : Hid ((vText (d + 1) v).length ≤ 200000) := hId (by omega)
    obtain ⟨kind, flag, num, words, la, ln, lc, ma, mn, mc⟩ := x
    simp only at hk05 hn15 hwp HV HLN HMN
    obtain ⟨hwp1, hwp2, hwp3⟩ := hwp
    have HPX : Hid (∀ W, New w W → Pow10 W) := hId (fun W h => hP.new h)
    clear g1 g2 g3 g4 g5 g6 hv hr hrl hrm ih ht hf hlen hP hvl
    have hx := Blk.new w 30 #[.int .i64 kind, .bool flag, .int .i64 num, .string words, .slice la ln lc, .slice ma mn mc]
    have hm1 : New w (w.alloc (.cells #[.int .i64 kind, .bool flag, .int .i64 num, .string words, .slice la ln lc, .slice ma mn mc] 30)) := (Mod.refl _ _).alloc _
    go_enter Tryz.func11, Tryz.ntmps11
    go_upto_region 1 with (fail)
    generalize w.alloc (.cells #[.int .i64 kind, .bool flag, .int .i64 num, .string words, .slice la ln lc, .slice ma mn mc] 30) = w1 at *
    generalize hxb : w.heap.size = xb at *
    have HXB := hId hxb
    have HX := hId hx
    have HM1 := hId hm1
    have e0 := hx.cell 0
    have e1 := hx.cell 1
    have e2 := hx.cell 2
    have e3 := hx.cell 3
    have e4 := hx.cell 4
    have e5 := hx.cell 5
    have el := hx.lt
    have HZ1 : Hid (xb + 1 ≤ w1.heap.size) := hId el
    simp only [lqt, lqz, lqs] at e0 e1 e2 e3 e4 e5
    clear hx hm1 hxb
    obtain ⟨hk50, hk51⟩ := hk05
    obtain ⟨hn150, hn151⟩ := hn15
    have hkk : kind = 0 ∨ kind = 1 ∨ kind = 2 ∨ kind = 3 ∨ kind = 4 ∨ kind = 5 := by omega
    obtain rfl | rfl | rfl | rfl | rfl | rfl := hkk
    · have HVT : Hid (vText (d + 1) v = [110, 117, 108, 108]) := hId (by rw [HV.out]; rfl)
      have HRET : Hid (Ending.returned (.string ⟨#[110, 117, 108, 108]⟩) = Ending.returned (.string (txtB (vText (d + 1) v)))) := hId (by rw [HVT.out]; rfl)
      go_wp2_with fail
      go_ret
      exact ⟨Eq.trans rfl HRET.out, HM1.out⟩
    · have HVT : Hid (vText (d + 1) v = Lib.formatBool flag) := hId (by rw [HV.out]; rfl)
      have HRET : Hid (Ending.returned (.string ⟨(Lib.formatBool flag).toArray⟩) = Ending.returned (.string (txtB (vText (d + 1) v)))) := hId (by rw [HVT.out]; rfl)
      have hfb := fun W => Tryz.strconv_FormatBool flag W
      go_wp2_with fail
      refine (hfb _).mono ?_
      rintro e w3 ⟨rfl, rfl⟩
      go_wp2_with fail
      go_ret
      exact ⟨Eq.trans rfl HRET.out, HM1.out⟩
    · have HVT : Hid (vText (d + 1) v = Lib.itoa num) := hId (by rw [HV.out]; rfl)
      have HRET : Hid (Ending.returned (.string (itoaB num)) = Ending.returned (.string (txtB (vText (d + 1) v)))) := hId (by rw [HVT.out]; rfl)
      have hi64 : I64 num := ⟨by omega, by omega⟩
      have hit := itoa_any num hi64 w1 (HPX.out _ HM1.out)
      go_wp2_with fail
      refine hit.mono ?_
      clear hit
      rintro e w3 ⟨rfl, hm3⟩
      go_wp2_with fail
      go_ret
      exact ⟨Eq.trans rfl HRET.out, HM1.out.trans hm3⟩
    · have HVT : Hid (vText (d + 1) v = quoteL words.data.toList) := hId (by rw [HV.out]; rfl)
      have HRET : Hid (Ending.returned (.string ⟨(quoteL words.data.toList).toArray⟩) = Ending.returned (.string (txtB (vText (d + 1) v)))) := hId (by rw [HVT.out]; rfl)
      have hit := quoted_v words w1 hwp3
      go_wp2_with fail
      refine hit.mono ?_
      clear hit
      rintro e w3 ⟨rfl, hm3⟩
      go_wp2_with fail
      go_ret
      exact ⟨Eq.trans rfl HRET.out, HM1.out.trans hm3⟩
    · have HVT : Hid (vText (d + 1) v = 91 :: (commas (v.list.map (vText d)) ++ [93])) := hId (by rw [HV.out]; rfl)
      go_wp2_with fail
      clear e0 e1 e2 e3 e4 e5 el
      go_loopw [3, 30] (fun t i wr => ∃ (j c : Nat) (A : Option Addr), j ≤ ln ∧ i = .int .i64 j ∧ t = .slice A j c ∧ Hid (Own wr (xb + 1) 9 1 strE A j c (((v.list.take j).map (vText d)).map txtB)) ∧ Hid (New w wr) ∧ Hid (xb + 1 ≤ wr.heap.size)) (fun _ i _ => ln - (intOf i).toNat)
      case atStart => exact ⟨0, 0, none, Nat.zero_le _, rfl, rfl, hId (by simpa using Own.nil), HM1, HZ1⟩
      case round =>
        rename World => wq
        obtain ⟨j, c, A, hj, rfl, rfl, HO, HM, HB⟩ := hrel
        by_cases hlt : j < ln
        · have hjl : j < v.list.length := by have := HLN.out; omega
          have hT := HT.out.new HM.out
          obtain ⟨g, o, y, hA, hgl, htb, -, hc, hty⟩ := hT.item hjl
          simp only at hA
          subst hA
          have HTK : Hid (((v.list.take (j + 1)).map (vText d)).map txtB = ((v.list.take j).map (vText d)).map txtB ++ [txtB (vText d v.list[j])]) := hId (by rw [List.take_succ_eq_append_getElem hjl]; simp only [List.map_append, List.map_cons, List.map_nil])
          have hft := HF.out.item hjl
          have hrf := HRL.out j hjl
          have hwi : vW d v.list[j] ≤ 200000 := Nat.le_trans (vW_item d v hjl) HW.out
          obtain ⟨yk, yf, yn, yw, yla, yln, ylc, yma, ymn, ymc⟩ := y
          have c0 := hc 0 (by omega)
          have c1 := hc 1 (by omega)
          have c2 := hc 2 (by omega)
          have c3 := hc 3 (by omega)
          have c4 := hc 4 (by omega)
          have c5 := hc 5 (by omega)
          simp only [VA.enc, Nat.add_zero, Nat.zero_add] at c0 c1 c2 c3 c4 c5
          have hb1 : (0 : Int) ≤ j := by omega
          have hb2 : (j : Int) < ln := by omega
          have hma : New wq (wq.alloc (.cells #[.int .i64 yk, .bool yf, .int .i64 yn, .string yw, .slice yla yln ylc, .slice yma ymn ymc] 30)) := (Mod.refl _ _).alloc _
          have hI := HIH.out ⟨yk, yf, yn, yw, yla, yln, ylc, yma, ymn, ymc⟩ _ G (wq.alloc (.cells #[.int .i64 yk, .bool yf, .int .i64 yn, .string yw, .slice yla yln ylc, .slice yma ymn ymc] 30)) (hty.new hma) hft hrf hwi (HPX.out _ (HM.out.trans hma))
          have HMA := hId hma
          clear hT hc hty hma htb hft hrf hwi
          generalize txtB (vText d v.list[j]) = ST at *
          go_wp2_with fail
          refine hI.mono ?_
          clear hI
          rintro e wm ⟨rfl, mm⟩
          have hmq := HMA.out.trans mm
          have own6 := HO.out.new hmq
          have HM6 := hId (HM.out.trans hmq)
          have hzm := hmq.size
          have HZ : Hid (xb + 1 ≤ (wm.alloc (.cells #[.string ST] 9)).heap.size) := hId (by have := HB.out; simp; omega)
          have ownA := own6.alloc (.cells #[.string ST] 9)
          have blkA : Blk (wm.alloc (.cells #[.string ST] 9)) wm.heap.size 9 (encL 1 strE ST).toArray := Blk.new _ _ _
          clear own6 mm hmq
          go_wp2_with (at_builtin; refine wpList_push rfl _ _ _ rfl 16 Tryz.underlying65 einfo_string rfl ownA ST wm.heap.size rfl blkA (fun j hj => rfl) (by omega) (by omega) HZ.out ?_; intro g9 cap9 w9 own9 hm9 hat9 hlt9)
          have hmw : New w w9 := Own.push_mod' ownA (HM6.out.alloc _) hm9 (by have := HXB.out; omega)
          have hz9 := hm9.size
          refine ⟨⟨j + 1, cap9, some ⟨g9, 0, none⟩, by omega, by go_num, rfl, hId ?_, hId hmw, hId (Nat.le_trans HZ.out hz9)⟩, by simp [intOf]; omega⟩
          rw [HTK.out]
          exact own9
        · obtain rfl : j = ln := by omega
          have hO := HO.out
          rw [List.take_of_length_le (by have := HLN.out; omega)] at hO
          have hcl := HVL.out
          rw [HVT.out] at hcl
          simp only [List.length_cons, List.length_append, List.length_nil] at hcl
          have hjn := join_own A (xb + 1) j c (v.list.map (vText d)) wq hO (by omega) (by omega)
          have hw := txtB_wrap 91 93 (commas (v.list.map (vText d)))
          have hts := txtB_size (commas (v.list.map (vText d)))
          have HRET : Hid (Ending.returned (.string ((⟨#[91]⟩ : ByteArray) ++ txtB (commas (v.list.map (vText d))) ++ ⟨#[93]⟩)) = Ending.returned (.string (txtB (vText (d + 1) v)))) := hId (by rw [HVT.out, hw])
          generalize hST : txtB (commas (v.list.map (vText d))) = ST at *
          have hs1 : ¬ 9223372036854775807 < 1 + ST.size := by omega
          have hs2 : ¬ 9223372036854775807 < ((⟨#[91]⟩ : ByteArray) ++ ST).size + 1 := by
            simp only [ByteArray.size_append]
            have : ByteArray.size ⟨#[91]⟩ = 1 := rfl
            omega
          clear hO HO hw
          go_wp2_with fail
          refine hjn.mono ?_
          clear hjn
          rintro e w5 ⟨rfl, m5⟩
          go_wp2_with fail
          go_ret
          exact ⟨Eq.trans rfl HRET.out, HM.out.trans m5⟩
    · have HVT : Hid (vText (d + 1) v = 123 :: (commas (v.mem.map fun p => quoteL p.1.data.toList ++ 58 :: vText d p.2) ++ [125])) := hId (by rw [HV.out]; rfl)
      go_wp2_with fail
      clear e0 e1 e2 e3 e4 e5 el
      go_loopw [3, 49] (fun t i wr => ∃ (j c : Nat) (A : Option Addr), j ≤ mn ∧ i = .int .i64 j ∧ t = .slice A j c ∧ Hid (Own wr (xb + 1) 9 1 strE A j c (((v.mem.take j).map fun p => quoteL p.1.data.toList ++ 58 :: vText d p.2).map txtB)) ∧ Hid (New w wr) ∧ Hid (xb + 1 ≤ wr.heap.size)) (fun _ i _ => mn - (intOf i).toNat)
      case atStart => exact ⟨0, 0, none, Nat.zero_le _, rfl, rfl, hId (by simpa using Own.nil), HM1, HZ1⟩
      case round =>
        rename World => wq
        obtain ⟨j, c, A, hj, rfl, rfl, HO, HM, HB⟩ := hrel
        by_cases hlt : j < mn
        · have hjl : j < v.mem.length := by have := HMN.out; omega
          have hT := HT.out.new HM.out
          obtain ⟨g, o, y, hA, hgl, htb, -, hcn, hc, hty⟩ := hT.member hjl
          simp only at hA
          subst hA
          have HTK : Hid (((v.mem.take (j + 1)).map fun p => quoteL p.1.data.toList ++ 58 :: vText d p.2).map txtB = (((v.mem.take j).map fun p => quoteL p.1.data.toList ++ 58 :: vText d p.2).map txtB) ++ [txtB (quoteL v.mem[j].1.data.toList) ++ (⟨#[58]⟩ : ByteArray) ++ txtB (vText d v.mem[j].2)]) := hId (by rw [List.take_succ_eq_append_getElem hjl, txtB_mid]; simp only [List.map_append, List.map_cons, List.map_nil])
          obtain ⟨hft, -⟩ := HF.out.member hjl
          have hnz : v.mem[j].1.size ≤ 100000 := by have h1 := vW_member d v hjl; have h2 := HW.out; omega
          have hrf := HRM.out j hjl
          have hwm := Nat.le_trans (vW_member d v hjl) HW.out
          have hwi : vW d v.mem[j].2 ≤ 200000 := by omega
          have hq1 : (txtB (quoteL v.mem[j].1.data.toList)).size ≤ 200002 := by
            rw [txtB_size]
            have h1 := quoteL_length v.mem[j].1.data.toList
            have h2 : v.mem[j].1.data.toList.length = v.mem[j].1.size := rfl
            omega
          have hq2 : (txtB (vText d v.mem[j].2)).size ≤ 200000 := by
            rw [txtB_size]
            have := vText_lengthM d _ hrf
            omega
          obtain ⟨yk, yf, yn, yw, yla, yln, ylc, yma, ymn, ymc⟩ := y
          have c0 := hc 0 (by omega)
          have c1 := hc 1 (by omega)
          have c2 := hc 2 (by omega)
          have c3 := hc 3 (by omega)
          have c4 := hc 4 (by omega)
          have c5 := hc 5 (by omega)
          simp only [VA.enc, Nat.add_zero, Nat.zero_add] at c0 c1 c2 c3 c4 c5
          have hb1 : (0 : Int) ≤ j := by omega
          have hb2 : (j : Int) < mn := by omega
          have hqt := fun W => quoted_v v.mem[j].1 W hnz
          generalize v.mem[j].1 = nm at *
          have hyx := Blk.new wq 60 #[.string nm, .int .i64 yk, .bool yf, .int .i64 yn, .string yw, .slice yla yln ylc, .slice yma ymn ymc]
          have hma : New wq (wq.alloc (.cells #[.string nm, .int .i64 yk, .bool yf, .int .i64 yn, .string yw, .slice yla yln ylc, .slice yma ymn ymc] 60)) := (Mod.refl _ _).alloc _
          have HIX := hId (fun W (hW : New (wq.alloc (.cells #[.string nm, .int .i64 yk, .bool yf, .int .i64 yn, .string yw, .slice yla yln ylc, .slice yma ymn ymc] 60)) W) => HIH.out ⟨yk, yf, yn, yw, yla, yln, ylc, yma, ymn, ymc⟩ _ G W (hty.new (hma.trans hW)) hft hrf hwi (HPX.out _ (HM.out.trans (hma.trans hW))))
          clear hT hc hty htb hft hrf hwi hwm
          generalize vText d v.mem[j].2 = tx at *
          have hqe : (⟨(quoteL nm.data.toList).toArray⟩ : ByteArray) = txtB (quoteL nm.data.toList) := rfl
          simp only [hqe] at hqt
          clear hqe
          generalize txtB (quoteL nm.data.toList) = QT at *
          generalize txtB tx = ST at *
          go_upto_region 20 with (fail)
          generalize wq.alloc (.cells #[.string nm, .int .i64 yk, .bool yf, .int .i64 yn, .string yw, .slice yla yln ylc, .slice yma ymn ymc] 60) = wm at *
          have own6 := HO.out.new hma
          have HM6 := hId (HM.out.trans hma)
          have hzm := hma.size
          have HBM : Hid (xb + 1 ≤ wm.heap.size) := hId (by have := HB.out; omega)
          generalize wq.heap.size = mb at *
          have HOM := hId own6
          have HCS : Hid (∀ W, New wm W → W.cell? ⟨mb, 0, none⟩ = some (.string nm) ∧ W.cell? ⟨mb, 1, none⟩ = some (.int .i64 yk) ∧ W.cell? ⟨mb, 2, none⟩ = some (.bool yf) ∧ W.cell? ⟨mb, 3, none⟩ = some (.int .i64 yn) ∧ W.cell? ⟨mb, 4, none⟩ = some (.string yw) ∧ W.cell? ⟨mb, 5, none⟩ = some (.slice yla yln ylc) ∧ W.cell? ⟨mb, 6, none⟩ = some (.slice yma ymn ymc) ∧ mb < W.heap.size) := hId (fun W hW => by
            have hb := hyx.mod hW (fun e => e)
            exact ⟨(hb.cell 0).trans rfl, (hb.cell 1).trans rfl, (hb.cell 2).trans rfl, (hb.cell 3).trans rfl, (hb.cell 4).trans rfl, (hb.cell 5).trans rfl, (hb.cell 6).trans rfl, hb.lt⟩)
          have HYX := hId hyx
          clear own6 hma hyx hzm HB HO c0 c1 c2 c3 c4 c5 hcn
          refine wp_region_held_ord (fun W => W.cell? ⟨mb, 0, none⟩ = some (.string nm) ∧ W.cell? ⟨mb, 1, none⟩ = some (.int .i64 yk) ∧ W.cell? ⟨mb, 2, none⟩ = some (.bool yf) ∧ W.cell? ⟨mb, 3, none⟩ = some (.int .i64 yn) ∧ W.cell? ⟨mb, 4, none⟩ = some (.string yw) ∧ W.cell? ⟨mb, 5, none⟩ = some (.slice yla yln ylc) ∧ W.cell? ⟨mb, 6, none⟩ = some (.slice yma ymn ymc) ∧ mb < W.heap.size) [3, 7, 9, 10] [0, 1, 2, 5, 6, 3, 4, 7, 8, 9, 10] (by kernel_rfl) (by kernel_rfl) (fun _ _ d _ _ h => by cases d <;> exact h) ?_ (fun hHeld => ?_)
          · exact HCS.out _ (Mod.refl _ _).drew
          simp only [List.length_cons, List.length_nil, List.drop_succ_cons, List.drop_zero]
          refine heldO_take ?_ (by rfl) (by rfl) (by rfl) (fun w hSw => ?_) ?_
          rotate_left
          · (try dsimp only at hSw); go_simp; any_goals (with_reducible rfl)
          simp only [Act.put, lst, lsz, lss]
          refine heldO_take ?_ (by rfl) (by rfl) (by rfl) (fun w hSw => ?_) ?_
          rotate_left
          · (try dsimp only at hSw); go_simp; any_goals (with_reducible rfl)
          simp only [Act.put, lst, lsz, lss]
          refine heldO_take ?_ (by rfl) (by rfl) (by rfl) (fun w hSw => ?_) ?_
          rotate_left
          · (try dsimp only at hSw); go_simp; any_goals (with_reducible rfl)
          simp only [Act.put, lst, lsz, lss]
          refine heldO_take ?_ (by rfl) (by rfl) (by rfl) (fun w hSw => ?_) ?_
          rotate_left
          · (try dsimp only at hSw); go_simp; any_goals (with_reducible rfl)
          simp only [Act.put, lst, lsz, lss]
          refine heldO_take ?_ (by rfl) (by rfl) (by rfl) (fun w hSw => ?_) ?_
          rotate_left
          · (try dsimp only at hSw); go_simp; any_goals (with_reducible rfl)
          simp only [Act.put, lst, lsz, lss]
          refine heldO_step (by rfl) (by rfl) (by rfl) (fun K hK => ?_)
          go_simp
          refine (hqt _).mono ?_
          clear hqt
          rintro e w3 ⟨rfl, hm3⟩
          have m3 : New wm w3 := (Mod.refl (fun _ => False) wm).drew.trans hm3
          clear hm3
          go_wp2_with fail
          refine hK.out _ _ (HCS.out _ m3) (fun hHeld => ?_)
          clear hK K
          try simp only [Act.put, lst, lsz, lss]
          have hs1 : ¬ 9223372036854775807 < QT.size + 1 := by omega
          have hs2 : ¬ 9223372036854775807 < (QT ++ (⟨#[58]⟩ : ByteArray)).size + ST.size := by
            simp only [ByteArray.size_append]
            have : ByteArray.size ⟨#[58]⟩ = 1 := rfl
            omega
          have hs3 : ¬ 9223372036854775807 < QT.size + 1 + ST.size := by omega
          refine heldO_take ?_ (by rfl) (by rfl) (by rfl) (fun w hSw => ?_) ?_
          rotate_left
          · (try dsimp only at hSw); go_simp; any_goals (with_reducible rfl)
          simp only [Act.put, lst, lsz, lss]
          refine heldO_step (by rfl) (by rfl) (by rfl) (fun K hK => ?_)
          go_simp
          refine (HIX.out _ m3).mono ?_
          rintro e w4 ⟨rfl, hm4⟩
          have m4 := m3.trans hm4
          clear hm4
          go_wp2_with fail
          refine hK.out _ _ (HCS.out _ m4) (fun hHeld => ?_)
          clear hK K
          try simp only [Act.put, lst, lsz, lss]
          refine heldO_take ?_ (by rfl) (by rfl) (by rfl) (fun w hSw => ?_) ?_
          rotate_left
          · (try dsimp only at hSw); go_simp; any_goals (with_reducible rfl)
          simp only [Act.put, lst, lsz, lss]
          generalize hJ : QT ++ (⟨#[58]⟩ : ByteArray) ++ ST = J at *
          clear hs1 hs2 hs3
          refine heldO_step (by rfl) (by rfl) (by rfl) (fun K hK => ?_)
          go_simp
          have m5 := m4.alloc (.cells #[.string J] 9)
          refine hK.out _ _ (HCS.out _ m5) (fun hHeld => ?_)
          clear hK K
          try simp only [Act.put, lst, lsz, lss]
          have HZ : Hid (xb + 1 ≤ (w4.alloc (.cells #[.string J] 9)).heap.size) := hId (Nat.le_trans HBM.out m5.size)
          have ownA := HOM.out.new m5
          have blkA : Blk (w4.alloc (.cells #[.string J] 9)) w4.heap.size 9 (encL 1 strE J).toArray := Blk.new _ _ _
          refine heldO_step (by rfl) (by rfl) (by rfl) (fun K hK => ?_)
          refine wp_push (.tmp 53) (.tmp 62) _ rfl 16 Tryz.underlying65 einfo_string rfl (by exact ownA) J w4.heap.size rfl (by exact blkA) (fun j hj => rfl) (by omega) (by omega) HZ.out ?_
          intro g9 cap9 w9 own9 hm9 hat9 hlt9
          have hmw : New w w9 := Own.push_mod' ownA (HM6.out.trans m5) hm9 (by have := HXB.out; omega)
          have hz9 := hm9.size
          have hby := HYX.out.mod m5 (fun e => e)
          have hby9 := hby.mod hm9 (fun e => by
            obtain ⟨_, _, ht⟩ : ∃ a b, TB (w4.alloc (.cells #[.string J] 9)) mb 9 := by
              rcases ownA.blk with ⟨h1, _⟩ | ⟨g', h1, h2, ht⟩
              · rw [h1] at e; cases e
              · rw [h1] at e; injection e with e; simp only at e; subst e; exact ⟨0, 0, ht⟩
            exact hby.tb.ne ht (by decide) rfl)
          refine hK.out _ _ ⟨(hby9.cell 0).trans rfl, (hby9.cell 1).trans rfl, (hby9.cell 2).trans rfl, (hby9.cell 3).trans rfl, (hby9.cell 4).trans rfl, (hby9.cell 5).trans rfl, (hby9.cell 6).trans rfl, hby9.lt⟩ (fun hHeld => ?_)
          clear hK K hby hby9 hHeld
          try simp only [Act.put, lst, lsz, lss]
          refine heldO_nil ?_
          have HOW := hId own9
          have HMW := hId hmw
          have HZW := hId (Nat.le_trans HZ.out hz9)
          clear own9 hmw hm9 hat9 hlt9 hz9 ownA blkA m3 m4 m5
          go_wp2_with fail
          go_roundw
          case rel => exact ⟨j + 1, cap9, some ⟨g9, 0, none⟩, by omega, by go_num, rfl, hId (by rw [HTK.out]; exact HOW.out), HMW, HZW⟩
          case measure => simp [intOf]; omega
        · obtain rfl : j = mn := by omega
          have hO := HO.out
          rw [List.take_of_length_le (by have := HMN.out; omega)] at hO
          have hcl := HVL.out
          rw [HVT.out] at hcl
          simp only [List.length_cons, List.length_append, List.length_nil] at hcl
          have hjn := join_own A (xb + 1) j c (v.mem.map fun p => quoteL p.1.data.toList ++ 58 :: vText d p.2) wq hO (by omega) (by omega)
          have hw := txtB_wrap 123 125 (commas (v.mem.map fun p => quoteL p.1.data.toList ++ 58 :: vText d p.2))
          have hts := txtB_size (commas (v.mem.map fun p => quoteL p.1.data.toList ++ 58 :: vText d p.2))
          have HRET : Hid (Ending.returned (.string ((⟨#[123]⟩ : ByteArray) ++ txtB (commas (v.mem.map fun p => quoteL p.1.data.toList ++ 58 :: vText d p.2)) ++ ⟨#[125]⟩)) = Ending.returned (.string (txtB (vText (d + 1) v)))) := hId (by rw [HVT.out, hw])
          generalize hST : txtB (commas (v.mem.map fun p => quoteL p.1.data.toList ++ 58 :: vText d p.2)) = ST at *
          have hs1 : ¬ 9223372036854775807 < 1 + ST.size := by omega
          have hs2 : ¬ 9223372036854775807 < ((⟨#[123]⟩ : ByteArray) ++ ST).size + 1 := by
            simp only [ByteArray.size_append]
            have : ByteArray.size ⟨#[123]⟩ = 1 := rfl
            omega
          clear hO HO hw
          go_wp2_with fail
          refine hjn.mono ?_
          clear hjn
          rintro e w5 ⟨rfl, m5⟩
          go_wp2_with fail
          go_ret
          exact ⟨Eq.trans rfl HRET.out, HM.out.trans m5⟩


theorem encode_size (n : Int) : (Utf8.encode n).size ≤ 4 := by
  unfold Utf8.encode
  simp only
  repeat' split
  all_goals (first | decide | (show _ ≤ 4; simp [ByteArray.size]))
theorem encode_wrap (c : UInt8) : IntKind.i32.wrap (c.toNat : Int) = c.toNat := by
  have := c.toNat_lt
  simp [IntKind.wrap, IntKind.signed, IntKind.bits]
  omega
set_option maxRecDepth 100000 in
set_option maxHeartbeats 2000000 in
theorem changed_with (b k : Nat) (t : ByteArray) (w : World) (hs : SInv b w k) (hk : k < 4611686018427000000) (ht : t.size ≤ 1000000) (wt : ByteArray) (hw0 : 0 < wt.size) (hw : wt.size ≤ 100) :
    Calls Tryz.prog 16 #[.pointer (some ⟨b, 0, none⟩), .string t, .string wt] w (RStr fun m w' => m.size ≤ t.size + wt.size + 8 ∧ SStep b w w' (k + 3)) := by
  have hb := hs.lt
  have hwe : (wt.toList == []) = false := by
    rw [ByteArray.toList_eq]
    simp only [beq_eq_false_iff_ne, ne_eq]
    intro h
    have : wt.data.toList.length = 0 := by rw [h]; rfl
    have e : wt.data.toList.length = wt.size := rfl
    omega
  by_cases he : t = ⟨#[]⟩
  · have he' : (t.toList == []) = true := by rw [he, ByteArray.toList_eq]; rfl
    clear he
    go_enter Tryz.func16, Tryz.ntmps16
    go_wp2_with fail
    go_ret
    exact ⟨wt, rfl, by omega, (SStep.refl hs).more (by omega)⟩
  · have he' : (t.toList == []) = false := by
      rw [ByteArray.toList_eq]
      simp only [beq_eq_false_iff_ne, ne_eq]
      intro h
      exact he (ByteArray.ext (Array.toList_inj.mp h))
    have hpos : 1 ≤ t.size := by
      rcases Nat.eq_zero_or_pos t.size with h | h
      · exact absurd (ByteArray.ext (Array.eq_empty_of_size_eq_zero h)) he
      · exact h
    clear he
    go_enter Tryz.func16, Tryz.ntmps16
    go_wp2_with fail
    refine (next_any b k t.size w hs (by omega) (by omega) (by omega)).mono ?_
    rintro e w1 ⟨i, rfl, hi0, hi1, h1⟩
    go_wp2_with fail
    refine (next_any b _ wt.size w1 h1.inv (by omega) (by omega) (by omega)).mono ?_
    rintro e w2 ⟨j, rfl, hj0, hj1, h2⟩
    obtain ⟨i, rfl⟩ := Int.eq_ofNat_of_zero_le hi0
    obtain ⟨j, rfl⟩ := Int.eq_ofNat_of_zero_le hj0
    have hj2 : j < wt.size := by omega
    go_wp2_with fail
    refine (next_any b _ 3 w2 h2.inv (by omega) (by omega) (by omega)).mono ?_
    rintro e w3 ⟨m, rfl, hm0, hm1, h3⟩
    have h13 := (h1.trans h2).trans h3
    have hew := encode_wrap wt[j]
    have hes := encode_size (wt[j].toNat : Int)
    generalize wt[j]'hj2 = c at hew hes ⊢
    have hi2 : i < t.size := by omega
    have e1 : (t.extract 0 i).size = i := by simp only [ByteArray.size_extract]; omega
    have e2 : (t.extract (i + 1) t.size).size = t.size - (i + 1) := by simp only [ByteArray.size_extract]; omega
    have e3 : (t.extract i t.size).size = t.size - i := by simp only [ByteArray.size_extract]; omega
    have E1 := hId e1
    have E2 := hId e2
    have E3 := hId e3
    clear e1 e2 e3 h1 h2 h3
    obtain rfl | rfl | rfl : m = 0 ∨ m = 1 ∨ m = 2 := by omega
    · go_wp2_with fail
      go_quiet (fail)
      go_wp2_with fail
      go_ret
      refine ⟨_, rfl, ?_, (h13.drewN _).more (by omega)⟩
      simp only [ByteArray.size_append, E1.out, E2.out]
      omega
    · go_wp2_with fail
      go_quiet (fail)
      go_wp2_with fail
      go_ret
      refine ⟨_, rfl, ?_, (h13.drewN _).more (by omega)⟩
      simp only [ByteArray.size_append, E1.out, E3.out]
      omega
    · go_wp2_with fail
      go_quiet (fail)
      go_wp2_with fail
      go_ret
      refine ⟨_, rfl, ?_, (h13.drewN _).more (by omega)⟩
      simp only [ByteArray.size_append, E1.out, E2.out]
      omega

def vsLits : List ByteArray := [⟨#[]⟩, ⟨#[32]⟩, ⟨#[91, 49, 44, 93]⟩, ⟨#[123, 34, 97, 34, 58, 49, 44, 34, 97, 34, 58, 50, 125]⟩, ⟨#[48, 49]⟩, ⟨#[45, 48]⟩, ⟨#[45]⟩, ⟨#[49, 46, 53]⟩, ⟨#[49, 101, 51]⟩, ⟨#[110, 117, 108]⟩, ⟨#[84, 114, 117, 101]⟩, ⟨#[34, 92, 117, 48, 48, 101, 57, 92, 117, 100, 56, 51, 100, 92, 117, 100, 101, 48, 48, 34]⟩, ⟨#[34, 92, 117, 100, 56, 51, 100, 34]⟩, ⟨#[34, 92, 117, 100, 101, 48, 48, 34]⟩, ⟨#[34, 92, 117, 49, 50, 103, 52, 34]⟩, ⟨#[34, 97]⟩, ⟨#[34, 92]⟩, ⟨#[34, 92, 120, 34]⟩, ⟨#[34, 10, 34]⟩, ⟨#[34, 127, 34]⟩, ⟨#[123, 97, 58, 49, 125]⟩, ⟨#[123, 34, 97, 34, 32, 49, 125]⟩, ⟨#[91, 49, 32, 50, 93]⟩, ⟨#[123, 34, 98, 34, 58, 49, 44, 34, 97, 34, 58, 91, 93, 125]⟩, ⟨#[49, 50, 51, 52, 53, 54, 55, 56, 57, 48, 49, 50, 51, 52, 53, 54]⟩, ⟨#[49, 50, 51, 52, 53, 54, 55, 56, 57, 48, 49, 50, 51, 52, 53, 54, 55]⟩, ⟨#[49, 48, 48, 48, 48, 48, 48, 48, 48, 48, 48, 48, 48, 48, 48, 49]⟩, ⟨#[91, 34, 92, 47, 92, 98, 92, 102, 92, 110, 92, 114, 92, 116, 34, 93]⟩, ⟨#[110, 117, 108, 108, 0]⟩, ⟨#[91, 91, 91, 93]⟩, ⟨#[123, 34, 97, 34, 58, 125]⟩, ⟨#[34, 255, 34]⟩, ⟨#[123, 44, 125]⟩, ⟨#[9, 91, 13, 10, 49, 32, 93, 10]⟩]
theorem vsLits_le : ∀ m ∈ vsLits, m.size ≤ 200 := by decide +kernel
set_option maxRecDepth 100000 in
set_option maxHeartbeats 4000000 in
theorem valueString_any (b k : Nat) (w w0 : World) (hs : SInv b w k) (hk : k < 4611686018425000000) (h0 : Pow10 w0) (hb0 : w0.heap.size ≤ b) (hT : Pow10 w) :
    Calls Tryz.prog 4 #[.pointer (some ⟨b, 0, none⟩)] w (RStr fun m w' => m.size ≤ 240000 ∧ SStep b w w' (k + rvK 3 + 20)) := by
  have hb := hs.lt
  have hK : rvK 3 ≤ 10000 := rvK_le (by omega)
  go_enter Tryz.func4, Tryz.ntmps4
  go_wp2_with fail
  refine (flip_any b k 3 w hs (by omega) (by omega) (by omega)).mono ?_
  rintro e w1 ⟨bo, rfl, h1⟩
  cases bo with
  | true =>
    go_wp2_with fail
    refine (some_any vsLits b _ w1.heap.size 34 _ (h1.alloc _).inv (by omega) (Blk.new _ _ _) rfl (by omega) (by omega)).mono ?_
    rintro e w2 ⟨m, rfl, hm, h2⟩
    have hms : m.size ≤ 240000 := by have := vsLits_le m hm; omega
    clear hm
    have T2 := hId (((h1.alloc _).trans h2).more (show k + 1 + 1 ≤ k + rvK 3 + 20 by omega))
    clear h1 h2
    go_wp2_with fail
    go_ret
    exact ⟨m, rfl, hms, T2.out⟩
  | false =>
    have hrv := stream_rvM 3 (by omega) b _ w1 h1.inv (by omega)
    go_wp2_with fail
    refine hrv.mono ?_
    clear hrv
    rintro e w2 ⟨x, v, rfl, ht, hw, hwd, h2⟩
    have T2 := h1.trans h2
    have hP2 : Pow10 w2 := h0.mod hT T2.only (fun g hg e => by omega)
    have hwv : rvW 3 = 33640 := by decide
    have hw : vW 4 v ≤ 33640 := by rw [← hwv]; exact hw
    have hvl := vText_lengthM 4 v hwd.2
    have hwr := written_m 4 x v _ w2 ht ⟨Nat.le_trans hw (by omega), Wide.mono (by omega) _ _ hwd.1⟩ hwd.2 (by omega) hP2
    have htz : (txtB (vText 4 v)).size ≤ 33640 := by rw [txtB_size]; omega
    generalize txtB (vText 4 v) = t at *
    clear hvl hw hwd ht hwv h1 h2 hP2
    obtain ⟨xk, xf, xn, xw, xla, xln, xlc, xma, xmn, xmc⟩ := x
    go_wp2_with fail
    refine hwr.mono ?_
    clear hwr
    rintro e w3 ⟨rfl, m3⟩
    have T3 := T2.new m3
    have hfl := flip_any b _ 2 _ T3.inv (by omega) (by omega) (by omega)
    clear T2 m3
    go_wp2_with fail
    refine hfl.mono ?_
    clear hfl
    rintro e w4 ⟨bo, rfl, h4⟩
    have HT4 := hId (T3.trans h4)
    clear T3 h4
    cases bo with
    | false =>
      go_wp2_with fail
      refine (pick_any [0, 0, 1, 2] b _ _ 4 _ ((HT4).out.alloc _).inv (by omega) (Blk.new _ _ _) rfl (by omega) (by omega)).mono ?_
      rintro e w8 ⟨n, rfl, mn, h8⟩
      have hn : 0 ≤ n ∧ n ≤ 2 := by simp at mn; omega
      obtain ⟨n, rfl⟩ := Int.eq_ofNat_of_zero_le hn.1
      have T8 := hId (((HT4).out.alloc _).trans h8)
      clear h8 mn
      go_wp2_with fail
      go_loopw [3, 21] (fun s i wr => ∃ (j : Nat) (t : ByteArray), j ≤ n ∧ i = .int .i64 j ∧ s = .string t ∧ t.size ≤ 200000 + 30 * j ∧ Hid (SStep b w wr (k + rvK 3 + 10 + 3 * j))) (fun _ i _ => n - (intOf i).toNat)
      case atStart => exact ⟨0, t, Nat.zero_le _, rfl, rfl, by omega, hId (T8.out.more (by omega))⟩
      case round =>
        rename World => wr
        obtain ⟨j, t', hj, rfl, rfl, hsz, HST⟩ := hrel
        by_cases hlt : j < n
        · have hch := changed_with b _ t' wr HST.out.inv (by omega) (by omega) ⟨#[91, 93, 123, 125, 44, 58, 34, 92, 32, 48, 49, 45, 116, 110, 10]⟩ (by decide) (by decide)
          go_wp2_with fail
          refine hch.mono ?_
          clear hch
          rintro e w5 ⟨m, rfl, hm, h5⟩
          have h7 : (⟨#[91, 93, 123, 125, 44, 58, 34, 92, 32, 48, 49, 45, 116, 110, 10]⟩ : ByteArray).size = 15 := rfl
          rw [h7] at hm
          have HS5 := hId ((HST.out.trans h5).more (show k + rvK 3 + 10 + 3 * j + 3 ≤ k + rvK 3 + 10 + 3 * (j + 1) by omega))
          clear h5
          go_wp2_with fail
          exact ⟨⟨j + 1, m, by omega, by go_num, rfl, by omega, HS5⟩, by simp [intOf]; omega⟩
        · obtain rfl : j = n := by omega
          have hfin : t'.size ≤ 240000 := by omega
          go_wp2_with fail
          go_ret
          exact ⟨t', rfl, hfin, HST.out.more (by omega)⟩
    | true =>
      have hbk := Blk.new w4 9 #[.string ⟨#[44]⟩, .string ⟨#[32, 44, 10]⟩, .string ⟨#[58]⟩, .string ⟨#[32, 58, 32]⟩, .string ⟨#[91]⟩, .string ⟨#[91, 32]⟩, .string ⟨#[125]⟩, .string ⟨#[9, 125]⟩]
      have hown : Own (w4.alloc (.cells #[.string ⟨#[44]⟩, .string ⟨#[32, 44, 10]⟩, .string ⟨#[58]⟩, .string ⟨#[32, 58, 32]⟩, .string ⟨#[91]⟩, .string ⟨#[91, 32]⟩, .string ⟨#[125]⟩, .string ⟨#[9, 125]⟩] 9)) w4.heap.size 9 1 sEnc (some ⟨w4.heap.size, 0, none⟩) 8 8 rpOld := Own.of_blk (xs := rpOld) (by exact hbk) (Nat.le_refl _) rfl (by omega)
      have hnr := rp_new w4.heap.size w4.heap.size 8 _ hown
      have HT5 := hId (HT4.out.alloc (.cells #[.string ⟨#[44]⟩, .string ⟨#[32, 44, 10]⟩, .string ⟨#[58]⟩, .string ⟨#[32, 58, 32]⟩, .string ⟨#[91]⟩, .string ⟨#[91, 32]⟩, .string ⟨#[125]⟩, .string ⟨#[9, 125]⟩] 9))
      clear hbk hown
      go_wp2_with fail
      refine hnr.mono ?_
      clear hnr
      rintro e w5 ⟨rb, og, oc, rfl, m5, hrb, hog, hrk, hro⟩
      have HT6 := hId (HT5.out.new m5)
      have hrr := rp_Replace rb og oc _ t w5 hrk hro (by omega)
      have hrb2 : w.heap.size ≤ rb := Nat.le_trans HT5.out.only.size hrb
      clear m5 hrb hog hrk hro
      go_wp2_with fail
      refine hrr.mono ?_
      clear hrr
      rintro e w6 ⟨t2, rfl, ht2, m6⟩
      have HT7 := hId (HT6.out.mod m6 (fun i e => by subst e; exact hrb2))
      clear m6
      have htz2 : t2.size ≤ 200000 := by omega
      go_wp2_with fail
      refine (pick_any [0, 0, 1, 2] b _ _ 4 _ ((HT7).out.alloc _).inv (by omega) (Blk.new _ _ _) rfl (by omega) (by omega)).mono ?_
      rintro e w8 ⟨n, rfl, mn, h8⟩
      have hn : 0 ≤ n ∧ n ≤ 2 := by simp at mn; omega
      obtain ⟨n, rfl⟩ := Int.eq_ofNat_of_zero_le hn.1
      have T8 := hId (((HT7).out.alloc _).trans h8)
      clear h8 mn
      go_wp2_with fail
      go_loopw [3, 21] (fun s i wr => ∃ (j : Nat) (t : ByteArray), j ≤ n ∧ i = .int .i64 j ∧ s = .string t ∧ t.size ≤ 200000 + 30 * j ∧ Hid (SStep b w wr (k + rvK 3 + 10 + 3 * j))) (fun _ i _ => n - (intOf i).toNat)
      case atStart => exact ⟨0, t2, Nat.zero_le _, rfl, rfl, by omega, hId (T8.out.more (by omega))⟩
      case round =>
        rename World => wr
        obtain ⟨j, t', hj, rfl, rfl, hsz, HST⟩ := hrel
        by_cases hlt : j < n
        · have hch := changed_with b _ t' wr HST.out.inv (by omega) (by omega) ⟨#[91, 93, 123, 125, 44, 58, 34, 92, 32, 48, 49, 45, 116, 110, 10]⟩ (by decide) (by decide)
          go_wp2_with fail
          refine hch.mono ?_
          clear hch
          rintro e w5 ⟨m, rfl, hm, h5⟩
          have h7 : (⟨#[91, 93, 123, 125, 44, 58, 34, 92, 32, 48, 49, 45, 116, 110, 10]⟩ : ByteArray).size = 15 := rfl
          rw [h7] at hm
          have HS5 := hId ((HST.out.trans h5).more (show k + rvK 3 + 10 + 3 * j + 3 ≤ k + rvK 3 + 10 + 3 * (j + 1) by omega))
          clear h5
          go_wp2_with fail
          exact ⟨⟨j + 1, m, by omega, by go_num, rfl, by omega, HS5⟩, by simp [intOf]; omega⟩
        · obtain rfl : j = n := by omega
          have hfin : t'.size ≤ 240000 := by omega
          go_wp2_with fail
          go_ret
          exact ⟨t', rfl, hfin, HST.out.more (by omega)⟩

def PartD.val (p : PartD) : Value := .agg #[.int .i64 p.kind, .string p.name]
theorem str_beq (a b : ByteArray) : (a.toList == b.toList) = decide (a = b) := by
  rw [Bool.eq_iff_iff, ByteArray.toList_eq, ByteArray.toList_eq]
  simp only [beq_iff_eq, decide_eq_true_eq]
  exact ⟨fun h => ByteArray.ext (Array.toList_inj.mp h), fun h => by rw [h]⟩
/-- the place of the first one among the first n, or -1 -/
def firstP (b : Nat → Bool) : Nat → Int
  | 0 => -1
  | n + 1 => if firstP b n = -1 then (if b n then n else -1) else firstP b n
theorem firstP_none {b : Nat → Bool} {n : Nat} (h : ∀ i, i < n → b i = false) : firstP b n = -1 := by
  induction n with
  | zero => rfl
  | succ n ih => rw [firstP, ih (fun i hi => h i (by omega)), h n (by omega)]; simp
theorem firstP_hit {b : Nat → Bool} {n k : Nat} (hk : k < n) (ht : b k = true) (h : ∀ i, i < k → b i = false) : firstP b n = k := by
  induction n with
  | zero => omega
  | succ n ih =>
    rw [firstP]
    by_cases e : k = n
    · subst e; rw [firstP_none h, ht]; simp
    · rw [ih (by omega)]; rw [if_neg (by omega)]
theorem firstP_any (b : Nat → Bool) : ∀ n, decide (0 ≤ firstP b n) = (List.range n).any b
  | 0 => rfl
  | n + 1 => by
    have ih := firstP_any b n
    rw [List.range_succ, List.any_append, ← ih, firstP]
    split
    · rename_i h
      rw [h]
      cases hb : b n <;> simp [hb]
    · rename_i h
      have : 0 ≤ firstP b n := by
        have hge : ∀ m, -1 ≤ firstP b m := by
          intro m
          induction m with
          | zero => exact Int.le_refl _
          | succ m ih2 => unfold firstP; split <;> (try split) <;> omega
        have := hge n
        omega
      simp [this]
theorem anyRange {α : Type} (p : α → Bool) (l : List α) : (List.range l.length).any (fun i => (l[i]?).any p) = l.any p := by
  rw [Bool.eq_iff_iff, List.any_eq_true, List.any_eq_true]
  constructor
  · rintro ⟨i, hi, h⟩
    have hi := List.mem_range.1 hi
    rw [List.getElem?_eq_getElem hi] at h
    exact ⟨l[i], List.getElem_mem hi, h⟩
  · rintro ⟨x, hx, h⟩
    obtain ⟨i, hi, rfl⟩ := List.getElem_of_mem hx
    exact ⟨i, List.mem_range.2 hi, by rw [List.getElem?_eq_getElem hi]; exact h⟩

end Go.Proofs.YtjmnkdkdjnmejaaGreatDoor
