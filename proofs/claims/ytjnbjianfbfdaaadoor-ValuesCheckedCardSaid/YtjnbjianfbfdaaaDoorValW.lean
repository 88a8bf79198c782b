/- Values written: the reference's Written. Conditions: a right value, a text that is not too large; strconv's table. -/
import Derived.Test.YtjnbjianfbfdaaaDoorValT
import Derived.Test.YtjnbjianfbfdaaaDoorValR
import Derived.Test.YtjnbjianfbfdaaaDoorVal7
import Derived.Test.YtjnbjianfbfdaaaDoorRow
namespace Go.Proofs.YtjnbjianfbfdaaaDoor
open Go.RowKit
set_option linter.unusedVariables false
set_option linter.unusedSimpArgs false

theorem join_commas : ∀ l : List (List UInt8), Lib.join l [44] = commas l
  | [] => rfl
  | [x] => by simp [Lib.join, List.intercalate, commas]
  | x :: y :: r => by
    have ih := join_commas (y :: r)
    rw [commas, ← ih]
    simp [Lib.join, List.intercalate, List.intersperse]
def txtB (l : List UInt8) : ByteArray := ⟨l.toArray⟩
theorem txtB_toList (l : List UInt8) : (txtB l).data.toList = l := by simp [txtB]
theorem txtB_size (l : List UInt8) : (txtB l).size = l.length := by simp [txtB, ByteArray.size]
theorem txtB_wrap (a b : UInt8) (C : List UInt8) : ((⟨#[a]⟩ : ByteArray) ++ txtB C ++ ⟨#[b]⟩) = txtB (a :: (C ++ [b])) := by
  apply ByteArray.ext
  apply Array.ext'
  simp [txtB, ByteArray.data_append]
theorem txtB_mid (a : UInt8) (C D : List UInt8) : (txtB C ++ (⟨#[a]⟩ : ByteArray) ++ txtB D) = txtB (C ++ a :: D) := by
  apply ByteArray.ext
  apply Array.ext'
  simp [txtB, ByteArray.data_append]
/-- strings.Join of a row of the call's own -/
theorem join_own (A : Option Addr) (B n c : Nat) (xs : List (List UInt8)) (w : World) (ho : Own w B 9 1 strE A n c (xs.map txtB)) (hn : n ≤ 100000) (hl : (commas xs).length ≤ 1000000) :
    Calls Tryd.prog 33 #[.slice A n c, .string ⟨#[44]⟩] w fun e w' => e = .returned (.string (txtB (commas xs))) ∧ New w w' := by
  rcases Nat.eq_zero_or_pos n with h0 | h0
  · subst h0
    have hx : xs = [] := by have := ho.1; simpa using this
    subst hx
    refine (Tryd.strings_Join_none A c ⟨#[44]⟩ w).mono ?_
    rintro e w' ⟨rfl, rfl⟩
    exact ⟨rfl, Mod.refl _ _⟩
  · obtain ⟨g, rfl, hB, htb, hc1, hc2⟩ := ho.form h0
    have hln : xs.length = n := by have := ho.1; simpa using this
    have hmm : (xs.map txtB).map (·.data.toList) = xs := by
      rw [List.map_map]
      conv => rhs; rw [← List.map_id xs]
      apply List.map_congr_left
      intro a _
      exact txtB_toList a
    have hj := Tryd.strings_Join g 0 c (xs.map txtB) ⟨#[44]⟩ w (fun j x hx => by
      rw [Nat.zero_add]
      obtain ⟨hj, rfl⟩ := List.getElem?_eq_some_iff.1 hx
      exact ho.cell1 hj) htb.lt (by simp; omega) (by simp; omega) (by rw [hmm, join_commas]; omega)
    rw [hmm, join_commas] at hj
    rw [List.length_map, hln] at hj
    refine hj.mono ?_
    rintro e w' ⟨rfl, hm⟩
    exact ⟨rfl, Mod.of_below hm⟩

set_option maxRecDepth 100000 in
set_option maxHeartbeats 1500000 in
theorem written_v (d : Nat) : ∀ (x : VA) (v : VT) (G : Nat → Prop) (w : World), Tree w G d x v → Fit d v → vFault d v = 0 → vW d v ≤ 200000 → Pow10 w →
    Calls Tryd.prog 11 #[x.val] w fun e w' => e = .returned (.string (txtB (vText d v))) ∧ New w w' := by
  induction d with
  | zero => intro x v G w ht; exact ht.elim
  | succ d ih =>
    intro x v G w ht hf hr hlen hP
    have hvl := vText_length (d + 1) v hr
    obtain ⟨hk05, hn15, hrl, hrm⟩ := right_parts hr
    have hwp := hf.parts
    have hfl := ht.fields
    have HT := Lib.hid ht
    have HIH := Lib.hid ih
    have HF := Lib.hid hf
    have HRL := Lib.hid hrl
    have HRM := Lib.hid hrm
    have HW := Lib.hid hlen
    have hv : vText (d + 1) v = if v.kind = 1 then Lib.formatBool v.flag else if v.kind = 2 then Lib.itoa v.num else if v.kind = 3 then quoteL v.words.data.toList else
      if v.kind = 4 then 91 :: (commas (v.list.map (vText d)) ++ [93]) else
      if v.kind = 5 then 123 :: (commas (v.mem.map fun p => quoteL p.1.data.toList ++ 58 :: vText d p.2) ++ [125]) else nullL := rfl
    obtain ⟨g1, g2, g3, g4, g5, g6⟩ := hfl
    rw [g1, g2, g3, g4] at hv
    rw [g1] at hk05
    rw [g3] at hn15
    rw [g4, g5, g6] at hwp
    have HLN := Lib.hid g5
    have HMN := Lib.hid g6
    have HV := Lib.hid hv
    have HVL : Hid ((vText (d + 1) v).length ≤ 200000) := Lib.hid (by omega)
    obtain ⟨kind, flag, num, words, la, ln, lc, ma, mn, mc⟩ := x
    simp only at hk05 hn15 hwp HV HLN HMN
    obtain ⟨hwp1, hwp2, hwp3⟩ := hwp
    have HPX : Hid (∀ W, New w W → Pow10 W) := Lib.hid (fun W h => hP.new h)
    clear g1 g2 g3 g4 g5 g6 hv hr hrl hrm ih ht hf hlen hP hvl
    have hx := Blk.new w 29 #[.int .i64 kind, .bool flag, .int .i64 num, .string words, .slice la ln lc, .slice ma mn mc]
    have hm1 : New w (w.alloc (.cells #[.int .i64 kind, .bool flag, .int .i64 num, .string words, .slice la ln lc, .slice ma mn mc] 29)) := (Mod.refl _ _).alloc _
    go_enter Tryd.func11, Tryd.ntmps11
    go_upto_region 1 with (fail)
    generalize w.alloc (.cells #[.int .i64 kind, .bool flag, .int .i64 num, .string words, .slice la ln lc, .slice ma mn mc] 29) = w1 at *
    generalize hxb : w.heap.size = xb at *
    have HXB := Lib.hid hxb
    have HX := Lib.hid hx
    have HM1 := Lib.hid hm1
    have e0 := hx.cell 0
    have e1 := hx.cell 1
    have e2 := hx.cell 2
    have e3 := hx.cell 3
    have e4 := hx.cell 4
    have e5 := hx.cell 5
    have el := hx.lt
    have HZ1 : Hid (xb + 1 ≤ w1.heap.size) := Lib.hid el
    simp only [List.getElem?_toArray, List.getElem?_cons_zero, List.getElem?_cons_succ] at e0 e1 e2 e3 e4 e5
    clear hx hm1 hxb
    obtain ⟨hk50, hk51⟩ := hk05
    obtain ⟨hn150, hn151⟩ := hn15
    have hkk : kind = 0 ∨ kind = 1 ∨ kind = 2 ∨ kind = 3 ∨ kind = 4 ∨ kind = 5 := by omega
    obtain rfl | rfl | rfl | rfl | rfl | rfl := hkk
    · have HVT : Hid (vText (d + 1) v = [110, 117, 108, 108]) := Lib.hid (by rw [HV.out]; rfl)
      have HRET : Hid (Ending.returned (.string ⟨#[110, 117, 108, 108]⟩) = Ending.returned (.string (txtB (vText (d + 1) v)))) := Lib.hid (by rw [HVT.out]; rfl)
      go_wp2_with fail
      go_ret
      exact ⟨Eq.trans rfl HRET.out, HM1.out⟩
    · have HVT : Hid (vText (d + 1) v = Lib.formatBool flag) := Lib.hid (by rw [HV.out]; rfl)
      have HRET : Hid (Ending.returned (.string ⟨(Lib.formatBool flag).toArray⟩) = Ending.returned (.string (txtB (vText (d + 1) v)))) := Lib.hid (by rw [HVT.out]; rfl)
      have hfb := fun W => Tryd.strconv_FormatBool flag W
      go_wp2_with fail
      refine (hfb _).mono ?_
      rintro e w3 ⟨rfl, rfl⟩
      go_wp2_with fail
      go_ret
      exact ⟨Eq.trans rfl HRET.out, HM1.out⟩
    · have HVT : Hid (vText (d + 1) v = Lib.itoa num) := Lib.hid (by rw [HV.out]; rfl)
      have HRET : Hid (Ending.returned (.string (itoaB num)) = Ending.returned (.string (txtB (vText (d + 1) v)))) := Lib.hid (by rw [HVT.out]; rfl)
      have hi64 : I64 num := ⟨by omega, by omega⟩
      have hit := itoa_any num hi64 w1 (HPX.out _ HM1.out)
      go_wp2_with fail
      refine hit.mono ?_
      clear hit
      rintro e w3 ⟨rfl, hm3⟩
      go_wp2_with fail
      go_ret
      exact ⟨Eq.trans rfl HRET.out, HM1.out.trans hm3⟩
    · have HVT : Hid (vText (d + 1) v = quoteL words.data.toList) := Lib.hid (by rw [HV.out]; rfl)
      have HRET : Hid (Ending.returned (.string ⟨(quoteL words.data.toList).toArray⟩) = Ending.returned (.string (txtB (vText (d + 1) v)))) := Lib.hid (by rw [HVT.out]; rfl)
      have hit := quoted_v words w1 hwp3
      go_wp2_with fail
      refine hit.mono ?_
      clear hit
      rintro e w3 ⟨rfl, hm3⟩
      go_wp2_with fail
      go_ret
      exact ⟨Eq.trans rfl HRET.out, HM1.out.trans hm3⟩
    · have HVT : Hid (vText (d + 1) v = 91 :: (commas (v.list.map (vText d)) ++ [93])) := Lib.hid (by rw [HV.out]; rfl)
      go_wp2_with fail
      clear e0 e1 e2 e3 e4 e5 el
      go_loopw [3, 30] (fun t i wr => ∃ (j c : Nat) (A : Option Addr), j ≤ ln ∧ i = .int .i64 j ∧ t = .slice A j c ∧ Hid (Own wr (xb + 1) 9 1 strE A j c (((v.list.take j).map (vText d)).map txtB)) ∧ Hid (New w wr) ∧ Hid (xb + 1 ≤ wr.heap.size)) (fun _ i _ => ln - (intOf i).toNat)
      case atStart => exact ⟨0, 0, none, Nat.zero_le _, rfl, rfl, Lib.hid (by simpa using Own.nil), HM1, HZ1⟩
      case round =>
        rename World => wq
        obtain ⟨j, c, A, hj, rfl, rfl, HO, HM, HB⟩ := hrel
        by_cases hlt : j < ln
        · have hjl : j < v.list.length := by have := HLN.out; omega
          have hT := HT.out.new HM.out
          obtain ⟨g, o, y, hA, hgl, htb, -, hc, hty⟩ := hT.item hjl
          simp only at hA
          subst hA
          have HTK : Hid (((v.list.take (j + 1)).map (vText d)).map txtB = ((v.list.take j).map (vText d)).map txtB ++ [txtB (vText d v.list[j])]) := Lib.hid (by rw [List.take_succ_eq_append_getElem hjl]; simp only [List.map_append, List.map_cons, List.map_nil])
          have hft := HF.out.item hjl
          have hrf := HRL.out j hjl
          have hwi : vW d v.list[j] ≤ 200000 := Nat.le_trans (vW_item d v hjl) HW.out
          obtain ⟨yk, yf, yn, yw, yla, yln, ylc, yma, ymn, ymc⟩ := y
          have c0 := hc 0 (by omega)
          have c1 := hc 1 (by omega)
          have c2 := hc 2 (by omega)
          have c3 := hc 3 (by omega)
          have c4 := hc 4 (by omega)
          have c5 := hc 5 (by omega)
          simp only [VA.enc, Nat.add_zero, Nat.zero_add] at c0 c1 c2 c3 c4 c5
          have hb1 : (0 : Int) ≤ j := by omega
          have hb2 : (j : Int) < ln := by omega
          have hma : New wq (wq.alloc (.cells #[.int .i64 yk, .bool yf, .int .i64 yn, .string yw, .slice yla yln ylc, .slice yma ymn ymc] 29)) := (Mod.refl _ _).alloc _
          have hI := HIH.out ⟨yk, yf, yn, yw, yla, yln, ylc, yma, ymn, ymc⟩ _ G (wq.alloc (.cells #[.int .i64 yk, .bool yf, .int .i64 yn, .string yw, .slice yla yln ylc, .slice yma ymn ymc] 29)) (hty.new hma) hft hrf hwi (HPX.out _ (HM.out.trans hma))
          have HMA := Lib.hid hma
          clear hT hc hty hma htb hft hrf hwi
          generalize txtB (vText d v.list[j]) = ST at *
          go_wp2_with fail
          refine hI.mono ?_
          clear hI
          rintro e wm ⟨rfl, mm⟩
          have hmq := HMA.out.trans mm
          have own6 := HO.out.new hmq
          have HM6 := Lib.hid (HM.out.trans hmq)
          have hzm := hmq.size
          have HZ : Hid (xb + 1 ≤ (wm.alloc (.cells #[.string ST] 9)).heap.size) := Lib.hid (by have := HB.out; simp; omega)
          have ownA := own6.alloc (.cells #[.string ST] 9)
          have blkA : Blk (wm.alloc (.cells #[.string ST] 9)) wm.heap.size 9 (encL 1 strE ST).toArray := Blk.new _ _ _
          clear own6 mm hmq
          go_wp2_with (at_builtin; refine wpList_push rfl _ _ _ rfl 16 Tryd.underlying61 einfo_string rfl ownA ST wm.heap.size rfl blkA (fun j hj => rfl) (by omega) (by omega) HZ.out ?_; intro g9 cap9 w9 own9 hm9 hat9 hlt9)
          have hmw : New w w9 := Own.push_mod' ownA (HM6.out.alloc _) hm9 (by have := HXB.out; omega)
          have hz9 := hm9.size
          refine ⟨⟨j + 1, cap9, some ⟨g9, 0, none⟩, by omega, by go_num, rfl, Lib.hid ?_, Lib.hid hmw, Lib.hid (Nat.le_trans HZ.out hz9)⟩, by simp [intOf]; omega⟩
          rw [HTK.out]
          exact own9
        · obtain rfl : j = ln := by omega
          have hO := HO.out
          rw [List.take_of_length_le (by have := HLN.out; omega)] at hO
          have hcl := HVL.out
          rw [HVT.out] at hcl
          simp only [List.length_cons, List.length_append, List.length_nil] at hcl
          have hjn := join_own A (xb + 1) j c (v.list.map (vText d)) wq hO (by omega) (by omega)
          have hw := txtB_wrap 91 93 (commas (v.list.map (vText d)))
          have hts := txtB_size (commas (v.list.map (vText d)))
          have HRET : Hid (Ending.returned (.string ((⟨#[91]⟩ : ByteArray) ++ txtB (commas (v.list.map (vText d))) ++ ⟨#[93]⟩)) = Ending.returned (.string (txtB (vText (d + 1) v)))) := Lib.hid (by rw [HVT.out, hw])
          generalize hST : txtB (commas (v.list.map (vText d))) = ST at *
          have hs1 : ¬ 9223372036854775807 < 1 + ST.size := by omega
          have hs2 : ¬ 9223372036854775807 < ((⟨#[91]⟩ : ByteArray) ++ ST).size + 1 := by
            simp only [ByteArray.size_append]
            have : ByteArray.size ⟨#[91]⟩ = 1 := rfl
            omega
          clear hO HO hw
          go_wp2_with fail
          refine hjn.mono ?_
          clear hjn
          rintro e w5 ⟨rfl, m5⟩
          go_wp2_with fail
          go_ret
          exact ⟨Eq.trans rfl HRET.out, HM.out.trans m5⟩
    · have HVT : Hid (vText (d + 1) v = 123 :: (commas (v.mem.map fun p => quoteL p.1.data.toList ++ 58 :: vText d p.2) ++ [125])) := Lib.hid (by rw [HV.out]; rfl)
      go_wp2_with fail
      clear e0 e1 e2 e3 e4 e5 el
      go_loopw [3, 49] (fun t i wr => ∃ (j c : Nat) (A : Option Addr), j ≤ mn ∧ i = .int .i64 j ∧ t = .slice A j c ∧ Hid (Own wr (xb + 1) 9 1 strE A j c (((v.mem.take j).map fun p => quoteL p.1.data.toList ++ 58 :: vText d p.2).map txtB)) ∧ Hid (New w wr) ∧ Hid (xb + 1 ≤ wr.heap.size)) (fun _ i _ => mn - (intOf i).toNat)
      case atStart => exact ⟨0, 0, none, Nat.zero_le _, rfl, rfl, Lib.hid (by simpa using Own.nil), HM1, HZ1⟩
      case round =>
        rename World => wq
        obtain ⟨j, c, A, hj, rfl, rfl, HO, HM, HB⟩ := hrel
        by_cases hlt : j < mn
        · have hjl : j < v.mem.length := by have := HMN.out; omega
          have hT := HT.out.new HM.out
          obtain ⟨g, o, y, hA, hgl, htb, -, hcn, hc, hty⟩ := hT.member hjl
          simp only at hA
          subst hA
          have HTK : Hid (((v.mem.take (j + 1)).map fun p => quoteL p.1.data.toList ++ 58 :: vText d p.2).map txtB = (((v.mem.take j).map fun p => quoteL p.1.data.toList ++ 58 :: vText d p.2).map txtB) ++ [txtB (quoteL v.mem[j].1.data.toList) ++ (⟨#[58]⟩ : ByteArray) ++ txtB (vText d v.mem[j].2)]) := Lib.hid (by rw [List.take_succ_eq_append_getElem hjl, txtB_mid]; simp only [List.map_append, List.map_cons, List.map_nil])
          obtain ⟨hft, hnz⟩ := HF.out.member hjl
          have hrf := HRM.out j hjl
          have hwm := Nat.le_trans (vW_member d v hjl) HW.out
          have hwi : vW d v.mem[j].2 ≤ 200000 := by omega
          have hq1 : (txtB (quoteL v.mem[j].1.data.toList)).size ≤ 200002 := by
            rw [txtB_size]
            have h1 := quoteL_length v.mem[j].1.data.toList
            have h2 : v.mem[j].1.data.toList.length = v.mem[j].1.size := rfl
            omega
          have hq2 : (txtB (vText d v.mem[j].2)).size ≤ 200000 := by
            rw [txtB_size]
            have := vText_length d _ hrf
            omega
          obtain ⟨yk, yf, yn, yw, yla, yln, ylc, yma, ymn, ymc⟩ := y
          have c0 := hc 0 (by omega)
          have c1 := hc 1 (by omega)
          have c2 := hc 2 (by omega)
          have c3 := hc 3 (by omega)
          have c4 := hc 4 (by omega)
          have c5 := hc 5 (by omega)
          simp only [VA.enc, Nat.add_zero, Nat.zero_add] at c0 c1 c2 c3 c4 c5
          have hb1 : (0 : Int) ≤ j := by omega
          have hb2 : (j : Int) < mn := by omega
          have hqt := fun W => quoted_v v.mem[j].1 W hnz
          generalize v.mem[j].1 = nm at *
          have hyx := Blk.new wq 50 #[.string nm, .int .i64 yk, .bool yf, .int .i64 yn, .string yw, .slice yla yln ylc, .slice yma ymn ymc]
          have hma : New wq (wq.alloc (.cells #[.string nm, .int .i64 yk, .bool yf, .int .i64 yn, .string yw, .slice yla yln ylc, .slice yma ymn ymc] 50)) := (Mod.refl _ _).alloc _
          have HIX := Lib.hid (fun W (hW : New (wq.alloc (.cells #[.string nm, .int .i64 yk, .bool yf, .int .i64 yn, .string yw, .slice yla yln ylc, .slice yma ymn ymc] 50)) W) => HIH.out ⟨yk, yf, yn, yw, yla, yln, ylc, yma, ymn, ymc⟩ _ G W (hty.new (hma.trans hW)) hft hrf hwi (HPX.out _ (HM.out.trans (hma.trans hW))))
          clear hT hc hty htb hft hrf hwi hwm
          generalize vText d v.mem[j].2 = tx at *
          have hqe : (⟨(quoteL nm.data.toList).toArray⟩ : ByteArray) = txtB (quoteL nm.data.toList) := rfl
          simp only [hqe] at hqt
          clear hqe
          generalize txtB (quoteL nm.data.toList) = QT at *
          generalize txtB tx = ST at *
          go_upto_region 20 with (fail)
          generalize wq.alloc (.cells #[.string nm, .int .i64 yk, .bool yf, .int .i64 yn, .string yw, .slice yla yln ylc, .slice yma ymn ymc] 50) = wm at *
          have own6 := HO.out.new hma
          have HM6 := Lib.hid (HM.out.trans hma)
          have hzm := hma.size
          have HBM : Hid (xb + 1 ≤ wm.heap.size) := Lib.hid (by have := HB.out; omega)
          generalize wq.heap.size = mb at *
          have HOM := Lib.hid own6
          have HCS : Hid (∀ W, New wm W → W.cell? ⟨mb, 0, none⟩ = some (.string nm) ∧ W.cell? ⟨mb, 1, none⟩ = some (.int .i64 yk) ∧ W.cell? ⟨mb, 2, none⟩ = some (.bool yf) ∧ W.cell? ⟨mb, 3, none⟩ = some (.int .i64 yn) ∧ W.cell? ⟨mb, 4, none⟩ = some (.string yw) ∧ W.cell? ⟨mb, 5, none⟩ = some (.slice yla yln ylc) ∧ W.cell? ⟨mb, 6, none⟩ = some (.slice yma ymn ymc) ∧ mb < W.heap.size) := Lib.hid (fun W hW => by
            have hb := hyx.mod hW (fun e => e)
            exact ⟨(hb.cell 0).trans rfl, (hb.cell 1).trans rfl, (hb.cell 2).trans rfl, (hb.cell 3).trans rfl, (hb.cell 4).trans rfl, (hb.cell 5).trans rfl, (hb.cell 6).trans rfl, hb.lt⟩)
          have HYX := Lib.hid hyx
          clear own6 hma hyx hzm HB HO c0 c1 c2 c3 c4 c5 hcn
          refine wp_region_held_ord (fun W => W.cell? ⟨mb, 0, none⟩ = some (.string nm) ∧ W.cell? ⟨mb, 1, none⟩ = some (.int .i64 yk) ∧ W.cell? ⟨mb, 2, none⟩ = some (.bool yf) ∧ W.cell? ⟨mb, 3, none⟩ = some (.int .i64 yn) ∧ W.cell? ⟨mb, 4, none⟩ = some (.string yw) ∧ W.cell? ⟨mb, 5, none⟩ = some (.slice yla yln ylc) ∧ W.cell? ⟨mb, 6, none⟩ = some (.slice yma ymn ymc) ∧ mb < W.heap.size) [3, 7, 9, 10] [0, 1, 2, 5, 6, 3, 4, 7, 8, 9, 10] (by kernel_rfl) (by kernel_rfl) (fun _ _ d _ _ h => by cases d <;> exact h) ?_ (fun hHeld => ?_)
          · exact HCS.out _ (Mod.refl _ _).drew
          simp only [List.length_cons, List.length_nil, List.drop_succ_cons, List.drop_zero]
          refine heldO_take ?_ (by rfl) (by rfl) (by rfl) (fun w hSw => ?_) ?_
          rotate_left
          · (try dsimp only at hSw); go_simp; any_goals (with_reducible rfl)
          simp only [Act.put, List.setIfInBounds_toArray, List.set_cons_zero, List.set_cons_succ]
          refine heldO_take ?_ (by rfl) (by rfl) (by rfl) (fun w hSw => ?_) ?_
          rotate_left
          · (try dsimp only at hSw); go_simp; any_goals (with_reducible rfl)
          simp only [Act.put, List.setIfInBounds_toArray, List.set_cons_zero, List.set_cons_succ]
          refine heldO_take ?_ (by rfl) (by rfl) (by rfl) (fun w hSw => ?_) ?_
          rotate_left
          · (try dsimp only at hSw); go_simp; any_goals (with_reducible rfl)
          simp only [Act.put, List.setIfInBounds_toArray, List.set_cons_zero, List.set_cons_succ]
          refine heldO_take ?_ (by rfl) (by rfl) (by rfl) (fun w hSw => ?_) ?_
          rotate_left
          · (try dsimp only at hSw); go_simp; any_goals (with_reducible rfl)
          simp only [Act.put, List.setIfInBounds_toArray, List.set_cons_zero, List.set_cons_succ]
          refine heldO_take ?_ (by rfl) (by rfl) (by rfl) (fun w hSw => ?_) ?_
          rotate_left
          · (try dsimp only at hSw); go_simp; any_goals (with_reducible rfl)
          simp only [Act.put, List.setIfInBounds_toArray, List.set_cons_zero, List.set_cons_succ]
          refine heldO_step (by rfl) (by rfl) (by rfl) (fun K hK => ?_)
          go_simp
          refine (hqt _).mono ?_
          clear hqt
          rintro e w3 ⟨rfl, hm3⟩
          have m3 : New wm w3 := (Mod.refl (fun _ => False) wm).drew.trans hm3
          clear hm3
          go_wp2_with fail
          refine hK.out _ _ (HCS.out _ m3) (fun hHeld => ?_)
          clear hK K
          try simp only [Act.put, List.setIfInBounds_toArray, List.set_cons_zero, List.set_cons_succ]
          have hs1 : ¬ 9223372036854775807 < QT.size + 1 := by omega
          have hs2 : ¬ 9223372036854775807 < (QT ++ (⟨#[58]⟩ : ByteArray)).size + ST.size := by
            simp only [ByteArray.size_append]
            have : ByteArray.size ⟨#[58]⟩ = 1 := rfl
            omega
          have hs3 : ¬ 9223372036854775807 < QT.size + 1 + ST.size := by omega
          refine heldO_take ?_ (by rfl) (by rfl) (by rfl) (fun w hSw => ?_) ?_
          rotate_left
          · (try dsimp only at hSw); go_simp; any_goals (with_reducible rfl)
          simp only [Act.put, List.setIfInBounds_toArray, List.set_cons_zero, List.set_cons_succ]
          refine heldO_step (by rfl) (by rfl) (by rfl) (fun K hK => ?_)
          go_simp
          refine (HIX.out _ m3).mono ?_
          rintro e w4 ⟨rfl, hm4⟩
          have m4 := m3.trans hm4
          clear hm4
          go_wp2_with fail
          refine hK.out _ _ (HCS.out _ m4) (fun hHeld => ?_)
          clear hK K
          try simp only [Act.put, List.setIfInBounds_toArray, List.set_cons_zero, List.set_cons_succ]
          refine heldO_take ?_ (by rfl) (by rfl) (by rfl) (fun w hSw => ?_) ?_
          rotate_left
          · (try dsimp only at hSw); go_simp; any_goals (with_reducible rfl)
          simp only [Act.put, List.setIfInBounds_toArray, List.set_cons_zero, List.set_cons_succ]
          generalize hJ : QT ++ (⟨#[58]⟩ : ByteArray) ++ ST = J at *
          clear hs1 hs2 hs3
          refine heldO_step (by rfl) (by rfl) (by rfl) (fun K hK => ?_)
          go_simp
          have m5 := m4.alloc (.cells #[.string J] 9)
          refine hK.out _ _ (HCS.out _ m5) (fun hHeld => ?_)
          clear hK K
          try simp only [Act.put, List.setIfInBounds_toArray, List.set_cons_zero, List.set_cons_succ]
          have HZ : Hid (xb + 1 ≤ (w4.alloc (.cells #[.string J] 9)).heap.size) := Lib.hid (Nat.le_trans HBM.out m5.size)
          have ownA := HOM.out.new m5
          have blkA : Blk (w4.alloc (.cells #[.string J] 9)) w4.heap.size 9 (encL 1 strE J).toArray := Blk.new _ _ _
          refine heldO_step (by rfl) (by rfl) (by rfl) (fun K hK => ?_)
          refine wp_push (.tmp 53) (.tmp 62) _ rfl 16 Tryd.underlying61 einfo_string rfl (by exact ownA) J w4.heap.size rfl (by exact blkA) (fun j hj => rfl) (by omega) (by omega) HZ.out ?_
          intro g9 cap9 w9 own9 hm9 hat9 hlt9
          have hmw : New w w9 := Own.push_mod' ownA (HM6.out.trans m5) hm9 (by have := HXB.out; omega)
          have hz9 := hm9.size
          have hby := HYX.out.mod m5 (fun e => e)
          have hby9 := hby.mod hm9 (fun e => by
            obtain ⟨_, _, ht⟩ : ∃ a b, TB (w4.alloc (.cells #[.string J] 9)) mb 9 := by
              rcases ownA.blk with ⟨h1, _⟩ | ⟨g', h1, h2, ht⟩
              · rw [h1] at e; cases e
              · rw [h1] at e; injection e with e; simp only at e; subst e; exact ⟨0, 0, ht⟩
            exact hby.tb.ne ht (by decide) rfl)
          refine hK.out _ _ ⟨(hby9.cell 0).trans rfl, (hby9.cell 1).trans rfl, (hby9.cell 2).trans rfl, (hby9.cell 3).trans rfl, (hby9.cell 4).trans rfl, (hby9.cell 5).trans rfl, (hby9.cell 6).trans rfl, hby9.lt⟩ (fun hHeld => ?_)
          clear hK K hby hby9 hHeld
          try simp only [Act.put, List.setIfInBounds_toArray, List.set_cons_zero, List.set_cons_succ]
          refine heldO_nil ?_
          have HOW := Lib.hid own9
          have HMW := Lib.hid hmw
          have HZW := Lib.hid (Nat.le_trans HZ.out hz9)
          clear own9 hmw hm9 hat9 hlt9 hz9 ownA blkA m3 m4 m5
          go_wp2_with fail
          go_roundw
          case rel => exact ⟨j + 1, cap9, some ⟨g9, 0, none⟩, by omega, by go_num, rfl, Lib.hid (by rw [HTK.out]; exact HOW.out), HMW, HZW⟩
          case measure => simp [intOf]; omega
        · obtain rfl : j = mn := by omega
          have hO := HO.out
          rw [List.take_of_length_le (by have := HMN.out; omega)] at hO
          have hcl := HVL.out
          rw [HVT.out] at hcl
          simp only [List.length_cons, List.length_append, List.length_nil] at hcl
          have hjn := join_own A (xb + 1) j c (v.mem.map fun p => quoteL p.1.data.toList ++ 58 :: vText d p.2) wq hO (by omega) (by omega)
          have hw := txtB_wrap 123 125 (commas (v.mem.map fun p => quoteL p.1.data.toList ++ 58 :: vText d p.2))
          have hts := txtB_size (commas (v.mem.map fun p => quoteL p.1.data.toList ++ 58 :: vText d p.2))
          have HRET : Hid (Ending.returned (.string ((⟨#[123]⟩ : ByteArray) ++ txtB (commas (v.mem.map fun p => quoteL p.1.data.toList ++ 58 :: vText d p.2)) ++ ⟨#[125]⟩)) = Ending.returned (.string (txtB (vText (d + 1) v)))) := Lib.hid (by rw [HVT.out, hw])
          generalize hST : txtB (commas (v.mem.map fun p => quoteL p.1.data.toList ++ 58 :: vText d p.2)) = ST at *
          have hs1 : ¬ 9223372036854775807 < 1 + ST.size := by omega
          have hs2 : ¬ 9223372036854775807 < ((⟨#[123]⟩ : ByteArray) ++ ST).size + 1 := by
            simp only [ByteArray.size_append]
            have : ByteArray.size ⟨#[123]⟩ = 1 := rfl
            omega
          clear hO HO hw
          go_wp2_with fail
          refine hjn.mono ?_
          clear hjn
          rintro e w5 ⟨rfl, m5⟩
          go_wp2_with fail
          go_ret
          exact ⟨Eq.trans rfl HRET.out, HM.out.trans m5⟩

end Go.Proofs.YtjnbjianfbfdaaaDoor
