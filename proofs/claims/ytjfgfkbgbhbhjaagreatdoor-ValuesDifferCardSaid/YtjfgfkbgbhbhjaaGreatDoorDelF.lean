/- The reference: slices.DeleteFunc of members, over a function value that asks for a name. Conditions: at most 100000 members. -/
import Derived.Test.YtjfgfkbgbhbhjaaGreatDoorChgMemGrp
namespace Go.Proofs.YtjfgfkbgbhbhjaaGreatDoor
open Go.RowKit
set_option linter.unusedVariables false
set_option linter.unusedSimpArgs false

/-- the place of the first one among the first n, or -1 -/
def firstIx (b : Nat → Bool) : Nat → Int
  | 0 => -1
  | n + 1 => if firstIx b n = -1 then (if b n then n else -1) else firstIx b n
theorem firstIx_none {b : Nat → Bool} {n : Nat} (h : ∀ i, i < n → b i = false) : firstIx b n = -1 := by
  induction n with
  | zero => rfl
  | succ n ih => rw [firstIx, ih (fun i hi => h i (by omega)), h n (by omega)]; simp
theorem firstIx_hit {b : Nat → Bool} {n k : Nat} (hk : k < n) (ht : b k = true) (h : ∀ i, i < k → b i = false) : firstIx b n = k := by
  induction n with
  | zero => omega
  | succ n ih =>
    rw [firstIx]
    by_cases e : k = n
    · subst e; rw [firstIx_none h, ht]; simp
    · rw [ih (by omega)]; rw [if_neg (by omega)]
theorem firstIx_cases (b : Nat → Bool) (n : Nat) : (firstIx b n = -1 ∧ ∀ i, i < n → b i = false) ∨ ∃ k, k < n ∧ firstIx b n = k ∧ b k = true ∧ ∀ i, i < k → b i = false := by
  induction n with
  | zero => exact .inl ⟨rfl, fun i hi => absurd hi (by omega)⟩
  | succ n ih =>
    rcases ih with ⟨h1, h2⟩ | ⟨k, hk, h1, h2, h3⟩
    · cases hb : b n
      · have h4 : ∀ i, i < n + 1 → b i = false := fun i hi => by
          by_cases e : i = n
          · subst e; exact hb
          · exact h2 i (by omega)
        exact .inl ⟨firstIx_none h4, h4⟩
      · exact .inr ⟨n, by omega, firstIx_hit (by omega) hb h2, hb, h2⟩
    · exact .inr ⟨k, by omega, firstIx_hit (by omega) h2 h3, h2, h3⟩

abbrev isN (s : ByteArray) (m : MA) : Bool := decide (m.name = s)
/-- a closure that asks whether a member bears the name, whatever the row A holds meanwhile -/
def NamePred (w : World) (A : Option Addr) (F : Nat) (cp : Value) (s : ByteArray) : Prop :=
  ∀ (m : MA) wr, Mod (fun k => blkOf A = some k) w wr → Calls Tryz.prog F #[m.val, cp] wr fun e w' => e = .returned (.bool (isN s m)) ∧ New wr w'
theorem NamePred.mod {w w' : World} {A : Option Addr} {F : Nat} {cp : Value} {s : ByteArray} (h : NamePred w A F cp s) (hm : Mod (fun k => blkOf A = some k) w w') : NamePred w' A F cp s := fun m wr hw => h m wr (hm.trans hw)

set_option maxHeartbeats 1000000 in
theorem indexFunc_ma (F : Nat) (cp : Value) (eg : ∀ args w, (callFunc F args).run Tryz.prog w = .ok (.enter F args) w) (w : World) (A : Option Addr) (n c : Nat) (ms : List MA) (s : ByteArray) (hs : Sl w 54 7 MA.enc A n ms) (hF : NamePred w A F cp s) (hn : n ≤ 100000) :
    Calls Tryz.prog 74 #[.slice A n c, .func (.func F) #[] #[cp]] w fun e w' => e = .returned (.int .i64 (firstIx (fun i => (ms[i]?).any (isN s)) n)) ∧ New w w' := by
  have HS := Lib.hid hs
  have HF := Lib.hid hF
  have HL := Lib.hid hs.1
  obtain ⟨b, hb⟩ : ∃ b : Nat → Bool, b = (fun i => (ms[i]?).any (isN s)) := ⟨_, rfl⟩
  rw [← hb]
  have HB := Lib.hid hb
  clear hs hF hb
  go_enter Tryz.func74, Tryz.ntmps74
  go_wp2_with fail
  go_loopw [5, 8] (fun _ i wr => ∃ k : Nat, k ≤ n ∧ i = .int .i64 k ∧ Hid (New w wr) ∧ Hid (∀ j, j < k → b j = false)) (fun _ i _ => n - (intOf i).toNat)
  case atStart => exact ⟨0, Nat.zero_le _, rfl, Lib.hid (Mod.refl _ _), Lib.hid (fun j hj => absurd hj (by omega))⟩
  case round =>
    rename World => wr
    obtain ⟨k, hk, rfl, HM, HA⟩ := hrel
    by_cases hlt : k < n
    · have hkx : k < ms.length := by have := HL.out; omega
      obtain ⟨g, o, hA, htb, hc0⟩ := (HS.out.new HM.out).2 (by omega)
      have hgl := htb.lt
      have hc := fun q (hq : q < 7) => hc0 k hkx q hq
      have hbk : b k = isN s ms[k] := by rw [HB.out]; simp [hkx]
      have HBK := Lib.hid hbk
      clear hc0 htb hbk
      have hcall := HF.out ms[k] wr (HM.out.mono (fun _ _ e => e.elim))
      generalize ms[k] = y at *
      subst hA
      have hb1 : (0 : Int) ≤ k := by omega
      have hb2 : (k : Int) < n := by omega
      obtain ⟨yn0, yk, yf, yn, yw, yla, yln, ylc, yma, ymn, ymc⟩ := y
      have b0 := hc 0 (by omega)
      have b1 := hc 1 (by omega)
      have b2 := hc 2 (by omega)
      have b3 := hc 3 (by omega)
      have b4 := hc 4 (by omega)
      have b5 := hc 5 (by omega)
      have b6 := hc 6 (by omega)
      simp only [MA.enc, VA.enc, Nat.add_zero, Nat.zero_add] at b0 b1 b2 b3 b4 b5 b6
      clear hc
      try simp only [MA.val] at hcall
      try simp only at HBK
      generalize isN s ⟨yn0, ⟨yk, yf, yn, yw, yla, yln, ylc, yma, ymn, ymc⟩⟩ = r at *
      go_wp2_with fail
      refine hcall.mono ?_
      clear hcall
      rintro e w5 ⟨rfl, m5⟩
      have HM5 := Lib.hid (HM.out.trans m5)
      clear m5
      cases r with
      | true =>
        go_wp2_with fail
        go_ret
        exact ⟨ret_int (firstIx_hit hlt HBK.out HA.out).symm, HM5.out⟩
      | false =>
        go_wp2_with fail
        go_roundw
        case rel => exact ⟨k + 1, by omega, by go_num, HM5, Lib.hid (fun j hj => by
          by_cases e : j = k
          · subst e; exact HBK.out
          · exact HA.out j (by omega))⟩
        case measure => simp [intOf]; omega
    · obtain rfl : k = n := by omega
      go_wp2_with fail
      go_ret
      exact ⟨ret_int (firstIx_none HA.out).symm, HM.out⟩

theorem take_filter_snoc {α : Type} {ob : List α} {p : α → Bool} {j : Nat} (hj : j < ob.length) : (ob.take (j + 1)).filter (fun x => !p x) = (ob.take j).filter (fun x => !p x) ++ (if p ob[j] then [] else [ob[j]]) := by
  rw [List.take_succ_eq_append_getElem hj, List.filter_append]
  cases h : p ob[j] <;> simp [h]
theorem zero_ma' (w : World) : (zeroValue 54).run Tryz.prog w = .ok (.agg #[.string ⟨#[]⟩, .int .i64 0, .bool false, .int .i64 0, .string ⟨#[]⟩, .slice none 0 0, .slice none 0 0]) w := by kernel_rfl
def RDelM (w : World) (B : Nat) (A : Option Addr) (c : Nat) (ys : List MA) (e : Ending) (w' : World) : Prop :=
  e = .returned (.slice A ys.length c) ∧ Own w' B 54 7 MA.enc A ys.length c ys ∧ Mod (fun k => blkOf A = some k) w w'
set_option maxRecDepth 100000 in
set_option maxHeartbeats 1000000 in
theorem deleteFunc_ma (F : Nat) (cp : Value) (eg : ∀ args w, (callFunc F args).run Tryz.prog w = .ok (.enter F args) w) (w : World) (B : Nat) (A : Option Addr) (n c : Nat) (ms : List MA) (s : ByteArray) (hs : Own w B 54 7 MA.enc A n c ms) (hF : NamePred w A F cp s) (hn : n ≤ 100000) :
    Calls Tryz.prog 48 #[.slice A n c, .func (.func F) #[] #[cp]] w (RDelM w B A c (ms.filter fun m => !isN s m)) := by
  have hlen := hs.1
  have hif := indexFunc_ma F cp eg w A n c ms s hs.sl hF hn
  obtain ⟨b, hb⟩ : ∃ b : Nat → Bool, b = (fun i => (ms[i]?).any (isN s)) := ⟨_, rfl⟩
  rw [← hb] at hif
  have hbi : ∀ i (h : i < ms.length), b i = isN s ms[i] := fun i h => by rw [hb]; simp [h]
  rcases firstIx_cases b n with ⟨hfx, hall⟩ | ⟨i0, hi0, hfx, hp0, hmin⟩
  · rw [hfx] at hif
    have hfil : ms.filter (fun m => !isN s m) = ms := by
      rw [List.filter_eq_self]
      intro a ha
      obtain ⟨i, hi, rfl⟩ := List.getElem_of_mem ha
      have := hall i (by omega)
      rw [hbi i hi] at this
      rw [this]; rfl
    rw [hfil]
    have HS := Lib.hid hs
    have HL := Lib.hid hlen
    clear hs hF hall hfil hfx hlen hbi hb
    go_enter Tryz.func48, Tryz.ntmps48
    go_wp2_with fail
    refine hif.mono ?_
    clear hif
    rintro e w5 ⟨rfl, m5⟩
    go_wp2_with fail
    go_ret
    exact ⟨by rw [HL.out]; rfl, by rw [HL.out]; exact HS.out.new m5, m5.mono (fun _ _ e => e.elim)⟩
  · rw [hfx] at hif
    have hi0' : i0 < ms.length := by omega
    have hp0' : isN s ms[i0] = true := by rw [← hbi i0 hi0']; exact hp0
    have hpre : (ms.take i0).filter (fun m => !isN s m) = ms.take i0 := by
      rw [List.filter_eq_self]
      intro a ha
      obtain ⟨i, hi, rfl⟩ := List.getElem_of_mem ha
      have hi' : i < i0 := by simp at hi; omega
      have := hmin i hi'
      rw [hbi i (by omega)] at this
      simp only [List.getElem_take]
      rw [this]; rfl
    have hne : ((i0 : Int) == -1) = false := beq_eq_false_iff_ne.2 (by omega)
    obtain ⟨g, hA, hBg, htb0, hnc, hcm⟩ := hs.form (by omega)
    subst hA
    unfold maxLen at hcm
    have HS := Lib.hid hs
    have HF := Lib.hid hF
    have HL := Lib.hid hlen
    have HP := Lib.hid hp0'
    have HPRE := Lib.hid hpre
    clear hs hF hmin hfx hlen hp0 hp0' hpre hbi hb htb0
    go_enter Tryz.func48, Tryz.ntmps48
    go_wp2_with fail
    refine hif.mono ?_
    clear hif
    rintro e w5 ⟨rfl, m5⟩
    have HM5 := Lib.hid m5
    clear m5
    go_wp2_with fail
    go_loopw [5, 6] (fun si sj wr => ∃ (i j : Nat) (L : List MA), i < j ∧ j ≤ n ∧ si = .int .i64 i ∧ sj = .int .i64 j ∧ Hid (Own wr B 54 7 MA.enc (some ⟨g, 0, none⟩) n c L) ∧ Hid (Only g w wr) ∧ Hid (L.take i = (ms.take j).filter (fun x => !isN s x)) ∧ Hid (L.drop j = ms.drop j) ∧ Hid (i0 < j) ∧ Hid (((ms.take j).filter (fun x => !isN s x)).length = i)) (fun _ sj _ => n - (intOf sj).toNat)
    case atStart =>
      have e1 : (ms.take (i0 + 1)).filter (fun x => !isN s x) = ms.take i0 := by rw [take_filter_snoc hi0', HP.out, HPRE.out]; simp
      refine ⟨i0, i0 + 1, ms, by omega, by omega, rfl, by go_num, Lib.hid (HS.out.new HM5.out), Lib.hid (HM5.out.mono (fun _ _ e => e.elim)), Lib.hid ?_, Lib.hid rfl, Lib.hid (by omega), Lib.hid ?_⟩
      · rw [e1]
      · rw [e1]; simp; omega
    case round =>
      rename World => wr
      obtain ⟨i, j, L, hij, hj, rfl, rfl, HOWN, HMOD, HT, HD, H0, HLN⟩ := hrel
      have hLl := HOWN.out.1
      by_cases hlt : j < n
      · have hjo : j < ms.length := by rw [HL.out]; exact hlt
        have hLj : L[j]'(by omega) = ms[j] := by
          have := congrArg (fun l => l[0]?) HD.out
          simpa [List.getElem?_drop, List.getElem?_eq_getElem hjo, List.getElem?_eq_getElem (show j < L.length by omega)] using this
        obtain ⟨g', o', hA, htb, hc0⟩ := HOWN.out.sl.2 (by omega)
        injection hA with hA
        injection hA with hA1 hA2
        subst hA1 hA2
        have hgl := htb.lt
        have hc : ∀ q, q < 7 → wr.cell? ⟨g, 0 + j * 7 + q, none⟩ = some (MA.enc ms[j] q) := fun q hq => by rw [hc0 j (by omega) q hq]; exact congrArg (fun z => some (MA.enc z q)) hLj
        have hcall := HF.out ms[j] (wr.alloc (.cells #[.string ms[j].name, .int .i64 ms[j].v.kind, .bool ms[j].v.flag, .int .i64 ms[j].v.num, .string ms[j].v.words, .slice ms[j].v.la ms[j].v.ln ms[j].v.lc, .slice ms[j].v.ma ms[j].v.mn ms[j].v.mc] 54)) ((HMOD.out.mono (fun k _ e => by subst e; rfl)).trans ((Mod.refl _ _).alloc _))
        have HSN := Lib.hid (take_filter_snoc (p := isN s) hjo)
        have hb1 : (0 : Int) ≤ j := by omega
        have hb2 : (j : Int) < n := by omega
        have hb3 : (0 : Int) ≤ i := by omega
        have hb4 : (i : Int) < n := by omega
        have HDD : Hid (L.drop (j + 1) = ms.drop (j + 1)) := Lib.hid (by
          have := congrArg (List.drop 1) HD.out
          simpa [List.drop_drop] using this)
        have HLL := Lib.hid hLl
        have m6 : New wr (wr.alloc (.cells #[.string ms[j].name, .int .i64 ms[j].v.kind, .bool ms[j].v.flag, .int .i64 ms[j].v.num, .string ms[j].v.words, .slice ms[j].v.la ms[j].v.ln ms[j].v.lc, .slice ms[j].v.ma ms[j].v.mn ms[j].v.mc] 54)) := (Mod.refl _ _).alloc _
        have h6 := Blk.new wr 54 #[.string ms[j].name, .int .i64 ms[j].v.kind, .bool ms[j].v.flag, .int .i64 ms[j].v.num, .string ms[j].v.words, .slice ms[j].v.la ms[j].v.ln ms[j].v.lc, .slice ms[j].v.ma ms[j].v.mn ms[j].v.mc]
        have hiL : i < L.length := by omega
        clear hLj hLl hc0 htb
        generalize ms[j] = y at *
        obtain ⟨yn0, yk, yf, yn, yw, yla, yln, ylc, yma, ymn, ymc⟩ := y
        have b0 := hc 0 (by omega)
        have b1 := hc 1 (by omega)
        have b2 := hc 2 (by omega)
        have b3 := hc 3 (by omega)
        have b4 := hc 4 (by omega)
        have b5 := hc 5 (by omega)
        have b6 := hc 6 (by omega)
        simp only [MA.enc, VA.enc, Nat.add_zero, Nat.zero_add] at b0 b1 b2 b3 b4 b5 b6
        clear hc
        try simp only at m6 h6 hcall
        try simp only [MA.val] at hcall
        go_upto_region 8 with (fail)
        have HM6 := Lib.hid m6
        have H6 := Lib.hid h6
        generalize wr.alloc (.cells #[.string yn0, .int .i64 yk, .bool yf, .int .i64 yn, .string yw, .slice yla yln ylc, .slice yma ymn ymc] 54) = w6 at *
        have d0 := h6.cell 0
        have d1 := h6.cell 1
        have d2 := h6.cell 2
        have d3 := h6.cell 3
        have d4 := h6.cell 4
        have d5 := h6.cell 5
        have d6 := h6.cell 6
        have dl := h6.lt
        simp only [List.getElem?_toArray, List.getElem?_cons_zero, List.getElem?_cons_succ] at d0 d1 d2 d3 d4 d5 d6
        clear b0 b1 b2 b3 b4 b5 b6 m6 h6 hgl
        have HYY : Hid (isN s ⟨yn0, ⟨yk, yf, yn, yw, yla, yln, ylc, yma, ymn, ymc⟩⟩ = isN s ⟨yn0, ⟨yk, yf, yn, yw, yla, yln, ylc, yma, ymn, ymc⟩⟩) := Lib.hid rfl
        generalize isN s ⟨yn0, ⟨yk, yf, yn, yw, yla, yln, ylc, yma, ymn, ymc⟩⟩ = r at hcall HSN
        go_wp2_with fail
        refine hcall.mono ?_
        clear hcall
        rintro e w7 ⟨rfl, m7⟩
        have own7 := (HOWN.out.new HM6.out).new m7
        have H7 := Lib.hid (H6.out.mod m7 (fun e => e))
        have HMOD7 := Lib.hid ((HMOD.out.trans (HM6.out.mono (fun _ _ e => e.elim))).trans (m7.mono (fun _ _ e => e.elim)))
        clear d0 d1 d2 d3 d4 d5 d6 dl m7
        cases r with
        | true =>
          have HOWN7 := Lib.hid own7
          clear own7
          have e2 : (ms.take (j + 1)).filter (fun x => !isN s x) = (ms.take j).filter (fun x => !isN s x) := by rw [HSN.out]; simp
          have HE2 := Lib.hid e2
          clear e2
          go_wp2_with fail
          go_roundw
          case rel => exact ⟨i, j + 1, L, by omega, by omega, rfl, by go_num, HOWN7, HMOD7, Lib.hid (by rw [HE2.out]; exact HT.out), HDD, Lib.hid (by have := H0.out; omega), Lib.hid (by rw [HE2.out]; exact HLN.out)⟩
          case measure => simp [intOf]; omega
        | false =>
          have e2 : (ms.take (j + 1)).filter (fun x => !isN s x) = (ms.take j).filter (fun x => !isN s x) ++ [⟨yn0, ⟨yk, yf, yn, yw, yla, yln, ylc, yma, ymn, ymc⟩⟩] := by rw [HSN.out]; simp
          have HE2 := Lib.hid e2
          clear e2
          obtain ⟨g', o', hA, htb, hc0⟩ := own7.sl.2 (by omega)
          injection hA with hA
          injection hA with hA1 hA2
          subst hA1 hA2
          have hc := fun q (hq : q < 7) => hc0 i hiL q hq
          have gf := own7.frozen
          have gl := htb.lt
          have own8 := own7.set7 hiL (⟨yn0, ⟨yk, yf, yn, yw, yla, yln, ylc, yma, ymn, ymc⟩⟩ : MA)
          simp only [MA.enc, VA.enc] at own8
          have HOWN8 := Lib.hid own8
          have o8 : Only g w7 (((((((w7.setCell ⟨g, i * 7, none⟩ (.string yn0)).setCell ⟨g, i * 7 + 1, none⟩ (.int .i64 yk)).setCell ⟨g, i * 7 + 2, none⟩ (.bool yf)).setCell ⟨g, i * 7 + 3, none⟩ (.int .i64 yn)).setCell ⟨g, i * 7 + 4, none⟩ (.string yw)).setCell ⟨g, i * 7 + 5, none⟩ (.slice yla yln ylc)).setCell ⟨g, i * 7 + 6, none⟩ (.slice yma ymn ymc)) := ((((((Only.set (Mod.refl _ _) _ _).set _ _).set _ _).set _ _).set _ _).set _ _).set _ _
          have HO8 := Lib.hid o8
          generalize L[i]'(by omega) = z at *
          obtain ⟨zn0, zk, zf, zn, zw, zla, zln, zlc, zma, zmn, zmc⟩ := z
          have b0 := hc 0 (by omega)
          have b1 := hc 1 (by omega)
          have b2 := hc 2 (by omega)
          have b3 := hc 3 (by omega)
          have b4 := hc 4 (by omega)
          have b5 := hc 5 (by omega)
          have b6 := hc 6 (by omega)
          simp only [MA.enc, VA.enc, Nat.add_zero, Nat.zero_add] at b0 b1 b2 b3 b4 b5 b6
          clear hc hc0 htb own7 own8 o8
          have d0 := H7.out.cell 0
          have d1 := H7.out.cell 1
          have d2 := H7.out.cell 2
          have d3 := H7.out.cell 3
          have d4 := H7.out.cell 4
          have d5 := H7.out.cell 5
          have d6 := H7.out.cell 6
          have dl := H7.out.lt
          simp only [List.getElem?_toArray, List.getElem?_cons_zero, List.getElem?_cons_succ] at d0 d1 d2 d3 d4 d5 d6
          go_wp2_with fail
          go_roundw
          case rel =>
            have hll := HLL.out
            refine ⟨i + 1, j + 1, L.set i ⟨yn0, ⟨yk, yf, yn, yw, yla, yln, ylc, yma, ymn, ymc⟩⟩, by omega, by omega, by go_num, by go_num, HOWN8, Lib.hid (HMOD7.out.trans HO8.out), Lib.hid ?_, Lib.hid ?_, Lib.hid (by have := H0.out; omega), Lib.hid ?_⟩
            · rw [HE2.out, ← HT.out, List.take_succ_eq_append_getElem (by simp; omega), List.getElem_set_self, List.take_set_of_le (by omega)]
            · rw [List.drop_set_of_lt (by omega)]; exact HDD.out
            · rw [HE2.out, List.length_append, HLN.out]; rfl
          case measure => simp [intOf]; omega
      · obtain rfl : j = n := by omega
        have hfull : ms.take j = ms := List.take_of_length_le (by rw [HL.out]; omega)
        obtain ⟨w2, hcl, hown2, hon2, hz2⟩ := HOWN.out.clear_tail (P := Tryz.prog) (ts := 27) Tryz.underlying27 (zero_ma' wr) (by simp [Value.cells]; repeat' (first | rfl | constructor)) rfl (by omega) i (i * 7) (c - i) (by omega) (by omega)
        have hb3 : (0 : Int) ≤ i := by omega
        have hb4 : (i : Int) < j := by omega
        have hb5 : i < c := by omega
        have HO2 := Lib.hid hown2
        have HON2 := Lib.hid hon2
        have HFU := Lib.hid hfull
        clear hown2 hz2 hfull hLl hon2
        go_wp2_with fail
        go_ret
        have e3 := HLN.out
        have e4 := HT.out
        rw [HFU.out] at e3 e4
        refine ⟨by rw [e3]; rfl, ?_, (HMOD.out.trans HON2.out).mono (fun k _ e => by subst e; rfl)⟩
        rw [e3, ← e4]
        exact HO2.out

end Go.Proofs.YtjfgfkbgbhbhjaaGreatDoor
