/- The program's player of visits: looking for an order, striking it out. Conditions: orders with modest numbers. -/
import Derived.Test.YtinnckbffblecaaGreatSpread3
import Derived.Test.YtinnckbffblecaaGreatRow
import Derived.LaidEqlPtr
namespace Go.Proofs.YtinnckbffblecaaGreat
open Go.RowKit Go.MapKept
set_option linter.unusedVariables false
set_option linter.unusedSimpArgs false

/-- the place of the first one among the first n, or -1 -/
def firstIx (b : Nat → Bool) : Nat → Int
  | 0 => -1
  | n + 1 => if firstIx b n = -1 then (if b n then n else -1) else firstIx b n
theorem firstIx_none {b : Nat → Bool} {n : Nat} (h : ∀ i, i < n → b i = false) : firstIx b n = -1 := by
  induction n with
  | zero => rfl
  | succ n ih => rw [firstIx, ih (fun i hi => h i (by omega)), h n (by omega)]; simp
theorem firstIx_hit {b : Nat → Bool} {n k : Nat} (hk : k < n) (ht : b k = true) (h : ∀ i, i < k → b i = false) : firstIx b n = k := by
  induction n with
  | zero => omega
  | succ n ih =>
    rw [firstIx]
    by_cases e : k = n
    · subst e; rw [firstIx_none h, ht]; simp
    · rw [ih (by omega)]; rw [if_neg (by omega)]

theorem firstIx_cases (b : Nat → Bool) (n : Nat) : (firstIx b n = -1 ∧ ∀ i, i < n → b i = false) ∨ ∃ k, k < n ∧ firstIx b n = k ∧ b k = true ∧ ∀ i, i < k → b i = false := by
  induction n with
  | zero => exact .inl ⟨rfl, fun i hi => absurd hi (by omega)⟩
  | succ n ih =>
    rcases ih with ⟨h1, h2⟩ | ⟨k, hk, h1, h2, h3⟩
    · cases hb : b n
      · have h4 : ∀ i, i < n + 1 → b i = false := fun i hi => by
          by_cases e : i = n
          · subst e; exact hb
          · exact h2 i (by omega)
        exact .inl ⟨firstIx_none h4, h4⟩
      · exact .inr ⟨n, by omega, firstIx_hit (by omega) hb h2, hb, h2⟩
    · exact .inr ⟨k, by omega, firstIx_hit (by omega) h2 h3, h2, h3⟩

/-- a closure that answers as p does, whatever has been drawn -/
def OrdPred (w : World) (F : Nat) (cp : Value) (ob : List Nat) (b : Nat → Bool) : Prop :=
  ∀ i (h : i < ob.length) (q : Nat), Calls Tryz.prog F #[.pointer (some ⟨ob[i], 0, none⟩), cp] (w.drewN q) fun e w' => e = .returned (.bool (b i)) ∧ ∃ q', w' = (w.drewN q).drewN q'

set_option maxHeartbeats 1000000 in
theorem indexFunc_ord (F : Nat) (cp : Value) (eg : ∀ args w, (callFunc F args).run Tryz.prog w = .ok (.enter F args) w) (w : World) (A : Option Addr) (n c : Nat) (ob : List Nat) (hs : Sl w 128 1 ptrEnc A n ob) (b : Nat → Bool) (hF : OrdPred w F cp ob b) (hn : n ≤ 1000000) :
    Calls Tryz.prog 93 #[.slice A n c, .func (.func F) #[] #[cp]] w fun e w' => e = .returned (.int .i64 (firstIx b n)) ∧ ∃ q, w' = w.drewN q := by
  have hlen := hs.1
  have HS := Lib.hid hs
  have HF := Lib.hid hF
  clear hs hF
  go_enter Tryz.func93, Tryz.ntmps93
  go_wp2_with fail
  go_loopw [5, 8] (fun _ i wr => ∃ k q : Nat, k ≤ n ∧ i = .int .i64 k ∧ wr = w.drewN q ∧ Hid (∀ j, j < k → b j = false)) (fun _ i _ => n - (intOf i).toNat)
  case atStart => exact ⟨0, 0, Nat.zero_le _, rfl, rfl, Lib.hid (fun j hj => absurd hj (by omega))⟩
  case round =>
    obtain ⟨k, q, hk, rfl, rfl, HA⟩ := hrel
    by_cases hlt : k < n
    · obtain ⟨g, o, rfl, hg, hc⟩ := HS.out.2 (by omega)
      have ck : w.cell? ⟨g, o + k, none⟩ = some (.pointer (some ⟨ob[k]'(by omega), 0, none⟩)) := by simpa using hc k (by omega) 0 (by omega)
      have hcall := HF.out k (by omega) q
      have hb1 : (0 : Int) ≤ k := by omega
      have hb2 : (k : Int) < n := by omega
      clear hc
      generalize hob : ob[k]'(by omega) = x at *
      clear hob
      cases hq : b k with
      | true =>
        rw [hq] at hcall
        have HQ := Lib.hid hq
        clear hq
        go_wp2_with (refine hcall.mono ?_; clear hcall; rintro e w' ⟨rfl, q', rfl⟩)
        go_ret
        exact ⟨ret_int (firstIx_hit hlt HQ.out HA.out).symm, _, rfl⟩
      | false =>
        rw [hq] at hcall
        have HQ := Lib.hid hq
        clear hq
        go_wp2_with (refine hcall.mono ?_; clear hcall; rintro e w' ⟨rfl, q', rfl⟩)
        refine ⟨⟨k + 1, q + q', by omega, by go_num, rfl, Lib.hid (fun j hj => ?_)⟩, by simp [intOf]; omega⟩
        by_cases e : j = k
        · subst e; exact HQ.out
        · exact HA.out j (by omega)
    · obtain rfl : k = n := by omega
      go_wp2_with fail
      go_ret
      exact ⟨ret_int (firstIx_none HA.out).symm, _, rfl⟩

set_option maxHeartbeats 1000000 in
theorem containsFunc_ord (F : Nat) (cp : Value) (eg : ∀ args w, (callFunc F args).run Tryz.prog w = .ok (.enter F args) w) (w : World) (A : Option Addr) (n c : Nat) (ob : List Nat) (hs : Sl w 128 1 ptrEnc A n ob) (b : Nat → Bool) (hF : OrdPred w F cp ob b) (hn : n ≤ 1000000) :
    Calls Tryz.prog 76 #[.slice A n c, .func (.func F) #[] #[cp]] w fun e w' => e = .returned (.bool (decide (0 ≤ firstIx b n))) ∧ ∃ q, w' = w.drewN q := by
  have hif := indexFunc_ord F cp eg w A n c ob hs b hF hn
  clear hs hF eg
  generalize firstIx b n = r at *
  go_enter Tryz.func76, Tryz.ntmps76
  go_wp2_with (refine hif.mono ?_; clear hif; rintro e w' ⟨rfl, q, rfl⟩)
  go_ret
  exact ⟨rfl, q, rfl⟩

/-- a closure that answers as p does, whatever the row g holds meanwhile -/
def RowPred (w : World) (g : Nat) (F : Nat) (cp : Value) (ob : List Nat) (p : Nat → Bool) : Prop :=
  ∀ x ∈ ob, ∀ wr, Only g w wr → Calls Tryz.prog F #[.pointer (some ⟨x, 0, none⟩), cp] wr fun e w' => e = .returned (.bool (p x)) ∧ wr = w'

def RDel (w : World) (B g c : Nat) (xs : List Nat) (e : Ending) (w' : World) : Prop :=
  e = .returned (.slice (some ⟨g, 0, none⟩) xs.length c) ∧ Own w' B 128 1 ptrEnc (some ⟨g, 0, none⟩) xs.length c xs ∧ Only g w w'

theorem take_filter_snoc {ob : List Nat} {p : Nat → Bool} {j : Nat} (hj : j < ob.length) : (ob.take (j + 1)).filter (fun x => !p x) = (ob.take j).filter (fun x => !p x) ++ (if p ob[j] then [] else [ob[j]]) := by
  rw [List.take_succ_eq_append_getElem hj, List.filter_append]
  cases h : p ob[j] <;> simp [h]
theorem filter_lt {ob : List Nat} {p : Nat → Bool} {i : Nat} (hi : i < ob.length) (h : p ob[i] = true) (j : Nat) (hj : i < j) (hl : j ≤ ob.length) : ((ob.take j).filter (fun x => !p x)).length < j := by
  have h1 : ((ob.take j).filter (fun x => !p x)).length < (ob.take j).length := by
    rw [List.length_filter_lt_length_iff_exists]
    refine ⟨ob[i], ?_, by simp [h]⟩
    rw [List.mem_iff_getElem]
    exact ⟨i, by simp; omega, by simp⟩
  simp at h1
  omega

theorem zero_ord (w : World) : (zeroValue 128).run Tryz.prog w = .ok (.pointer none) w := by kernel_rfl

set_option maxHeartbeats 1000000 in
theorem deleteFunc_ord (F : Nat) (cp : Value) (eg : ∀ args w, (callFunc F args).run Tryz.prog w = .ok (.enter F args) w) (w : World) (B g n c : Nat) (ob : List Nat) (hs : Own w B 128 1 ptrEnc (some ⟨g, 0, none⟩) n c ob) (p : Nat → Bool) (hF : RowPred w g F cp ob p) (hn : n ≤ 1000000) :
    Calls Tryz.prog 90 #[.slice (some ⟨g, 0, none⟩) n c, .func (.func F) #[] #[cp]] w (RDel w B g c (ob.filter fun x => !p x)) := by
  have hlen := hs.1
  obtain ⟨_, _, _, hnc, hcm, _⟩ := hs.row
  unfold maxLen at hcm
  have hif := indexFunc_ord F cp eg w (some ⟨g, 0, none⟩) n c ob hs.sl (fun i => p (ob.getD i 0)) (fun i hi q => by
    have := hF ob[i] (List.getElem_mem hi) (w.drewN q) ((Mod.refl _ _).drewN q)
    refine this.mono ?_
    rintro e w' ⟨rfl, rfl⟩
    exact ⟨by simp [List.getD_eq_getElem?_getD, hi], 0, rfl⟩) hn
  rcases firstIx_cases (fun i => p (ob.getD i 0)) n with ⟨hfx, hall⟩ | ⟨i0, hi0, hfx, hp0, hmin⟩
  · rw [hfx] at hif
    have hfil : ob.filter (fun x => !p x) = ob := by
      rw [List.filter_eq_self]
      intro a ha
      obtain ⟨i, hi, rfl⟩ := List.getElem_of_mem ha
      have := hall i (by omega)
      simp [List.getD_eq_getElem?_getD, hi] at this
      simp [this]
    rw [hfil]
    have HS := Lib.hid hs
    have HL := Lib.hid hlen
    clear hs hF hall hfil hfx hlen
    go_enter Tryz.func90, Tryz.ntmps90
    go_wp2_with (refine hif.mono ?_; clear hif; rintro e w' ⟨rfl, q, rfl⟩)
    go_ret
    refine ⟨by rw [HL.out]; rfl, by rw [HL.out]; exact HS.out.drewN q, (Mod.refl _ _).drewN q⟩
  · rw [hfx] at hif
    have hi0' : i0 < ob.length := by omega
    have hp0' : p ob[i0] = true := by simpa [List.getD_eq_getElem?_getD, hi0'] using hp0
    have hpre : (ob.take i0).filter (fun x => !p x) = ob.take i0 := by
      rw [List.filter_eq_self]
      intro a ha
      obtain ⟨i, hi, rfl⟩ := List.getElem_of_mem ha
      have hi' : i < i0 := by simp at hi; omega
      have := hmin i hi'
      simp [List.getD_eq_getElem?_getD, show i < ob.length by omega] at this
      simp [this]
    have hne : ((i0 : Int) == -1) = false := beq_eq_false_iff_ne.2 (by omega)
    have HS := Lib.hid hs
    have HF := Lib.hid hF
    have HL := Lib.hid hlen
    have HP := Lib.hid hp0'
    have HPRE := Lib.hid hpre
    clear hs hF hmin hfx hlen hp0 hp0' hpre
    go_enter Tryz.func90, Tryz.ntmps90
    go_wp2_with (refine hif.mono ?_; clear hif; rintro e w' ⟨rfl, q, rfl⟩)
    go_loopw [5, 6, 7] (fun si sj _ wr => ∃ (i j : Nat) (L : List Nat), i < j ∧ j ≤ n ∧ si = .int .i64 i ∧ sj = .int .i64 j ∧ Own wr B 128 1 ptrEnc (some ⟨g, 0, none⟩) n c L ∧ Only g w wr ∧ Hid (L.take i = (ob.take j).filter (fun x => !p x)) ∧ Hid (L.drop j = ob.drop j) ∧ Hid (i0 < j) ∧ Hid (((ob.take j).filter (fun x => !p x)).length = i)) (fun _ sj _ _ => n - (intOf sj).toNat)
    case atStart =>
      have e1 : (ob.take (i0 + 1)).filter (fun x => !p x) = ob.take i0 := by rw [take_filter_snoc hi0', HP.out, HPRE.out]; simp
      refine ⟨i0, i0 + 1, ob, by omega, by omega, rfl, by go_num, HS.out.drewN q, (Mod.refl _ _).drewN q, Lib.hid ?_, Lib.hid rfl, Lib.hid (by omega), Lib.hid ?_⟩
      · rw [e1]
      · rw [e1]; simp; omega
    case round =>
      rename_i wr
      obtain ⟨i, j, L, hij, hj, rfl, rfl, hown, hmod, HT, HD, H0, HLN⟩ := hrel
      have hLl := hown.1
      by_cases hlt : j < n
      · have hjo : j < ob.length := by rw [HL.out]; exact hlt
        have hLj : L[j]'(by omega) = ob[j] := by
          have := congrArg (fun l => l[0]?) HD.out
          simpa [List.getElem?_drop, List.getElem?_eq_getElem hjo, List.getElem?_eq_getElem (show j < L.length by omega)] using this
        have cj := hown.cell1 (i := j) (by omega)
        rw [hLj] at cj
        obtain ⟨u, ci⟩ : ∃ u, wr.cell? ⟨g, i, none⟩ = some u := ⟨_, hown.cell1 (i := i) (by omega)⟩
        have fi := hown.frozen i
        have hcall := HF.out ob[j] (List.getElem_mem hjo) wr hmod
        have HSN := Lib.hid (take_filter_snoc (p := p) hjo)
        have hb1 : (0 : Int) ≤ j := by omega
        have hb2 : (j : Int) < n := by omega
        have hb3 : (0 : Int) ≤ i := by omega
        have hb4 : (i : Int) < n := by omega
        have HOWN := Lib.hid hown
        have HLL := Lib.hid hLl
        clear hLj hown hLl
        have HDD : Hid (L.drop (j + 1) = ob.drop (j + 1)) := Lib.hid (by
          have := congrArg (List.drop 1) HD.out
          simpa [List.drop_drop] using this)
        generalize hx : ob[j] = x at *
        cases hq : p x with
        | true =>
          rw [hq] at hcall
          have HQ := Lib.hid hq
          have HX := Lib.hid hx
          clear hq hx
          go_wp2_with (refine hcall.mono ?_; clear hcall; rintro e w' ⟨rfl, rfl⟩)
          have e2 : (ob.take (j + 1)).filter (fun x => !p x) = (ob.take j).filter (fun x => !p x) := by rw [HSN.out, HQ.out]; simp
          refine ⟨⟨i, j + 1, L, by omega, by omega, rfl, by go_num, HOWN.out, hmod, Lib.hid (by rw [e2]; exact HT.out), HDD, Lib.hid (by have := H0.out; omega), Lib.hid (by rw [e2]; exact HLN.out)⟩, by simp [intOf]; omega⟩
        | false =>
          rw [hq] at hcall
          have HQ := Lib.hid hq
          have HX := Lib.hid hx
          clear hq hx
          go_wp2_with (refine hcall.mono ?_; clear hcall; rintro e w' ⟨rfl, rfl⟩)
          have e2 : (ob.take (j + 1)).filter (fun x => !p x) = (ob.take j).filter (fun x => !p x) ++ [x] := by rw [HSN.out, HQ.out]; simp
          have hll := HLL.out
          refine ⟨⟨i + 1, j + 1, L.set i x, by omega, by omega, by go_num, by go_num, HOWN.out.set1 i x, hmod.setCell (.inl rfl) _, Lib.hid ?_, Lib.hid ?_, Lib.hid (by have := H0.out; omega), Lib.hid ?_⟩, by simp [intOf]; omega⟩
          · rw [e2, ← HT.out, List.take_succ_eq_append_getElem (by simp; omega), List.getElem_set_self, List.take_set_of_le (by omega)]
          · rw [List.drop_set_of_lt (by omega)]; exact HDD.out
          · rw [e2, List.length_append, HLN.out]; rfl
      · obtain rfl : j = n := by omega
        have hfull : ob.take j = ob := List.take_of_length_le (by rw [HL.out]; omega)
        obtain ⟨w2, hcl, hown2, hon2, hz2⟩ := hown.clear_tail (P := Tryz.prog) (ts := 85) Tryz.underlying85 (zero_ord wr) (by simp [Value.cells]; rfl) rfl (by omega) i i (c - i) (by omega) (by omega)
        have hb3 : (0 : Int) ≤ i := by omega
        have hb4 : (i : Int) < j := by omega
        have hb5 : i < c := by omega
        have HO2 := Lib.hid hown2
        have HZ2 := Lib.hid hz2
        have HFU := Lib.hid hfull
        have HLL := Lib.hid hLl
        clear hown2 hz2 hfull hLl hown
        go_wp2_with fail
        go_ret
        have e3 := HLN.out
        have e4 := HT.out
        rw [HFU.out] at e3 e4
        refine ⟨by rw [e3]; rfl, ?_, hmod.trans hon2⟩
        rw [e3, ← e4]
        exact HO2.out


theorem info_ord : ∃ j, Tryz.prog.info? 138 = some j ∧ j.size ≠ 0 := by
  have h : (Tryz.prog.info? 138).map (·.size) = some 5 := by kernel_rfl
  obtain ⟨j, hj, hs⟩ := Option.map_eq_some_iff.1 h
  exact ⟨j, hj, by omega⟩
theorem eql_ord {w : World} (x o : Nat) {cx co : Array Value} (hx : Blk w x 138 cx) (ho : Blk w o 138 co) :
    (binOp .eql 128 (.pointer (some ⟨x, 0, none⟩)) (.pointer (some ⟨o, 0, none⟩))).run Tryz.prog w = .ok (.bool (decide (x = o))) w := by
  obtain ⟨j, hj, hs⟩ := info_ord
  by_cases h : x = o
  · subst h
    simpa using run_eql_ptr_same (P := Tryz.prog) w ⟨x, 0, none⟩ Tryz.underlying128 hj
  · simpa [h] using run_eql_ptr_other (P := Tryz.prog) w (a := ⟨x, 0, none⟩) (b := ⟨o, 0, none⟩) Tryz.underlying128 hj hs (fun e => h (by injection e)) hx ho
theorem happen1 (x o gx : Nat) (w : World) {cx co : Array Value} (hx : Blk w x 138 cx) (ho : Blk w o 138 co) (hb : w.cell? ⟨gx, 0, none⟩ = some (.pointer (some ⟨o, 0, none⟩))) :
    Calls Tryz.prog 91 #[.pointer (some ⟨x, 0, none⟩), .pointer (some ⟨gx, 0, none⟩)] w fun e w' => e = .returned (.bool (decide (x = o))) ∧ w = w' := by
  have heq := eql_ord x o hx ho
  clear hx ho
  go_enter Tryz.func91, Tryz.ntmps91
  go_wp2_with fail
  go_ret
  exact ⟨rfl, rfl⟩
theorem visit1 (x gx : Nat) (o : Ord) (a c : Value) (gate : ByteArray) (w : World) (hb : Blk w gx 76 #[a, .string gate, c]) (ho : OrdAt w x o) :
    Calls Tryz.prog 77 #[.pointer (some ⟨x, 0, none⟩), .pointer (some ⟨gx, 0, none⟩)] w fun e w' => e = .returned (.bool (decide (o.gate = gate))) ∧ ∃ q, w' = w.drewN q := by
  have c1 := hb.cell 1
  have o2 := ho.cell 2
  simp only [Ord.cells] at o2
  simp at c1 o2
  go_enter Tryz.func77, Tryz.ntmps77
  go_wp2_with fail
  go_quiet (fail)
  go_wp2_with fail
  go_ret
  exact ⟨ret_bool (by
    rw [Bool.eq_iff_iff]
    simp
    constructor
    · intro e; rw [ByteArray.toList_eq, ByteArray.toList_eq] at e; exact ByteArray.ext (Array.ext' e)
    · intro e; rw [e]), _, rfl⟩

end Go.Proofs.YtinnckbffblecaaGreat
