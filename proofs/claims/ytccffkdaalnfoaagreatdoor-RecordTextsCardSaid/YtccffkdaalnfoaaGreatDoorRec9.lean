/- gate.Read, walked (written by mkrec9.py out of XRead3). Conditions: the text is short; the library's variables lie as they should. -/
import Derived.Test.YtccffkdaalnfoaaGreatDoorRec8
namespace Go.Proofs.YtccffkdaalnfoaaGreatDoor
open Go.RowKit
set_option linter.unusedVariables false
set_option linter.unusedSimpArgs false

theorem undash_size (s : ByteArray) : (undash s).size ≤ s.size := by
  unfold undash
  split
  · exact Nat.zero_le _
  · exact Nat.le_refl _
theorem takeR_short {line : ByteArray} {y : RecD} (h : takeR line = some y) (hs : line.size ≤ maxLen) : RecShort y := by
  unfold takeR at h
  match hp : pieces line sp, h with
  | [a, b, c, d, e, f, g], h =>
    rw [takeRW_seven] at h
    split at h
    · injection h with h
      subst h
      have q : ∀ x, x ∈ pieces line sp → (undash x).size ≤ maxLen := fun x hx => Nat.le_trans (undash_size x) (Nat.le_trans (pieces_le hx) hs)
      exact ⟨q _ (by rw [hp]; simp), q _ (by rw [hp]; simp), q _ (by rw [hp]; simp), q _ (by rw [hp]; simp)⟩
    · cases h
theorem readRF_bad {t : ByteArray} {acc : List RecD} {k : Nat} (h : readG takeR (pieces t nl) [] 0 = (acc, k, false)) : readRF t = ([], (k : Int), 9) := by
  unfold readRF
  rw [h]
  rfl
theorem readRF_fault {t : ByteArray} {acc : List RecD} {k : Nat} (h : readG takeR (pieces t nl) [] 0 = (acc, k, true)) (hf : recsFault acc ≠ 0) : readRF t = ([], 0, recsFault acc) := by
  unfold readRF
  rw [h]
  simp [hf]
theorem readRF_good {t : ByteArray} {acc : List RecD} {k : Nat} (h : readG takeR (pieces t nl) [] 0 = (acc, k, true)) (hf : recsFault acc = 0) : readRF t = (acc, 0, 0) := by
  unfold readRF
  rw [h]
  simp [hf]
def RRecRead (t : ByteArray) (w : World) (e : Ending) (w' : World) : Prop :=
  ∃ A n c, e = .returned (.tuple #[.slice A n c, .int .i64 (readRF t).2.1, .int .i64 (readRF t).2.2]) ∧ RecRows w' A n (readRF t).1 ∧ New w w'
theorem RRecRead.bad {t : ByteArray} {w w' : World} {acc : List RecD} {k : Nat} (h : readG takeR (pieces t nl) [] 0 = (acc, k, false)) (hm : New w w') : RRecRead t w (.returned (.tuple #[.slice none 0 0, .int .i64 (k : Int), .int .i64 9])) w' := by
  refine ⟨none, 0, 0, ?_, ?_, hm⟩
  · rw [readRF_bad h]
  · rw [readRF_bad h]; exact Sl.nil

set_option maxRecDepth 100000 in
set_option maxHeartbeats 4000000 in
theorem gate_read (t : ByteArray) (w : World) (hs : t.size ≤ 9000) (hx : MaxLn w) :
    Calls Tryz.prog 10 #[.string t] w (RRecRead t w) := by
  have hli := kit_lines t w (by omega) hx
  unfold RLines at hli
  have hR1 : ∀ acc k w', readG takeR (pieces t nl) [] 0 = (acc, k, false) → New w w' → RRecRead t w (.returned (.tuple #[.slice none 0 0, .int .i64 (k : Int), .int .i64 9])) w' := fun acc k w' h hm => RRecRead.bad h hm
  have hR2 : ∀ acc k w', readG takeR (pieces t nl) [] 0 = (acc, k, true) → recsFault acc ≠ 0 → New w w' → RRecRead t w (.returned (.tuple #[.slice none 0 0, .int .i64 0, .int .i64 (recsFault acc)])) w' := fun acc k w' h hf hm =>
    ⟨none, 0, 0, by rw [readRF_fault h hf], by rw [readRF_fault h hf]; exact Sl.nil, hm⟩
  have hR3 : ∀ acc k w' A n c, readG takeR (pieces t nl) [] 0 = (acc, k, true) → recsFault acc = 0 → RecRows w' A n acc → New w w' → RRecRead t w (.returned (.tuple #[.slice A n c, .int .i64 0, .int .i64 0])) w' := fun acc k w' A n c h hf hl hm =>
    ⟨A, n, c, by rw [readRF_good h hf], by rw [readRF_good h hf]; exact hl, hm⟩
  have hlen : (pieces t nl).length ≤ 9001 := by
    rw [pieces_length (show 1 ≤ (nl : ByteArray).size from Nat.le_refl _)]
    have := Lib.countB_le nl (Nat.le_refl _) t.size t (Nat.le_refl _)
    omega
  have hle := fun x (h : x ∈ pieces t nl) => Nat.le_trans (pieces_le h) hs
  have hne : pieces t nl ≠ [] := pieces_ne (Nat.le_refl _)
  generalize hP : pieces t nl = P at *
  clear hP
  have HR1 := Lib.hid hR1
  have HR2 := Lib.hid hR2
  have HR3 := Lib.hid hR3
  have HLE := Lib.hid hle
  clear hR1 hR2 hR3 hle
  obtain ⟨N, E, hN, hE1, hE2, hli⟩ : ∃ (N : Nat) (E : Bool), N ≤ P.length ∧ (E = true → N = P.length - 1 ∧ P.drop N = [⟨#[]⟩]) ∧ (E = false → N = P.length ∧ P.drop (N - 1) ≠ [⟨#[]⟩] ∧ P.getLast? ≠ some ⟨#[]⟩) ∧
      Calls Tryz.prog 29 #[.string t] w (fun e w' => e = .returned (.tuple #[.slice (some ⟨w.heap.size, 0, none⟩) N P.length, .bool E]) ∧ w' = w.alloc (.cells (strCs P) 9)) := by
    have hlp : 1 ≤ P.length := by cases P with | nil => exact absurd rfl hne | cons _ _ => simp
    have hdl : P.drop (P.length - 1) = [P[P.length - 1]] := by
      rw [List.drop_eq_getElem_cons (by omega), List.drop_of_length_le (by omega)]
    have hgl : P.getLast? = some P[P.length - 1] := by rw [List.getLast?_eq_getElem?, List.getElem?_eq_getElem (by omega)]
    by_cases hg : P.getLast? = some ⟨#[]⟩
    · have hd : decide (P.getLast? = some ⟨#[]⟩) = true := by simpa using hg
      rw [if_pos hg, hd] at hli
      refine ⟨P.length - 1, true, by omega, fun _ => ⟨rfl, ?_⟩, (fun h => by cases h), hli⟩
      rw [hdl]
      rw [hgl] at hg
      injection hg with hg
      rw [hg]
    · have hd : decide (P.getLast? = some ⟨#[]⟩) = false := by simpa using hg
      rw [if_neg hg, hd] at hli
      refine ⟨P.length, false, by omega, (fun h => by cases h), fun _ => ⟨rfl, ?_, hg⟩, hli⟩
      rw [hdl]
      intro h
      injection h with h
      rw [hgl, h] at hg
      exact hg rfl
  have HE1 := Lib.hid hE1
  have HE2 := Lib.hid hE2
  have hts : ¬ (200000 : Int) < (t.size : Int) := by omega
  clear hE1 hE2 hne
  go_enter Tryz.func10, Tryz.ntmps10
  go_wp2_with fail
  refine hli.mono ?_
  clear hli
  rintro e w1 ⟨rfl, hw1⟩
  have hbp : Blk w1 w.heap.size 9 (strCs P) := by rw [hw1]; exact Blk.new _ _ _
  have hm1 : New w w1 := by rw [hw1]; exact (Mod.refl _ _).alloc _
  have HBP := Lib.hid hbp
  have HM1 := Lib.hid hm1
  have HX1 := Lib.hid (hx.new hm1)
  clear hw1 hbp hm1 hx
  go_wp2_with fail
  go_loopw [7, 23] (fun o i wr => ∃ (k c : Nat) (A : Option Addr) (acc : List RecD), k ≤ N ∧ i = .int .i64 k ∧ o = .slice A k c ∧ Hid (Own wr w1.heap.size 39 7 RecD.enc A k c acc) ∧ Hid (New w1 wr) ∧ Hid (readG takeR P [] 0 = readG takeR (P.drop k) acc k) ∧ Hid (∀ l ∈ acc, RecShort l)) (fun _ i _ => N - (intOf i).toNat)
  case atStart => exact ⟨0, 0, none, [], Nat.zero_le _, rfl, rfl, Lib.hid Own.nil, Lib.hid (Mod.refl _ _), Lib.hid rfl, Lib.hid (fun l h => by cases h)⟩
  case round =>
    rename World => wr
    obtain ⟨k, c, A, acc, hk, rfl, rfl, HO, HM, HRD, HKS⟩ := hrel
    by_cases hlt : k < N
    · have hkP : k < P.length := by omega
      have hcell : wr.cell? ⟨w.heap.size, k, none⟩ = some (.string P[k]) := by
        have h1 := strs_at (HBP.out.mod HM.out (fun e => e)) k hkP
        rw [h1]
        congr 2
        rw [List.getD_eq_getElem?_getD, List.getElem?_eq_getElem hkP]
        rfl
      have hbl : w.heap.size < wr.heap.size := (HBP.out.mod HM.out (fun e => e)).lt
      have hsz := HLE.out P[k] (List.getElem_mem hkP)
      have hrl := fun W (hW : New w1 W) => gate_readRecord P[k] W (by omega) (HX1.out.new hW)
      have hDR : P.drop k = P[k] :: P.drop (k + 1) := List.drop_eq_getElem_cons hkP
      have HBAD : Hid (takeR P[k] = none → readG takeR P [] 0 = (acc, k, false)) := Lib.hid (fun hn => by
        rw [HRD.out, hDR]
        by_cases hr : P.drop (k + 1) = []
        · rw [hr, readG_last, if_neg]
          intro he
          have hkl : P.length = k + 1 := by
            have := congrArg List.length hr
            simp at this
            omega
          cases E with
          | true => have := (HE1.out rfl).1; omega
          | false =>
            have := (HE2.out rfl).2.2
            rw [List.getLast?_eq_getElem?, show P.length - 1 = k by omega, List.getElem?_eq_getElem hkP, he] at this
            exact this rfl
        · exact readG_bad hr hn)
      have HLAST : Hid (E = false → k = N - 1 → readG takeR P [] 0 = (acc, k, false)) := Lib.hid (fun hE hkn => by
        obtain ⟨e1, e2, e3⟩ := HE2.out hE
        have hr : P.drop (k + 1) = [] := List.drop_of_length_le (by omega)
        rw [HRD.out, hDR, hr, readG_last, if_neg]
        intro he
        rw [List.getLast?_eq_getElem?, show P.length - 1 = k by omega, List.getElem?_eq_getElem hkP, he] at e3
        exact e3 rfl)
      have HGOOD : Hid (∀ x, takeR P[k] = some x → ¬ (E = false ∧ k = N - 1) → readG takeR P [] 0 = readG takeR (P.drop (k + 1)) (acc ++ [x]) (k + 1)) := Lib.hid (fun x hx hnl => by
        have hr : P.drop (k + 1) ≠ [] := fun hr => by
          have hkl : P.length ≤ k + 1 := by
            have := congrArg List.length hr
            simp at this
            omega
          cases hE : E with
          | true => have := (HE1.out hE).1; omega
          | false => have := (HE2.out hE).1; exact hnl ⟨hE, by omega⟩
        rw [HRD.out, hDR, readG_good hr hx])
      have HKEY : Hid (∀ x, takeR P[k] = some x → RecShort x) := Lib.hid (fun x hx => takeR_short hx (by unfold maxLen; omega))
      have hb1 : (0 : Int) ≤ k := by omega
      have hb2 : (k : Int) < N := by omega
      clear hDR
      generalize P[k] = line at *
      go_wp2_with fail
      refine (hrl wr HM.out).mono ?_
      clear hrl
      rintro e w5 ⟨x, rfl, hxy, hm5⟩
      have HM5 := Lib.hid (HM.out.trans hm5)
      have HO5 := Lib.hid (HO.out.new hm5)
      have HXY := Lib.hid hxy
      clear hm5 hxy
      cases htl : takeR line with
      | none =>
        have HB := Lib.hid (HBAD.out htl)
        obtain ⟨at_, route, caller, act, inst, status, found⟩ := x
        simp only [RecD.val, Option.isSome_none]
        clear htl
        go_wp2_with fail
        go_ret3
        exact HR1.out acc k _ HB.out (HM1.out.trans (HM5.out.alloc _))
      | some y =>
        obtain rfl := HXY.out y htl
        have HTL := Lib.hid htl
        clear htl
        obtain ⟨at_, route, caller, act, inst, status, found⟩ := x
        simp only [RecD.val, Option.isSome_some]
        by_cases hl : E = false ∧ k = N - 1
        · have HB := Lib.hid (HLAST.out hl.1 hl.2)
          obtain ⟨hE, hkn⟩ := hl
          subst hE
          have he : ((k : Int) == (N : Int) - 1) = true := by simp; omega
          clear hkn
          go_wp2_with fail
          go_ret3
          exact HR1.out acc k _ HB.out (HM1.out.trans (HM5.out.alloc _))
        · have HG := Lib.hid (HGOOD.out _ HTL.out hl)
          have hky := HKEY.out _ HTL.out
          have HKY := Lib.hid hky
          have hef : E = false → ((k : Int) == (N : Int) - 1) = false := fun h => by
            have : ¬ k = N - 1 := fun e => hl ⟨h, e⟩
            simp; omega
          have bx := Blk.new w5 39 #[.int .i64 at_, .string route, .string caller, .string act, .string inst, .int .i64 status, .int .i64 found]
          have HO6 := Lib.hid (HO5.out.alloc (.cells #[.int .i64 at_, .string route, .string caller, .string act, .string inst, .int .i64 status, .int .i64 found] 39))
          have HM6 := Lib.hid (HM5.out.alloc (.cells #[.int .i64 at_, .string route, .string caller, .string act, .string inst, .int .i64 status, .int .i64 found] 39))
          have HEF := Lib.hid hef
          clear hl hef hky HGOOD HLAST HBAD HKEY
          cases E with
          | true =>
            go_upto_region 11 with (fail)
            have e0 := bx.cell 0
            have e1 := bx.cell 1
            have e2 := bx.cell 2
            have e3 := bx.cell 3
            have e4 := bx.cell 4
            have e5 := bx.cell 5
            have e6 := bx.cell 6
            have hel := bx.lt
            simp only [List.getElem?_toArray, List.getElem?_cons_zero, List.getElem?_cons_succ] at e0 e1 e2 e3 e4 e5 e6
            generalize hw6 : w5.alloc (.cells #[.int .i64 at_, .string route, .string caller, .string act, .string inst, .int .i64 status, .int .i64 found] 39) = w6 at *
            clear hw6
            have HZZ : Hid (w1.heap.size ≤ (w6.alloc (.cells #[.int .i64 at_, .string route, .string caller, .string act, .string inst, .int .i64 status, .int .i64 found] 39)).heap.size) := Lib.hid (by have := HM6.out.size; simp; omega)
            have ownA := HO6.out.alloc (.cells #[.int .i64 at_, .string route, .string caller, .string act, .string inst, .int .i64 status, .int .i64 found] 39)
            have blkA : Blk (w6.alloc (.cells #[.int .i64 at_, .string route, .string caller, .string act, .string inst, .int .i64 status, .int .i64 found] 39)) w6.heap.size 39 (encL 7 RecD.enc ⟨at_, route, caller, act, inst, status, found⟩).toArray := Blk.new _ _ _
            go_wp2_with (at_builtin; refine wpList_push rfl _ _ _ rfl 88 Tryz.underlying26 einfo_rec rfl ownA ⟨at_, route, caller, act, inst, status, found⟩ w6.heap.size rfl blkA (fun j hj => RecD.one _ j hj) (by omega) (by omega) HZZ.out ?_; intro g9 cap9 w9 own9 hm9 hat9 hlt9)
            have hmw : New w1 w9 := Own.push_mod (a := w1) ownA (HM6.out.alloc _) hm9 (Nat.le_refl _)
            exact ⟨⟨k + 1, cap9, some ⟨g9, 0, none⟩, acc ++ [⟨at_, route, caller, act, inst, status, found⟩], by omega, by go_num, rfl, Lib.hid own9, Lib.hid hmw, HG, Lib.hid (fun l hl => by
              rcases List.mem_append.1 hl with h | h
              · exact HKS.out l h
              · simp only [List.mem_singleton] at h; subst h; exact HKY.out)⟩, by simp [intOf]; omega⟩
          | false =>
            have he := HEF.out rfl
            go_upto_region 11 with (fail)
            have e0 := bx.cell 0
            have e1 := bx.cell 1
            have e2 := bx.cell 2
            have e3 := bx.cell 3
            have e4 := bx.cell 4
            have e5 := bx.cell 5
            have e6 := bx.cell 6
            have hel := bx.lt
            simp only [List.getElem?_toArray, List.getElem?_cons_zero, List.getElem?_cons_succ] at e0 e1 e2 e3 e4 e5 e6
            generalize hw6 : w5.alloc (.cells #[.int .i64 at_, .string route, .string caller, .string act, .string inst, .int .i64 status, .int .i64 found] 39) = w6 at *
            clear hw6
            have HZZ : Hid (w1.heap.size ≤ (w6.alloc (.cells #[.int .i64 at_, .string route, .string caller, .string act, .string inst, .int .i64 status, .int .i64 found] 39)).heap.size) := Lib.hid (by have := HM6.out.size; simp; omega)
            have ownA := HO6.out.alloc (.cells #[.int .i64 at_, .string route, .string caller, .string act, .string inst, .int .i64 status, .int .i64 found] 39)
            have blkA : Blk (w6.alloc (.cells #[.int .i64 at_, .string route, .string caller, .string act, .string inst, .int .i64 status, .int .i64 found] 39)) w6.heap.size 39 (encL 7 RecD.enc ⟨at_, route, caller, act, inst, status, found⟩).toArray := Blk.new _ _ _
            go_wp2_with (at_builtin; refine wpList_push rfl _ _ _ rfl 88 Tryz.underlying26 einfo_rec rfl ownA ⟨at_, route, caller, act, inst, status, found⟩ w6.heap.size rfl blkA (fun j hj => RecD.one _ j hj) (by omega) (by omega) HZZ.out ?_; intro g9 cap9 w9 own9 hm9 hat9 hlt9)
            have hmw : New w1 w9 := Own.push_mod (a := w1) ownA (HM6.out.alloc _) hm9 (Nat.le_refl _)
            exact ⟨⟨k + 1, cap9, some ⟨g9, 0, none⟩, acc ++ [⟨at_, route, caller, act, inst, status, found⟩], by omega, by go_num, rfl, Lib.hid own9, Lib.hid hmw, HG, Lib.hid (fun l hl => by
              rcases List.mem_append.1 hl with h | h
              · exact HKS.out l h
              · simp only [List.mem_singleton] at h; subst h; exact HKY.out)⟩, by simp [intOf]; omega⟩
    · obtain rfl : k = N := by omega
      have HDONE : Hid (∃ k', readG takeR P [] 0 = (acc, k', true)) := Lib.hid (by
        cases hE : E with
        | true =>
          have h2 := (HE1.out hE).2
          refine ⟨0, ?_⟩
          rw [HRD.out, h2, readG_last, if_pos rfl]
        | false =>
          have h2 := (HE2.out hE).1
          refine ⟨0, ?_⟩
          rw [HRD.out, List.drop_of_length_le (by omega), readG])
      obtain ⟨k', hdone⟩ := HDONE.out
      have HD := Lib.hid hdone
      have hcl := gate_checkRecords acc A k c wr HO.out.sl (by omega) HKS.out
      clear hdone HDONE
      by_cases hf : recsFault acc = 0
      · have HF := Lib.hid hf
        rw [hf] at hcl
        clear hf
        go_wp2_with fail
        refine hcl.mono ?_
        clear hcl
        rintro e w5 ⟨rfl, hm5⟩
        go_wp2_with fail
        go_ret3
        exact HR3.out acc k' _ A k c HD.out HF.out (HO.out.new hm5).sl (HM1.out.trans (HM.out.trans hm5))
      · have HF := Lib.hid hf
        have hf' : (recsFault acc != 0) = true := by simpa using hf
        have HF3 := Lib.hid (fun W h => HR2.out acc k' W HD.out HF.out h)
        clear hf HF
        generalize recsFault acc = F at *
        go_wp2_with fail
        refine hcl.mono ?_
        clear hcl
        rintro e w5 ⟨rfl, hm5⟩
        go_wp2_with fail
        go_ret3
        exact HF3.out _ (HM1.out.trans (HM.out.trans hm5))

end Go.Proofs.YtccffkdaalnfoaaGreatDoor
