/- The reference's reading of records, walked (written by mkrec11.py out of XRead5). Conditions: the text is short; the library's variables lie as they should. -/
import Derived.Test.YtccffkdaalnfoaaGreatDoorRec10
namespace Go.Proofs.YtccffkdaalnfoaaGreatDoor
open Go.RowKit
set_option linter.unusedVariables false
set_option linter.unusedSimpArgs false

theorem enters_take (args : Array Value) (w : World) : (callFunc 32 args).run Tryz.prog w = .ok (.enter 32 args) w := by go_simp
def RRecLn (t : ByteArray) (w : World) (B bo : Nat) (e : Ending) (w' : World) : Prop :=
  ∃ acc k, Mod (fun x => B ≤ x) w w' ∧ ((readG takeR (pieces t nl) [] 0 = (acc, k, false) ∧ e = .returned (.tuple #[.int .i64 (k : Int), .bool false])) ∨ (readG takeR (pieces t nl) [] 0 = (acc, k, true) ∧ e = .returned (.tuple #[.int .i64 0, .bool true]) ∧ ROutAt w' B bo acc ∧ acc.length ≤ 9001 ∧ ∀ l ∈ acc, RecShort l))

set_option maxRecDepth 100000 in
set_option maxHeartbeats 4000000 in
theorem ref_linesR (t : ByteArray) (w w0 : World) (bo : Nat) (hs : t.size ≤ 9000) (hx0 : MaxLn w0) (hT0 : Pow10 w0) (hx : MaxLn w) (hT : Pow10 w) (hO : ROutAt w w0.heap.size bo []) (hB : w0.heap.size ≤ w.heap.size) :
    Calls Tryz.prog 31 #[.string t, .func (.func 32) #[] #[.pointer (some ⟨bo, 0, none⟩)]] w (RRecLn t w w0.heap.size bo) := by
  have HX0 := Lib.hid hx0
  have HT0 := Lib.hid hT0
  have HX := Lib.hid hx
  have HT := Lib.hid hT
  have HO := Lib.hid hO
  have HRR : Hid (∀ e w', (∃ acc k, Mod (fun x => w0.heap.size ≤ x) w w' ∧ ((readG takeR (pieces t nl) [] 0 = (acc, k, false) ∧ e = .returned (.tuple #[.int .i64 (k : Int), .bool false])) ∨ (readG takeR (pieces t nl) [] 0 = (acc, k, true) ∧ e = .returned (.tuple #[.int .i64 0, .bool true]) ∧ ROutAt w' w0.heap.size bo acc ∧ acc.length ≤ 9001 ∧ ∀ l ∈ acc, RecShort l))) → RRecLn t w w0.heap.size bo e w') := Lib.hid (fun e w' h => h)
  generalize hRD : readG takeR (pieces t nl) [] 0 = RD at *
  have HRD0 := Lib.hid hRD
  clear hx0 hT0 hx hT hO hRD
  have eg := enters_take
  go_enter Tryz.func31, Tryz.ntmps31
  go_wp2_with fail
  go_loopw [0, 6] (fun s i wr => ∃ (k : Nat) (t' : ByteArray) (acc : List RecD), s = .string t' ∧ i = .int .i64 k ∧ t'.size + k ≤ 9000 ∧ acc.length = k ∧ Hid (RD = readG takeR (pieces t' nl) acc k) ∧ Hid (ROutAt wr w0.heap.size bo acc) ∧ Hid (Mod (fun x => w0.heap.size ≤ x) w wr) ∧ Hid (∀ l ∈ acc, RecShort l)) (fun s _ _ => match s with | .string t' => t'.size | _ => 0)
  case atStart => exact ⟨0, t, [], rfl, rfl, by omega, rfl, Lib.hid HRD0.out.symm, HO, Lib.hid (Mod.refl _ _), Lib.hid (fun l h => by cases h)⟩
  case round =>
    rename World => wr
    obtain ⟨k, t', acc, rfl, rfl, hsz, hak, HRD, HOA, HM, HKS⟩ := hrel
    have HXr : Hid (MaxLn wr) := Lib.hid (HX0.out.mod HX.out HM.out (fun g hg e => by omega))
    have HTr : Hid (Pow10 wr) := Lib.hid (HT0.out.mod HT.out HM.out (fun g hg e => by omega))
    by_cases he : t' = ⟨#[]⟩
    · have he' : (t'.toList == []) = true := by rw [str_nil]; simpa using he
      have HD : Hid (RD = (acc, 0, true)) := Lib.hid (by
        rw [HRD.out, he]
        have : pieces (⟨#[]⟩ : ByteArray) nl = [⟨#[]⟩] := pieces_miss (by decide +kernel)
        rw [this, readG_last, if_pos rfl])
      clear he
      go_wp2_with fail
      go_ret2
      exact HRR.out _ _ ⟨acc, 0, HM.out, .inr ⟨HD.out, rfl, HOA.out, by omega, HKS.out⟩⟩
    · have he' : (t'.toList == []) = false := by rw [str_nil]; simpa using he
      rcases cut_any t' wr (by omega) HXr.out with ⟨hi, hc⟩ | ⟨i, hi, hit, hc⟩
      · have HD : Hid (RD = (acc, k, false)) := Lib.hid (by
          rw [HRD.out, pieces_miss hi, readG_last, if_neg he])
        clear he hi
        go_wp2_with fail
        refine hc.mono ?_
        clear hc
        rintro e w5 ⟨rfl, q, rfl⟩
        go_wp2_with fail
        go_ret2
        exact HRR.out _ _ ⟨acc, k, HM.out.drewN q, .inl ⟨HD.out, rfl⟩⟩
      · have hpc : pieces t' nl = t'.extract 0 i :: pieces (t'.extract (i + 1) t'.size) nl := pieces_hit (Nat.le_refl _) hi
        have hrne : pieces (t'.extract (i + 1) t'.size) nl ≠ [] := pieces_ne (Nat.le_refl _)
        have hls : (t'.extract 0 i).size = i := by simp only [ByteArray.size_extract]; omega
        have hrs : (t'.extract (i + 1) t'.size).size = t'.size - (i + 1) := by simp only [ByteArray.size_extract]; omega
        have HBAD : Hid (takeR (t'.extract 0 i) = none → RD = (acc, k, false)) := Lib.hid (fun h => by
          rw [HRD.out, hpc, readG_bad hrne h])
        have HGOOD : Hid (∀ x, takeR (t'.extract 0 i) = some x → RD = readG takeR (pieces (t'.extract (i + 1) t'.size) nl) (acc ++ [x]) (k + 1)) := Lib.hid (fun x h => by
          rw [HRD.out, hpc, readG_good hrne h])
        have HKEY : Hid (∀ x, takeR (t'.extract 0 i) = some x → RecShort x) := Lib.hid (fun x h => takeR_short h (by unfold maxLen; omega))
        clear he hi hpc hrne
        generalize t'.extract 0 i = line at *
        generalize t'.extract (i + 1) t'.size = rest at *
        have htk := fun W (hW : New wr W) => ref_takeR line W w0.heap.size bo acc (by omega) (HXr.out.new hW) (HTr.out.new hW) (HOA.out.new hW) (by omega) (by have h1 := HM.out.size; have h2 := hW.size; omega)
        go_wp2_with fail
        refine hc.mono ?_
        clear hc
        rintro e w5 ⟨rfl, q, rfl⟩
        have htk := htk (wr.drewN q) ((Mod.refl _ _).drewN q)
        unfold RRecTake at htk
        have HM5 := Lib.hid (HM.out.drewN q)
        generalize wr.drewN q = w5 at *
        cases htl : takeR line with
        | none =>
          have HB := Lib.hid (HBAD.out htl)
          rw [htl] at htk
          simp only [Option.isSome_none] at htk
          clear htl
          go_wp2_with fail
          refine htk.mono ?_
          clear htk
          rintro e w6 ⟨rfl, hm6, _⟩
          go_wp2_with fail
          go_ret2
          exact HRR.out _ _ ⟨acc, k, HM5.out.trans hm6, .inl ⟨HB.out, rfl⟩⟩
        | some x =>
          have HG := Lib.hid (HGOOD.out x htl)
          have HK := Lib.hid (HKEY.out x htl)
          rw [htl] at htk
          simp only [Option.isSome_some] at htk
          clear htl
          go_wp2_with fail
          refine htk.mono ?_
          clear htk
          rintro e w6 ⟨rfl, hm6, ho6⟩
          have HO6 := Lib.hid (ho6 x rfl)
          have HM6 := Lib.hid (HM5.out.trans hm6)
          clear hm6 ho6
          go_wp2_with fail
          refine ⟨⟨k + 1, rest, acc ++ [x], rfl, by go_num, by omega, by simp; omega, HG, HO6, HM6, Lib.hid (fun l hl => ?_)⟩, by simp only; omega⟩
          rcases List.mem_append.1 hl with h | h
          · exact HKS.out l h
          · simp only [List.mem_singleton] at h; subst h; exact HK.out

end Go.Proofs.YtccffkdaalnfoaaGreatDoor
