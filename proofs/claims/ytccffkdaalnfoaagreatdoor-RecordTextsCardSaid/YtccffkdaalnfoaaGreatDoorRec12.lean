/- The reference's reading of records, whole (written by mkrec11.py out of XRead6). Conditions: the text is short; the library's variables lie as they should. -/
import Derived.Test.YtccffkdaalnfoaaGreatDoorRec11
namespace Go.Proofs.YtccffkdaalnfoaaGreatDoor
open Go.RowKit
set_option linter.unusedVariables false
set_option linter.unusedSimpArgs false

set_option maxRecDepth 100000 in
set_option maxHeartbeats 4000000 in
theorem ref_recordsRead (t : ByteArray) (w : World) (hs : t.size ≤ 9000) (hx : MaxLn w) (hT : Pow10 w) :
    Calls Tryz.prog 11 #[.string t] w (RRecRead t w) := by
  have hR1 : ∀ acc k w', readG takeR (pieces t nl) [] 0 = (acc, k, false) → New w w' → RRecRead t w (.returned (.tuple #[.slice none 0 0, .int .i64 (k : Int), .int .i64 9])) w' := fun acc k w' h hm => RRecRead.bad h hm
  have hR2 : ∀ acc k w', readG takeR (pieces t nl) [] 0 = (acc, k, true) → recsFault acc ≠ 0 → New w w' → RRecRead t w (.returned (.tuple #[.slice none 0 0, .int .i64 0, .int .i64 (recsFault acc)])) w' := fun acc k w' h hf hm =>
    ⟨none, 0, 0, by rw [readRF_fault h hf], by rw [readRF_fault h hf]; exact Sl.nil, hm⟩
  have hR3 : ∀ acc k w' A n c, readG takeR (pieces t nl) [] 0 = (acc, k, true) → recsFault acc = 0 → RecRows w' A n acc → New w w' → RRecRead t w (.returned (.tuple #[.slice A n c, .int .i64 0, .int .i64 0])) w' := fun acc k w' A n c h hf hl hm =>
    ⟨A, n, c, by rw [readRF_good h hf], by rw [readRF_good h hf]; exact hl, hm⟩
  have HR1 := Lib.hid hR1
  have HR2 := Lib.hid hR2
  have HR3 := Lib.hid hR3
  have hm1 : New w (w.alloc (.cells #[.slice none 0 0] 26)) := (Mod.refl _ _).alloc _
  have hb1 := Blk.new w 26 #[.slice none 0 0]
  have hO : ROutAt (w.alloc (.cells #[.slice none 0 0] 26)) w.heap.size w.heap.size [] := ⟨Nat.le_refl _, none, 0, 0, hb1, Own.nil⟩
  have hln := ref_linesR t (w.alloc (.cells #[.slice none 0 0] 26)) w w.heap.size hs hx hT (hx.new hm1) (hT.new hm1) hO hm1.size
  have hts : ¬ (200000 : Int) < (t.size : Int) := by omega
  have HM1 := Lib.hid hm1
  clear hR1 hR2 hR3 hm1 hb1 hO hx hT
  go_enter Tryz.func11, Tryz.ntmps11
  go_upto_region 4 with (fail)
  generalize w.alloc (.cells #[.slice none 0 0] 26) = w1 at *
  have hmf : ∀ W, (Instr.makeFunc (Fn.func 32) #[] #[.pointer (some ⟨w.heap.size, 0, none⟩)]).run Tryz.prog W = .ok (.func (.func 32) #[] #[.pointer (some ⟨w.heap.size, 0, none⟩)]) W := fun W => by first | rfl | simp [Instr.makeFunc]
  go_wp2_with fail
  refine hln.mono ?_
  clear hln
  rintro e w5 ⟨acc, k, hm5, hcs⟩
  have HM5 : Hid (New w w5) := Lib.hid (HM1.out.step hm5 (fun i hi e => by omega))
  clear hm5
  rcases hcs with ⟨hrd, rfl⟩ | ⟨hrd, rfl, ⟨hB, A, n, c, hbo, hoo⟩, hal, hks⟩
  · have HRD := Lib.hid hrd
    clear hrd
    go_wp2_with fail
    go_ret3
    exact HR1.out acc k _ HRD.out HM5.out
  · have HRD := Lib.hid hrd
    have c0 := hbo.cell 0
    have hbl := hbo.lt
    simp at c0
    have HBO := Lib.hid hbo
    have HOO := Lib.hid hoo
    have hnn : n ≤ 9001 := by have := hoo.1; omega
    have hcl := ref_recordsFault acc A n c w5 hoo.sl (by omega) hks
    clear hrd hbo hoo hks hal
    by_cases hf : recsFault acc = 0
    · have HF := Lib.hid hf
      rw [hf] at hcl
      clear hf
      go_wp2_with fail
      refine hcl.mono ?_
      clear hcl
      rintro e w6 ⟨rfl, hm6⟩
      have b6 := HBO.out.mod hm6 (fun e => e)
      have d0 := b6.cell 0
      have hdl := b6.lt
      simp at d0
      have HM6 := Lib.hid hm6
      clear b6 hm6 c0 hbl
      go_wp2_with fail
      go_ret3
      exact HR3.out acc k _ A n c HRD.out HF.out (HOO.out.new HM6.out).sl (HM5.out.trans HM6.out)
    · have HF := Lib.hid hf
      have hf' : (recsFault acc != 0) = true := by simpa using hf
      have HF3 := Lib.hid (fun W h => HR2.out acc k W HRD.out HF.out h)
      clear hf HF
      generalize recsFault acc = F at *
      go_wp2_with fail
      refine hcl.mono ?_
      clear hcl
      rintro e w6 ⟨rfl, hm6⟩
      go_wp2_with fail
      go_ret3
      exact HF3.out _ (HM5.out.trans hm6)

theorem equal_recs (zs : List RecD) (A1 A2 : Option Addr) (n c1 c2 : Nat) (w : World) (h1 : RecRows w A1 n zs) (h2 : RecRows w A2 n zs) (hn : n ≤ 1000000) :
    Calls Tryz.prog 12 #[.slice A1 n c1, .slice A2 n c2] w fun e w' => e = .returned (.bool true) ∧ ∃ q, w' = w.drewN q := by
  have hlen := h1.1
  have H1 := Lib.hid h1
  have H2 := Lib.hid h2
  clear h1 h2
  go_enter Tryz.func12, Tryz.ntmps12
  go_wp2_with fail
  go_loopw [5, 13] (fun _ i wr => ∃ k : Nat, k ≤ n ∧ i = .int .i64 k ∧ ∃ q, wr = w.drewN q) (fun _ i _ => n - (intOf i).toNat)
  case atStart => exact ⟨0, Nat.zero_le _, rfl, 0, rfl⟩
  case round =>
    obtain ⟨k, hk, rfl, q, rfl⟩ := hrel
    by_cases hlt : k < n
    · obtain ⟨g1, o1, hA1, t1, k1⟩ := H1.out.2 (by omega)
      obtain ⟨g2, o2, hA2, t2, k2⟩ := H2.out.2 (by omega)
      subst hA1 hA2
      have a0 := k1 k (by omega) 0 (by omega)
      have a1 := k1 k (by omega) 1 (by omega)
      have a2 := k1 k (by omega) 2 (by omega)
      have a3 := k1 k (by omega) 3 (by omega)
      have a4 := k1 k (by omega) 4 (by omega)
      have a5 := k1 k (by omega) 5 (by omega)
      have a6 := k1 k (by omega) 6 (by omega)
      have b0 := k2 k (by omega) 0 (by omega)
      have b1 := k2 k (by omega) 1 (by omega)
      have b2 := k2 k (by omega) 2 (by omega)
      have b3 := k2 k (by omega) 3 (by omega)
      have b4 := k2 k (by omega) 4 (by omega)
      have b5 := k2 k (by omega) 5 (by omega)
      have b6 := k2 k (by omega) 6 (by omega)
      simp only [RecD.enc, Nat.add_zero] at a0 a1 a2 a3 a4 a5 a6 b0 b1 b2 b3 b4 b5 b6
      have l1 := t1.lt
      have l2 := t2.lt
      have hb1 : (0 : Int) ≤ k := by omega
      have hb2 : (k : Int) < n := by omega
      clear k1 k2
      generalize zs[k] = z at *
      go_wp2_with fail
      go_quiet (fail)
      go_wp2_with fail
      exact ⟨⟨k + 1, by omega, by go_num, _, rfl⟩, by simp [intOf]; omega⟩
    · obtain rfl : k = n := by omega
      go_wp2_with fail
      go_ret
      exact ⟨rfl, _, rfl⟩

end Go.Proofs.YtccffkdaalnfoaaGreatDoor
