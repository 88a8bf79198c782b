/- Several texts in one. (1) The Replacer's build, of the four pairs that the stream's maker names. Conditions: the row lies in a block. (2) The Replacer at work. Conditions: a text of modest size. (3) The Replacer's maker and its one build. Conditions: the row lies in a block. -/
import Derived.Test.YtjmnkdkdjnmejaaGreatDoorRvReadGrp
import Derived.Test.YtjmnkdkdjnmejaaGreatDoorSameGrp
import Derived.Laws.MakeOwn
import Derived.Deep.WholeRow
import Derived.Laws.IdiomStrings
import Derived.Lib.SliceRun
import Derived.Test.YtjmnkdkdjnmejaaGreatDoorRpLawGrp

namespace Go.Proofs.YtjmnkdkdjnmejaaGreatDoor
open Go.RowKit
set_option linter.unusedVariables false
set_option linter.unusedSimpArgs false
theorem rp_make {α : Type} (enc : α → Nat → Value) {P : Program} (w : World) {ts t : TypeId} {sz bytes : Nat} (hu : P.underlying ts = some (.slice t)) (hi : EInfo P t sz bytes) (n : Nat) (hn : n ≤ 1000000) (hb : bytes ≤ 1000000) :
    ∃ w', (Instr.makeSlice ts (.int .i64 0) (.int .i64 (n : Int))).run P w = .ok (.slice (some ⟨w.heap.size, 0, none⟩) 0 n) w' ∧ Own w' w.heap.size t sz enc (some ⟨w.heap.size, 0, none⟩) 0 n ([] : List α) ∧ New w w' ∧ w.heap.size < w'.heap.size := by
  obtain ⟨i, z, hi0, hz, hsz, hby, hzs, h0⟩ := hi
  have hm : n * bytes ≤ 1000000 * 1000000 := Nat.mul_le_mul hn hb
  obtain ⟨w', h1, h2, h3⟩ := run_make_own w w.heap.size ts t i z sz hu hi0 hz hsz .i64 .i64 n (by rw [hby, Nat.mul_comm]; omega) (by unfold maxLen; omega) (Nat.le_refl _)
  have ho : Own w' w.heap.size t sz enc (some ⟨w.heap.size, 0, none⟩) 0 n ([] : List α) := ⟨rfl, by simpa using h2⟩
  refine ⟨w', h1, ho, (Mod.refl (fun _ => False) w).grown h3 (fun k e => by cases e), ?_⟩
  rcases ho.blk with ⟨hA, _⟩ | ⟨g, hA, hB, ht⟩
  · cases hA
  · injection hA with hA; injection hA with hA; have := ht.lt; omega

@[go_sem] theorem rp_eql (w : World) (a : Option Addr) (n c : Nat) : (binOp .eql 106 (.slice a n c) (.slice none 0 0)).run Tryz.prog w = .ok (.bool a.isNone) w :=
  Lib.run_eql_slice_nil w _ 5 a n c 0 0 Tryz.underlying106
theorem rp_back (w : World) (y : UInt8) : (convert 106 9 (.slice (some ⟨w.heap.size, 0, none⟩) 1 1)).run Tryz.prog (w.alloc (.cells #[.int .u8 (y.toNat : Int)] 5)) = .ok (.string ⟨#[y]⟩) (w.alloc (.cells #[.int .u8 (y.toNat : Int)] 5)) := by
  refine run_convert_bytes_back (w.alloc (.cells #[.int .u8 (y.toNat : Int)] 5)) 106 9 5 ⟨w.heap.size, 0, none⟩ 1 [y] Tryz.underlying106 Tryz.underlying5 Tryz.underlying9 (fun j hj => ?_)
  have hj : j = 0 := by simpa using hj
  subst hj
  exact ((Blk.new w 5 #[.int .u8 (y.toNat : Int)]).cell 0).trans rfl
theorem rp_zero : Tryz.zeroCells158.toList = List.replicate 257 (.slice none 0 0) := by kernel_rfl
theorem rp_info : (Tryz.prog.info? 158).map (·.size) = some 257 := by kernel_rfl
theorem rp_cs (x : Value) (hx : x.oneCell' = true) : ∃ cs : Array Value, Tryz.zeroCells158.toList.set 256 x = cs.toList ∧ cs.size = 257 ∧ (∀ w : World, (storeCells ⟨w.heap.size, 0, none⟩ (Tryz.zeroCells158.toList.set 256 x)).run Tryz.prog (w.alloc (.cells Tryz.zeroCells158 158)) = .ok () (w.alloc (.cells cs 158))) ∧ (∀ i, i < 256 → cs[i]? = some (.slice none 0 0)) ∧ cs[256]? = some x := by
  have hz0 : Tryz.zeroCells158.size = 257 := by rw [← Array.length_toList, rp_zero, List.length_replicate]
  have hs : ((List.replicate 257 (Value.slice none 0 0)).set 256 x).length = 257 := by rw [List.length_set, List.length_replicate]
  refine ⟨(Tryz.zeroCells158.toList.set 256 x).toArray, rfl, by rw [← Array.length_toList, List.length_set, Array.length_toList, hz0], fun w => ?_, fun i hi => ?_, ?_⟩
  · refine run_storeCells_new w _ _ (Tryz.zeroCells158.toList.set 256 x).toArray (by rw [rp_info, ← Array.length_toList, List.length_set, Array.length_toList, hz0]) (by rw [← Array.length_toList, ← Array.length_toList, List.length_set]) ?_
    rw [rp_zero]
    simp only [List.all_toArray, List.all_eq_true]
    intro v hv
    rcases List.mem_or_eq_of_mem_set hv with hv | hv
    · rw [List.eq_of_mem_replicate hv]; rfl
    · rw [hv]; exact hx
  · rw [lqt, rp_zero, List.getElem?_set_ne (by omega), List.getElem?_replicate, if_pos (by omega)]
  · rw [lqt, rp_zero, List.getElem?_set_self (by rw [List.length_replicate]; omega)]

set_option maxHeartbeats 1500000
set_option maxRecDepth 100000 in
theorem rp_build (b og oc : Nat) (rv : Value) (x0 x1 x2 : Value) (w : World) (hb : Blk w b 84 #[x0, x1, x2, rv, .slice (some ⟨og, 0, none⟩) 8 oc]) {B : Nat} (ho : Own w B 9 1 sEnc (some ⟨og, 0, none⟩) 8 oc rpOld) :
    Calls Tryz.prog 63 #[.pointer (some ⟨b, 0, none⟩)] w fun e w' => ∃ b2, e = .returned (.iface 159 (.pointer (some ⟨b2, 0, none⟩))) ∧ New w w' ∧ RpR w' w.heap.size b2 := by
  have o0 : w.cell? ⟨og, 0, none⟩ = some (.string ⟨#[44]⟩) := ho.cell1 (i := 0) (by decide)
  have o1 : w.cell? ⟨og, 1, none⟩ = some (.string ⟨#[32, 44, 10]⟩) := ho.cell1 (i := 1) (by decide)
  have o2 : w.cell? ⟨og, 2, none⟩ = some (.string ⟨#[58]⟩) := ho.cell1 (i := 2) (by decide)
  have o3 : w.cell? ⟨og, 3, none⟩ = some (.string ⟨#[32, 58, 32]⟩) := ho.cell1 (i := 3) (by decide)
  have o4 : w.cell? ⟨og, 4, none⟩ = some (.string ⟨#[91]⟩) := ho.cell1 (i := 4) (by decide)
  have o5 : w.cell? ⟨og, 5, none⟩ = some (.string ⟨#[91, 32]⟩) := ho.cell1 (i := 5) (by decide)
  have o6 : w.cell? ⟨og, 6, none⟩ = some (.string ⟨#[125]⟩) := ho.cell1 (i := 6) (by decide)
  have o7 : w.cell? ⟨og, 7, none⟩ = some (.string ⟨#[9, 125]⟩) := ho.cell1 (i := 7) (by decide)
  have c4 := hb.cell 4
  have bl := hb.lt
  have hogl : og < w.heap.size := ho.blkS.2.lt
  simp only [lqt, lqz, lqs] at c4
  have HO := hId ho
  have HB := hId hb
  clear ho hb
  obtain ⟨w1, hmk, hown1, hn1, hlt1⟩ := rp_make sEnc (P := Tryz.prog) w Tryz.underlying65 einfo_str 4 (by omega) (by omega)
  have hmk : (Instr.makeSlice 65 (.int .i64 0) (.int .i64 4)).run Tryz.prog w = .ok (.slice (some ⟨w.heap.size, 0, none⟩) 0 4) w1 := hmk
  go_enter Tryz.func63, Tryz.ntmps63
  go_wp2_with fail
  refine wp_loop_rounds 5 ?_
  rw [rounds_succ]
  go_wp2_with fail
  rw [rounds_succ]
  go_wp2_with fail
  rw [rounds_succ]
  go_wp2_with fail
  rw [rounds_succ]
  go_wp2_with fail
  rw [rounds_succ]
  go_upto_region 27 with (fail)
  obtain ⟨cs, -, hcsz, hcst, hcs0, hcs1⟩ := rp_cs (.slice (some ⟨w.heap.size, 0, none⟩) 0 4) rfl
  rw [hcst w1]
  have HCST := hId hcst
  have HCS0 := hId hcs0
  clear hcst hcs0
  simp only [Result.andThen, Oper.upon_skip]
  obtain ⟨b2, hb2⟩ : ∃ b2, w1.heap.size = b2 := ⟨_, rfl⟩
  have hbk2 : Blk (w1.alloc (.cells cs 158)) b2 158 cs := Blk.new' _ _ hb2
  have hmod2 : New w (w1.alloc (.cells cs 158)) := hn1.alloc _
  have hown2 := hown1.alloc (.cells cs 158)
  generalize w1.alloc (.cells cs 158) = w2 at *
  rw [hb2]
  obtain ⟨k4, hk4⟩ : ∃ k4, 4 = k4 := ⟨_, rfl⟩
  rw [hk4] at hown2 hcs1
  clear hk4
  have hst0 : RpS w w2 B b2 og oc cs w.heap.size k4 [] (fun _ => 0) := ⟨hmod2, HO.out.new hmod2, hogl, hbk2, by omega, hcsz, hown2, hcs1, fun y hy => .inl ⟨rfl, HCS0.out y hy⟩⟩
  have HS0 := hId hst0
  clear hst0 hbk2 hown2 o0 o1 o2 o3 o4 o5 o6 o7 HO c4 hown1
  go_wp2_with fail
  refine wp_loop_rounds 5 ?_
  rw [rounds_succ]
  have p0 : w2.cell? ⟨og, 6, none⟩ = some (.string ⟨#[125]⟩) := HS0.out.old.cell1 (i := 6) (by decide)
  have p1 : w2.cell? ⟨og, 7, none⟩ = some (.string ⟨#[9,125]⟩) := HS0.out.old.cell1 (i := 7) (by decide)
  have p2 : w2.cell? ⟨b2, 125, none⟩ = some (.slice none 0 0) := HS0.out.nil 125 (by decide) rfl
  have p3 : w2.cell? ⟨b2, 256, none⟩ = some (.slice (some ⟨w.heap.size, 0, none⟩) 0 k4) := (HS0.out.blk.cell 256).trans HS0.out.c256
  have p4 : ((⟨#[125]⟩ : ByteArray)[0].toNat : Int) = 125 := rfl
  have p5 : (convert 106 9 (.slice (some ⟨w2.heap.size, 0, none⟩) 1 1)).run Tryz.prog (w2.alloc (.cells #[.int .u8 125] 5)) = .ok (.string ⟨#[125]⟩) (w2.alloc (.cells #[.int .u8 125] 5)) := rp_back w2 125
  obtain ⟨ga1, ca1, wb1, hap, hsa, hba⟩ := rp_append HS0.out (by decide) 125
  have hap : (Builtin.append_ #[65, 65] 65 #[.slice (some ⟨w.heap.size, 0, none⟩) 0 k4, .slice (some ⟨w2.heap.size + 1, 0, none⟩) 1 1]).run Tryz.prog ((w2.alloc (.cells #[.int .u8 125] 5)).alloc (.cells #[.string ⟨#[125]⟩] 9)) = .ok (.slice (some ⟨ga1, 0, none⟩) 1 ca1) wb1 := hap
  have hsa : RpS w (wb1.setCell ⟨b2, 256, none⟩ (.slice (some ⟨ga1, 0, none⟩) 1 ca1)) B b2 og oc _ ga1 ca1 _ _ := hsa
  have q1 := hba.cell 256
  have q2 := hba.frozen 256
  obtain ⟨wc1, cc, ac, hcv, hbc, hsc⟩ := rp_conv hsa ⟨#[9,125]⟩ (by decide) 125 (by decide)
  have hsc : RpS w (wc1.setCell ⟨b2, 125, none⟩ (.slice (some ⟨ac, 0, none⟩) 2 cc)) B b2 og oc _ ga1 ca1 _ _ := hsc
  have q3 := hbc.cell 125
  have q4 := hbc.frozen 125
  have HS1 := hId hsc
  clear hsa hba hbc hsc
  go_wp2_with (at_builtin; refine rp_wp_append rfl _ _ 65 rfl rfl rfl rfl hap ?_)
  clear p0 p1 p2 p3 p4 p5 q1 q2 q3 q4 hap hcv
  generalize wc1.setCell ⟨b2, 125, none⟩ (.slice (some ⟨ac, 0, none⟩) 2 cc) = w3 at *
  rw [rounds_succ]
  have p0 : w3.cell? ⟨og, 4, none⟩ = some (.string ⟨#[91]⟩) := HS1.out.old.cell1 (i := 4) (by decide)
  have p1 : w3.cell? ⟨og, 5, none⟩ = some (.string ⟨#[91,32]⟩) := HS1.out.old.cell1 (i := 5) (by decide)
  have p2 : w3.cell? ⟨b2, 91, none⟩ = some (.slice none 0 0) := HS1.out.nil 91 (by decide) rfl
  have p3 : w3.cell? ⟨b2, 256, none⟩ = some (.slice (some ⟨ga1, 0, none⟩) 1 ca1) := (HS1.out.blk.cell 256).trans HS1.out.c256
  have p4 : ((⟨#[91]⟩ : ByteArray)[0].toNat : Int) = 91 := rfl
  have p5 : (convert 106 9 (.slice (some ⟨w3.heap.size, 0, none⟩) 1 1)).run Tryz.prog (w3.alloc (.cells #[.int .u8 91] 5)) = .ok (.string ⟨#[91]⟩) (w3.alloc (.cells #[.int .u8 91] 5)) := rp_back w3 91
  obtain ⟨ga2, ca2, wb2, hap, hsa, hba⟩ := rp_append HS1.out (by decide) 91
  have hap : (Builtin.append_ #[65, 65] 65 #[.slice (some ⟨ga1, 0, none⟩) 1 ca1, .slice (some ⟨w3.heap.size + 1, 0, none⟩) 1 1]).run Tryz.prog ((w3.alloc (.cells #[.int .u8 91] 5)).alloc (.cells #[.string ⟨#[91]⟩] 9)) = .ok (.slice (some ⟨ga2, 0, none⟩) 2 ca2) wb2 := hap
  have hsa : RpS w (wb2.setCell ⟨b2, 256, none⟩ (.slice (some ⟨ga2, 0, none⟩) 2 ca2)) B b2 og oc _ ga2 ca2 _ _ := hsa
  have q1 := hba.cell 256
  have q2 := hba.frozen 256
  obtain ⟨wc2, cc, ac, hcv, hbc, hsc⟩ := rp_conv hsa ⟨#[91,32]⟩ (by decide) 91 (by decide)
  have hsc : RpS w (wc2.setCell ⟨b2, 91, none⟩ (.slice (some ⟨ac, 0, none⟩) 2 cc)) B b2 og oc _ ga2 ca2 _ _ := hsc
  have q3 := hbc.cell 91
  have q4 := hbc.frozen 91
  have HS2 := hId hsc
  clear hsa hba hbc hsc
  go_wp2_with (at_builtin; refine rp_wp_append rfl _ _ 65 rfl rfl rfl rfl hap ?_)
  clear p0 p1 p2 p3 p4 p5 q1 q2 q3 q4 hap hcv
  generalize wc2.setCell ⟨b2, 91, none⟩ (.slice (some ⟨ac, 0, none⟩) 2 cc) = w4 at *
  rw [rounds_succ]
  have p0 : w4.cell? ⟨og, 2, none⟩ = some (.string ⟨#[58]⟩) := HS2.out.old.cell1 (i := 2) (by decide)
  have p1 : w4.cell? ⟨og, 3, none⟩ = some (.string ⟨#[32,58,32]⟩) := HS2.out.old.cell1 (i := 3) (by decide)
  have p2 : w4.cell? ⟨b2, 58, none⟩ = some (.slice none 0 0) := HS2.out.nil 58 (by decide) rfl
  have p3 : w4.cell? ⟨b2, 256, none⟩ = some (.slice (some ⟨ga2, 0, none⟩) 2 ca2) := (HS2.out.blk.cell 256).trans HS2.out.c256
  have p4 : ((⟨#[58]⟩ : ByteArray)[0].toNat : Int) = 58 := rfl
  have p5 : (convert 106 9 (.slice (some ⟨w4.heap.size, 0, none⟩) 1 1)).run Tryz.prog (w4.alloc (.cells #[.int .u8 58] 5)) = .ok (.string ⟨#[58]⟩) (w4.alloc (.cells #[.int .u8 58] 5)) := rp_back w4 58
  obtain ⟨ga3, ca3, wb3, hap, hsa, hba⟩ := rp_append HS2.out (by decide) 58
  have hap : (Builtin.append_ #[65, 65] 65 #[.slice (some ⟨ga2, 0, none⟩) 2 ca2, .slice (some ⟨w4.heap.size + 1, 0, none⟩) 1 1]).run Tryz.prog ((w4.alloc (.cells #[.int .u8 58] 5)).alloc (.cells #[.string ⟨#[58]⟩] 9)) = .ok (.slice (some ⟨ga3, 0, none⟩) 3 ca3) wb3 := hap
  have hsa : RpS w (wb3.setCell ⟨b2, 256, none⟩ (.slice (some ⟨ga3, 0, none⟩) 3 ca3)) B b2 og oc _ ga3 ca3 _ _ := hsa
  have q1 := hba.cell 256
  have q2 := hba.frozen 256
  obtain ⟨wc3, cc, ac, hcv, hbc, hsc⟩ := rp_conv hsa ⟨#[32,58,32]⟩ (by decide) 58 (by decide)
  have hsc : RpS w (wc3.setCell ⟨b2, 58, none⟩ (.slice (some ⟨ac, 0, none⟩) 3 cc)) B b2 og oc _ ga3 ca3 _ _ := hsc
  have q3 := hbc.cell 58
  have q4 := hbc.frozen 58
  have HS3 := hId hsc
  clear hsa hba hbc hsc
  go_wp2_with (at_builtin; refine rp_wp_append rfl _ _ 65 rfl rfl rfl rfl hap ?_)
  clear p0 p1 p2 p3 p4 p5 q1 q2 q3 q4 hap hcv
  generalize wc3.setCell ⟨b2, 58, none⟩ (.slice (some ⟨ac, 0, none⟩) 3 cc) = w5 at *
  rw [rounds_succ]
  have p0 : w5.cell? ⟨og, 0, none⟩ = some (.string ⟨#[44]⟩) := HS3.out.old.cell1 (i := 0) (by decide)
  have p1 : w5.cell? ⟨og, 1, none⟩ = some (.string ⟨#[32,44,10]⟩) := HS3.out.old.cell1 (i := 1) (by decide)
  have p2 : w5.cell? ⟨b2, 44, none⟩ = some (.slice none 0 0) := HS3.out.nil 44 (by decide) rfl
  have p3 : w5.cell? ⟨b2, 256, none⟩ = some (.slice (some ⟨ga3, 0, none⟩) 3 ca3) := (HS3.out.blk.cell 256).trans HS3.out.c256
  have p4 : ((⟨#[44]⟩ : ByteArray)[0].toNat : Int) = 44 := rfl
  have p5 : (convert 106 9 (.slice (some ⟨w5.heap.size, 0, none⟩) 1 1)).run Tryz.prog (w5.alloc (.cells #[.int .u8 44] 5)) = .ok (.string ⟨#[44]⟩) (w5.alloc (.cells #[.int .u8 44] 5)) := rp_back w5 44
  obtain ⟨ga4, ca4, wb4, hap, hsa, hba⟩ := rp_append HS3.out (by decide) 44
  have hap : (Builtin.append_ #[65, 65] 65 #[.slice (some ⟨ga3, 0, none⟩) 3 ca3, .slice (some ⟨w5.heap.size + 1, 0, none⟩) 1 1]).run Tryz.prog ((w5.alloc (.cells #[.int .u8 44] 5)).alloc (.cells #[.string ⟨#[44]⟩] 9)) = .ok (.slice (some ⟨ga4, 0, none⟩) 4 ca4) wb4 := hap
  have hsa : RpS w (wb4.setCell ⟨b2, 256, none⟩ (.slice (some ⟨ga4, 0, none⟩) 4 ca4)) B b2 og oc _ ga4 ca4 _ _ := hsa
  have q1 := hba.cell 256
  have q2 := hba.frozen 256
  obtain ⟨wc4, cc, ac, hcv, hbc, hsc⟩ := rp_conv hsa ⟨#[32,44,10]⟩ (by decide) 44 (by decide)
  have hsc : RpS w (wc4.setCell ⟨b2, 44, none⟩ (.slice (some ⟨ac, 0, none⟩) 3 cc)) B b2 og oc _ ga4 ca4 _ _ := hsc
  have q3 := hbc.cell 44
  have q4 := hbc.frozen 44
  have HS4 := hId hsc
  clear hsa hba hbc hsc
  go_wp2_with (at_builtin; refine rp_wp_append rfl _ _ 65 rfl rfl rfl rfl hap ?_)
  clear p0 p1 p2 p3 p4 p5 q1 q2 q3 q4 hap hcv
  generalize wc4.setCell ⟨b2, 44, none⟩ (.slice (some ⟨ac, 0, none⟩) 3 cc) = w6 at *
  rw [rounds_succ]
  go_wp2_with fail
  have hR : RpR w6 w.heap.size b2 := ⟨HS4.out.hb2, _, ga4, ca4, HS4.out.blk, HS4.out.sz, HS4.out.row, HS4.out.c256, HS4.out.rep⟩
  exact bodyPost_ret (v := .iface 159 (.pointer (some ⟨b2, 0, none⟩))) (by simp [results, Tryz.results63, go_sem]) rfl ⟨b2, rfl, HS4.out.new, hR⟩
@[go_sem] theorem rp_neq (w : World) (a : Option Addr) (n c : Nat) : (binOp .neq 106 (.slice a n c) (.slice none 0 0)).run Tryz.prog w = .ok (.bool (!a.isNone)) w := by
  have := Lib.run_equalIn_slice_nil (P := Tryz.prog) w 9999 106 5 a n c 0 0 Tryz.underlying106
  simp only [binOp]
  simp [Op.equal, Op.maxDepth, this]
set_option maxHeartbeats 1500000 in
set_option maxRecDepth 100000 in
theorem rp_replace (b0 b2 : Nat) (s : ByteArray) (w : World) (h : RpR w b0 b2) (hs : s.size ≤ 1000000) :
    Calls Tryz.prog 229 #[.pointer (some ⟨b2, 0, none⟩), .string s] w fun e w' => ∃ t : ByteArray, e = .returned (.string t) ∧ t.size ≤ 3 * s.size ∧ New w w' := by
  obtain ⟨hb, cs, gk, ck, h1, h2, h3, h4, h5⟩ := h
  have mixed : Tryz.prog.follows .mixedOrders = true := by kernel_rfl
  have r256 := (h1.cell 256).trans h4
  have hN4 := rpNs_all s.data.toList
  have hN0 : rpNs s.data.toList 0 = s.size := by simp [rpNs]
  have hNle := rpNs_le s.data.toList
  obtain ⟨hLb, hLe⟩ := rpLen_bd s.data.toList
  have hsz : s.data.toList.length = s.size := rfl
  have bl := h1.lt
  have H1 := hId h1
  have H3 := hId h3
  have H5 := hId h5
  have HN4 := hId hN4
  have HN0 := hId hN0
  have HNL := hId hNle
  have HLB := hId hLb
  have HLE := hId hLe
  have HSZ := hId hsz
  clear h1 h3 h5 hN4 hN0 hNle hLb hLe hsz
  go_enter Tryz.func229, Tryz.ntmps229
  by_cases h32 : 32 ≤ s.size
  · have h32i : (32 : Int) ≤ (s.size : Int) := by omega
    have h32d : decide ((32 : Int) ≤ (s.size : Int)) = true := by simp only [decide_eq_true_eq]; omega
    go_upto_region 5 with (fail)
    go_loopw [5, 6, 8, 9, 32] (fun ns ac _ _ i wr => ∃ (k : Nat) (f : Bool), k ≤ 4 ∧ i = .int .i64 k ∧ ac = .bool f ∧ ns = .int .i64 (rpNs s.data.toList k) ∧ Hid (New w wr)) (fun _ _ _ _ i _ => 4 - (intOf i).toNat)
    case atStart => exact ⟨0, false, by omega, rfl, rfl, by rw [HN0.out], hId (Mod.refl _ _)⟩
    case round =>
      rename World => wr
      obtain ⟨k, f, hk, rfl, rfl, rfl, HN⟩ := hrel
      by_cases hlt : k < 4
      · have hl4 : k < rpNew.length := hlt
        have pp := (H3.out.new HN.out).cell1 hl4
        obtain ⟨e1, hm2, hm3⟩ := rpBs_get hlt
        have hns := rpNs_succ s.data.toList hlt
        have p0 : wr.cell? ⟨gk, k, none⟩ = some (.string ⟨#[rpBs[k]'hlt]⟩) := pp.trans (congrArg (fun t => some (Value.string t)) e1)
        clear e1 pp
        generalize rpBs[k]'hlt = c at *
        have hc := Tryz.strings_Count_one s c wr
        have hnl := HNL.out (k + 1)
        have hle := HLE.out
        have hlb := HSZ.out
        obtain ⟨ns2, hns2⟩ : ∃ ns2, rpNs s.data.toList (k + 1) = ns2 := ⟨_, rfl⟩
        rw [hns2] at hns hnl
        have HE2 := hId hns2
        clear hns2
        generalize rpNs s.data.toList k = ns at *
        generalize Lib.countByte s.data.toList c = cnt at *
        have hcx : c.toNat < 256 := c.toNat_lt
        have p4 : (((⟨#[c]⟩ : ByteArray)[0]'(by show 0 < 1; omega)).toNat : Int) = (c.toNat : Int) := rfl
        have hcell := H5.out c.toNat hcx
        generalize c.toNat = x at *
        rcases hcell with ⟨e, _⟩ | ⟨_, g, cc, L, hL, hcl, hbr, _⟩
        · omega
        have p2 := ((H1.out.mod HN.out (fun x => x)).cell x).trans hcl
        have p3 := ((H1.out.mod HN.out (fun x => x)).cell 256).trans h4
        generalize rpW x = m at *
        obtain ⟨m1, hm1⟩ : ∃ m1, m - 1 = m1 := ⟨_, rfl⟩
        rw [hm1] at hns
        obtain ⟨q, hq⟩ : ∃ q, cnt * m1 = q := ⟨_, rfl⟩
        rw [hq] at hns
        have hcnt : cnt ≤ q := by rw [← hq]; exact Nat.le_mul_of_pos_right _ (by omega)
        have hw1 : IntKind.i64.wrap ((m : Int) - 1) = (m1 : Int) := by rw [IntKind.wrap_i64] <;> omega
        have hw2 : IntKind.i64.wrap ((cnt : Int) * (m1 : Int)) = (q : Int) := by rw [← hq, Int.natCast_mul, IntKind.wrap_i64] <;> (rw [← Int.natCast_mul, hq]; omega)
        have hw3 : IntKind.i64.wrap ((ns : Int) + (q : Int)) = (ns2 : Int) := by rw [IntKind.wrap_i64] <;> omega
        have hns' : cnt = 0 → ns2 = ns := fun e => by rw [e, Nat.zero_mul] at hq; omega
        have HNS := hId hns'
        clear hns hq hcnt hns' hm1 hnl hle hlb hbr hL hcl hm2 hm3
        go_wp2_with fail
        refine hc.mono ?_
        clear hc
        rintro e w2 ⟨rfl, rfl⟩
        by_cases h0 : cnt = 0
        · obtain rfl := h0
          go_wp2_with fail
          go_roundw
          case rel => exact ⟨k + 1, f, by omega, by go_num, rfl, by rw [HE2.out, HNS.out trivial], HN⟩
          case measure => simp [intOf]; omega
        · have h0' : ((cnt : Int) == 0) = false := by simp only [beq_eq_false_iff_ne, ne_eq]; omega
          go_upto_region 9 with (fail)
          go_quiet (fail)
          go_wp2_with fail
          go_roundw
          case rel => exact ⟨k + 1, true, by omega, by go_num, rfl, by rw [HE2.out], hId (HN.out.drewN _)⟩
          case measure => simp [intOf]; omega
      · obtain rfl : k = 4 := by omega
        rw [HN4.out]
        have HLE1 : Hid (rpLen s.data.toList ≤ 3 * s.size) := hId (by have := HLE.out; rw [HSZ.out] at this; exact this)
        cases f
        · have hle1 := HLE1.out
          have hq1 : s.size ≤ 3 * s.size := by omega
          go_wp2_with fail
          exact bodyPost_ret (v := .string s) (by simp [results, Tryz.results229, go_sem]) rfl ⟨s, rfl, hq1, HN.out⟩
        · obtain ⟨w1, hmk, hbb, hnw⟩ := BB.make wr (rpLen s.data.toList) (by have := HLE1.out; omega)
          have hmk := hmk 0
          have hwg : w.heap.size ≤ wr.heap.size := HN.out.size
          obtain ⟨gb, hgb⟩ : ∃ gb, wr.heap.size = gb := ⟨_, rfl⟩
          rw [hgb] at hmk hbb hwg
          have HN1 : Hid (New w w1) := hId (HN.out.trans hnw)
          have HBB := hId hbb
          obtain ⟨n, hn⟩ : ∃ n, rpLen s.data.toList = n := ⟨_, rfl⟩
          have HNN := hId hn
          rw [hn] at hmk ⊢
          clear hn hbb hnw hgb HN
          go_wp2_with fail
          go_loopw [13, 14, 15] (fun j i _ wr => ∃ (k : Nat) (l : List UInt8), k ≤ s.size ∧ i = .int .i64 k ∧ j = .int .i64 (rpLen (s.data.toList.take k)) ∧ Hid (l.length = n) ∧ Hid (BB wr gb l) ∧ Hid (New w wr)) (fun _ i _ _ => s.size - (intOf i).toNat)
          case atStart => exact ⟨0, _, by omega, rfl, by simp [rpLen], hId (by rw [List.length_replicate, HNN.out]), HBB, HN1⟩
          case round =>
            clear HN1 HBB hmk
            rename World => wr
            obtain ⟨k, l, hk, rfl, rfl, HL, HBB, HN⟩ := hrel
            by_cases hlt : k < s.size
            · have hkl : k < s.data.toList.length := hlt
              have htk := rpLen_take s.data.toList hkl
              have hlt2 := rpLen_lt s.data.toList hkl
              have e1 : s.data.toList[k] = s[k] := by simp [ByteArray.getElem_eq_getElem_data]
              rw [e1] at htk hlt2
              obtain ⟨j2, hj2⟩ : ∃ j2, rpLen (s.data.toList.take (k + 1)) = j2 := ⟨_, rfl⟩
              rw [hj2] at htk
              have HJ2 := hId hj2
              clear hj2 e1
              rw [HNN.out] at hlt2
              have hnle := HLE1.out
              rw [HNN.out] at hnle
              generalize rpLen (s.data.toList.take k) = j at *
              generalize hc : s[k] = c at *
              have hcx : c.toNat < 256 := c.toNat_lt
              have hcell := H5.out c.toNat hcx
              have hwd : rpWd c = if rpW c.toNat = 0 then 1 else rpW c.toNat := rfl
              rw [hwd] at htk hlt2
              clear hwd
              obtain ⟨x, hx⟩ : ∃ x, c.toNat = x := ⟨_, rfl⟩
              rw [hx] at hcx hcell htk hlt2
              have hgl := Blk.lt HBB.out
              rcases hcell with ⟨e, hcl⟩ | ⟨hpos, g, cc, L, hL, hcl, hbr, hgb0⟩
              · rw [if_pos e] at htk hlt2
                have p2 := ((H1.out.mod HN.out (fun x => x)).cell x).trans hcl
                have hjl : j < l.length := by rw [HL.out]; omega
                obtain ⟨y1, q1⟩ : ∃ y, wr.cell? ⟨gb, j, none⟩ = some y := ⟨_, BB.cell HBB.out hjl⟩
                have q2 := Blk.frozen HBB.out j
                have HB2 : Hid (BB (wr.setCell ⟨gb, j, none⟩ (.int .u8 (x : Int))) gb (l.set j c)) := hId (by rw [← hx]; exact HBB.out.set j c)
                have HN2 : Hid (New w (wr.setCell ⟨gb, j, none⟩ (.int .u8 (x : Int)))) := hId (HN.out.setCell (.inr hwg) _)
                have HJE := hId htk
                have hjn : (j : Int) < (n : Int) := by omega
                have hjw : IntKind.i64.wrap ((j : Int) + 1) = (j : Int) + 1 := by rw [IntKind.wrap_i64] <;> omega
                clear htk hlt2 e hcl hjl HBB HN
                go_wp2_with fail
                go_roundw
                case rel => exact ⟨k + 1, _, by omega, by go_num, by rw [HJ2.out]; have := HJE.out; simp only [Value.int.injEq, true_and]; omega, hId (by rw [List.length_set]; exact HL.out), HB2, HN2⟩
                case measure => simp [intOf]; omega
              · rw [if_neg (by omega)] at htk hlt2
                have p2 := ((H1.out.mod HN.out (fun x => x)).cell x).trans hcl
                have hbr2 := hbr.mod HN.out (fun x => x)
                have hnd : New wr wr.drew := (Mod.refl _ _).drew
                obtain ⟨w9, l9, hcp, hbb9, hl9, hm9⟩ := BB.copy (HBB.out.mod hnd (fun x => x)) (hbr2.mod hnd (fun x => x)) (j := j) (by rw [hL, HL.out]; omega)
                rw [HL.out, hL] at hcp
                have HL9 : Hid (l9.length = n) := hId (by rw [hl9]; exact HL.out)
                have HB9 := hId hbb9
                have HN9 : Hid (New w w9) := hId ((HN.out.drew).step hm9 (fun i hi e => by omega))
                have HJE := hId htk
                generalize rpW x = m at *
                have hjn : (j : Int) ≤ (n : Int) := by omega
                have hjn' : j ≤ n := by omega
                have hjne : ¬ (n = j) := by omega
                have hcxi : (x : Int) < 256 := by omega
                have hcx0 : ¬ (256 ≤ (x : Int)) := by omega
                have hcx1 : (0 : Int) ≤ (x : Int) := by omega
                have hjw : IntKind.i64.wrap ((j : Int) + (m : Int)) = (j : Int) + (m : Int) := by rw [IntKind.wrap_i64] <;> omega
                clear htk hlt2 hpos hcl hbr hbr2 hL HBB HN hnd hbb9 hl9 hm9 hgb0
                go_upto_region 28 with (fail)
                go_region_law_o (refine step_copy_by rfl _ _ 106 106 rfl (by simp [Act.eval, Act.put]; rfl) (by simp [Act.eval, Act.put]; rfl) (fun ty => hcp ty _ _) ?_)
                go_wp2_with fail
                first
                | refine ⟨⟨k + 1, by omega, by omega, by rw [HJ2.out]; have := HJE.out; omega, _, HL9, HB9⟩, by simp [intOf]; omega⟩
                | (go_roundw
                   case rel => exact ⟨k + 1, _, by omega, by go_num, by rw [HJ2.out]; have := HJE.out; simp only [Value.int.injEq, true_and]; omega, HL9, HB9, HN9⟩
                   case measure => simp [intOf]; omega)
                | refine ⟨⟨k + 1, _, by omega, by go_num, by rw [HJ2.out]; have := HJE.out; simp only [Value.int.injEq, true_and]; omega, HL9, HB9, HN9⟩, by simp [intOf]; omega⟩
            · obtain rfl : k = s.size := by omega
              have hst := BB.string (c := n) HBB.out
              rw [HL.out] at hst
              have hts : l.toArray.size ≤ 3 * s.size := by rw [List.size_toArray, HL.out, ← HNN.out]; exact HLE1.out
              have HTS := hId hts
              clear hts
              go_wp2_with fail
              exact bodyPost_ret (v := .string ⟨l.toArray⟩) (by simp [results, Tryz.results229, go_sem]) rfl ⟨⟨l.toArray⟩, rfl, HTS.out, HN.out⟩
  · have h32i : ¬ ((32 : Int) ≤ (s.size : Int)) := by omega
    have h32d : decide ((32 : Int) ≤ (s.size : Int)) = false := by simp only [decide_eq_false_iff_not]; omega
    go_upto_region 13 with (fail)
    go_loopw [5, 6, 10, 11] (fun ns ac i _ wr => ∃ (k : Nat) (f : Bool), k ≤ s.size ∧ i = .int .i64 k ∧ ac = .bool f ∧ ns = .int .i64 ((rpLen (s.data.toList.take k) + (s.size - k) : Nat) : Int) ∧ Hid (New w wr)) (fun _ _ i _ _ => s.size - (intOf i).toNat)
    case atStart => exact ⟨0, false, by omega, rfl, rfl, by simp [rpLen], hId (Mod.refl _ _)⟩
    case round =>
      rename World => wr
      obtain ⟨k, f, hk, rfl, rfl, rfl, HN⟩ := hrel
      by_cases hlt : k < s.size
      · have hkl : k < s.data.toList.length := hlt
        have htk := rpLen_take s.data.toList hkl
        have hlt2 := rpLen_lt s.data.toList hkl
        have e1 : s.data.toList[k] = s[k] := by simp [ByteArray.getElem_eq_getElem_data]
        rw [e1] at htk hlt2
        have hle := HLE.out
        rw [HSZ.out] at hle
        generalize hc : s[k] = c at *
        have hcx : c.toNat < 256 := c.toNat_lt
        have hcell := H5.out c.toNat hcx
        have hwd : rpWd c = if rpW c.toNat = 0 then 1 else rpW c.toNat := rfl
        rw [hwd] at htk hlt2
        clear hwd
        obtain ⟨x, hx⟩ : ∃ x, c.toNat = x := ⟨_, rfl⟩
        rw [hx] at hcx hcell htk hlt2
        have hcxi : (x : Int) < 256 := by omega
        have hcx1 : (0 : Int) ≤ (x : Int) := by omega
        rcases hcell with ⟨e, hcl⟩ | ⟨hpos, g, cc, L, hL, hcl, hbr, hgb0⟩
        · rw [if_pos e] at htk hlt2
          have p2 := ((H1.out.mod HN.out (fun x => x)).cell x).trans hcl
          have HJ2 : Hid (rpLen (s.data.toList.take (k + 1)) + (s.size - (k + 1)) = rpLen (s.data.toList.take k) + (s.size - k)) := hId (by omega)
          clear htk hlt2 e hcl
          generalize rpLen (s.data.toList.take k) + (s.size - k) = ns at *
          go_wp2_with fail
          go_roundw
          case rel => exact ⟨k + 1, f, by omega, by go_num, rfl, by rw [HJ2.out], HN⟩
          case measure => simp [intOf]; omega
        · rw [if_neg (by omega)] at htk hlt2
          have p2 := ((H1.out.mod HN.out (fun x => x)).cell x).trans hcl
          have p2d : wr.drew.cell? ⟨b2, x, none⟩ = some (.slice (some ⟨g, 0, none⟩) (rpW x) cc) := by rw [World.cell?_drew]; exact p2
          have HJ2 : Hid (rpLen (s.data.toList.take (k + 1)) + (s.size - (k + 1)) = rpLen (s.data.toList.take k) + (s.size - k) + (rpW x - 1)) := hId (by omega)
          have hm3 := rpW_le x
          have hns : rpLen (s.data.toList.take k) + (s.size - k) ≤ 3 * s.size := by have := rpLen_le s.data.toList k; rw [HSZ.out] at this; omega
          clear htk hlt2 hcl
          generalize rpLen (s.data.toList.take k) + (s.size - k) = ns at *
          generalize rpW x = m at *
          have hw1 : IntKind.i64.wrap ((m : Int) - 1) = (m : Int) - 1 := by rw [IntKind.wrap_i64] <;> omega
          have hw3 : IntKind.i64.wrap ((ns : Int) + ((m : Int) - 1)) = (ns : Int) + ((m : Int) - 1) := by rw [IntKind.wrap_i64] <;> omega
          go_wp2_with fail
          go_roundw
          case rel => exact ⟨k + 1, true, by omega, by go_num, rfl, by rw [HJ2.out]; simp only [Value.int.injEq, true_and]; omega, hId HN.out⟩
          case measure => simp [intOf]; omega
      · obtain rfl : k = s.size := by omega
        have hN : rpLen (s.data.toList.take s.size) + (s.size - s.size) = rpLen s.data.toList := by rw [← HSZ.out, List.take_length]; omega
        rw [hN]
        have HLE1 : Hid (rpLen s.data.toList ≤ 3 * s.size) := hId (by have := HLE.out; rw [HSZ.out] at this; exact this)
        cases f
        · have hle1 := HLE1.out
          have hq1 : s.size ≤ 3 * s.size := by omega
          go_wp2_with fail
          exact bodyPost_ret (v := .string s) (by simp [results, Tryz.results229, go_sem]) rfl ⟨s, rfl, hq1, HN.out⟩
        · obtain ⟨w1, hmk, hbb, hnw⟩ := BB.make wr (rpLen s.data.toList) (by have := HLE1.out; omega)
          have hmk := hmk 0
          have hwg : w.heap.size ≤ wr.heap.size := HN.out.size
          obtain ⟨gb, hgb⟩ : ∃ gb, wr.heap.size = gb := ⟨_, rfl⟩
          rw [hgb] at hmk hbb hwg
          have HN1 : Hid (New w w1) := hId (HN.out.trans hnw)
          have HBB := hId hbb
          obtain ⟨n, hn⟩ : ∃ n, rpLen s.data.toList = n := ⟨_, rfl⟩
          have HNN := hId hn
          rw [hn] at hmk ⊢
          clear hn hbb hnw hgb HN
          go_wp2_with fail
          go_loopw [13, 14, 15] (fun j i _ wr => ∃ (k : Nat) (l : List UInt8), k ≤ s.size ∧ i = .int .i64 k ∧ j = .int .i64 (rpLen (s.data.toList.take k)) ∧ Hid (l.length = n) ∧ Hid (BB wr gb l) ∧ Hid (New w wr)) (fun _ i _ _ => s.size - (intOf i).toNat)
          case atStart => exact ⟨0, _, by omega, rfl, by simp [rpLen], hId (by rw [List.length_replicate, HNN.out]), HBB, HN1⟩
          case round =>
            clear HN1 HBB hmk
            rename World => wr
            obtain ⟨k, l, hk, rfl, rfl, HL, HBB, HN⟩ := hrel
            by_cases hlt : k < s.size
            · have hkl : k < s.data.toList.length := hlt
              have htk := rpLen_take s.data.toList hkl
              have hlt2 := rpLen_lt s.data.toList hkl
              have e1 : s.data.toList[k] = s[k] := by simp [ByteArray.getElem_eq_getElem_data]
              rw [e1] at htk hlt2
              obtain ⟨j2, hj2⟩ : ∃ j2, rpLen (s.data.toList.take (k + 1)) = j2 := ⟨_, rfl⟩
              rw [hj2] at htk
              have HJ2 := hId hj2
              clear hj2 e1
              rw [HNN.out] at hlt2
              have hnle := HLE1.out
              rw [HNN.out] at hnle
              generalize rpLen (s.data.toList.take k) = j at *
              generalize hc : s[k] = c at *
              have hcx : c.toNat < 256 := c.toNat_lt
              have hcell := H5.out c.toNat hcx
              have hwd : rpWd c = if rpW c.toNat = 0 then 1 else rpW c.toNat := rfl
              rw [hwd] at htk hlt2
              clear hwd
              obtain ⟨x, hx⟩ : ∃ x, c.toNat = x := ⟨_, rfl⟩
              rw [hx] at hcx hcell htk hlt2
              have hgl := Blk.lt HBB.out
              rcases hcell with ⟨e, hcl⟩ | ⟨hpos, g, cc, L, hL, hcl, hbr, hgb0⟩
              · rw [if_pos e] at htk hlt2
                have p2 := ((H1.out.mod HN.out (fun x => x)).cell x).trans hcl
                have hjl : j < l.length := by rw [HL.out]; omega
                obtain ⟨y1, q1⟩ : ∃ y, wr.cell? ⟨gb, j, none⟩ = some y := ⟨_, BB.cell HBB.out hjl⟩
                have q2 := Blk.frozen HBB.out j
                have HB2 : Hid (BB (wr.setCell ⟨gb, j, none⟩ (.int .u8 (x : Int))) gb (l.set j c)) := hId (by rw [← hx]; exact HBB.out.set j c)
                have HN2 : Hid (New w (wr.setCell ⟨gb, j, none⟩ (.int .u8 (x : Int)))) := hId (HN.out.setCell (.inr hwg) _)
                have HJE := hId htk
                have hjn : (j : Int) < (n : Int) := by omega
                have hjw : IntKind.i64.wrap ((j : Int) + 1) = (j : Int) + 1 := by rw [IntKind.wrap_i64] <;> omega
                clear htk hlt2 e hcl hjl HBB HN
                go_wp2_with fail
                go_roundw
                case rel => exact ⟨k + 1, _, by omega, by go_num, by rw [HJ2.out]; have := HJE.out; simp only [Value.int.injEq, true_and]; omega, hId (by rw [List.length_set]; exact HL.out), HB2, HN2⟩
                case measure => simp [intOf]; omega
              · rw [if_neg (by omega)] at htk hlt2
                have p2 := ((H1.out.mod HN.out (fun x => x)).cell x).trans hcl
                have hbr2 := hbr.mod HN.out (fun x => x)
                have hnd : New wr wr.drew := (Mod.refl _ _).drew
                obtain ⟨w9, l9, hcp, hbb9, hl9, hm9⟩ := BB.copy (HBB.out.mod hnd (fun x => x)) (hbr2.mod hnd (fun x => x)) (j := j) (by rw [hL, HL.out]; omega)
                rw [HL.out, hL] at hcp
                have HL9 : Hid (l9.length = n) := hId (by rw [hl9]; exact HL.out)
                have HB9 := hId hbb9
                have HN9 : Hid (New w w9) := hId ((HN.out.drew).step hm9 (fun i hi e => by omega))
                have HJE := hId htk
                generalize rpW x = m at *
                have hjn : (j : Int) ≤ (n : Int) := by omega
                have hjn' : j ≤ n := by omega
                have hjne : ¬ (n = j) := by omega
                have hcxi : (x : Int) < 256 := by omega
                have hcx0 : ¬ (256 ≤ (x : Int)) := by omega
                have hcx1 : (0 : Int) ≤ (x : Int) := by omega
                have hjw : IntKind.i64.wrap ((j : Int) + (m : Int)) = (j : Int) + (m : Int) := by rw [IntKind.wrap_i64] <;> omega
                clear htk hlt2 hpos hcl hbr hbr2 hL HBB HN hnd hbb9 hl9 hm9 hgb0
                go_upto_region 28 with (fail)
                go_region_law_o (refine step_copy_by rfl _ _ 106 106 rfl (by simp [Act.eval, Act.put]; rfl) (by simp [Act.eval, Act.put]; rfl) (fun ty => hcp ty _ _) ?_)
                go_wp2_with fail
                first
                | refine ⟨⟨k + 1, by omega, by omega, by rw [HJ2.out]; have := HJE.out; omega, _, HL9, HB9⟩, by simp [intOf]; omega⟩
                | (go_roundw
                   case rel => exact ⟨k + 1, _, by omega, by go_num, by rw [HJ2.out]; have := HJE.out; simp only [Value.int.injEq, true_and]; omega, HL9, HB9, HN9⟩
                   case measure => simp [intOf]; omega)
                | refine ⟨⟨k + 1, _, by omega, by go_num, by rw [HJ2.out]; have := HJE.out; simp only [Value.int.injEq, true_and]; omega, HL9, HB9, HN9⟩, by simp [intOf]; omega⟩
            · obtain rfl : k = s.size := by omega
              have hst := BB.string (c := n) HBB.out
              rw [HL.out] at hst
              have hts : l.toArray.size ≤ 3 * s.size := by rw [List.size_toArray, HL.out, ← HNN.out]; exact HLE1.out
              have HTS := hId hts
              clear hts
              go_wp2_with fail
              exact bodyPost_ret (v := .string ⟨l.toArray⟩) (by simp [results, Tryz.results229, go_sem]) rfl ⟨⟨l.toArray⟩, rfl, HTS.out, HN.out⟩
set_option maxHeartbeats 1000000 in
theorem rp_once (b og oc : Nat) (rv : Value) (x0 x1 x2 : Value) (w : World) (hb : Blk w b 84 #[x0, x1, x2, rv, .slice (some ⟨og, 0, none⟩) 8 oc]) {B : Nat} (ho : Own w B 9 1 sEnc (some ⟨og, 0, none⟩) 8 oc rpOld) :
    Calls Tryz.prog 33 #[.pointer (some ⟨b, 0, none⟩)] w fun e w' => e = .returned (.tuple #[]) ∧ ∃ b2, Blk w' b 84 #[x0, x1, x2, .iface 159 (.pointer (some ⟨b2, 0, none⟩)), .slice none 0 0] ∧ RpR w' w.heap.size b2 ∧ Mod (fun k => k = b) w w' := by
  have hc := rp_build b og oc rv x0 x1 x2 w hb ho
  have bl := hb.lt
  have HB := hId hb
  clear hb ho
  go_enter Tryz.func33, Tryz.ntmps33
  go_wp2_with fail
  refine hc.mono ?_
  clear hc
  rintro e w1 ⟨b2, rfl, hn, hr⟩
  have hb1 := HB.out.mod hn (fun x => x)
  have q3 := hb1.cell 3
  have z3 := hb1.frozen 3
  have q4 := hb1.cell 4
  have z4 := hb1.frozen 4
  have hb2 := (hb1.set 3 (.iface 159 (.pointer (some ⟨b2, 0, none⟩)))).set 4 (.slice none 0 0)
  have HB2 : Hid (Blk ((w1.setCell ⟨b, 3, none⟩ (.iface 159 (.pointer (some ⟨b2, 0, none⟩)))).setCell ⟨b, 4, none⟩ (.slice none 0 0)) b 84 #[x0, x1, x2, .iface 159 (.pointer (some ⟨b2, 0, none⟩)), .slice none 0 0]) := hId (by simpa using hb2)
  have hms : Mod (fun k => k = b) w1 ((w1.setCell ⟨b, 3, none⟩ (.iface 159 (.pointer (some ⟨b2, 0, none⟩)))).setCell ⟨b, 4, none⟩ (.slice none 0 0)) := ((Mod.refl (fun k => k = b) w1).setCell (p := ⟨b, 3, none⟩) (.inl rfl) _).setCell (p := ⟨b, 4, none⟩) (.inl rfl) _
  have HR := hId (hr.mod hms (fun g h1 h2 => by omega))
  have HM : Hid (Mod (fun k => k = b) w _) := hId ((hn.mono (T := fun k => k = b) (fun _ _ x => x.elim)).step hms (fun i _ e => e))
  clear hb1 hb2 hms hr hn HB
  go_wp2_with fail
  first | go_end0 | (simp only [Exit.inBlock, Exit.then]; refine bodyPost_ret (results_none rfl _ _ _) rfl ?_) | refine bodyPost_ret (results_none rfl _ _ _) rfl ?_
  exact ⟨rfl, b2, HB2.out, HR.out, HM.out⟩

set_option maxHeartbeats 1000000 in
theorem rp_new (B g c : Nat) (w : World) (ho : Own w B 9 1 sEnc (some ⟨g, 0, none⟩) 8 c rpOld) :
    Calls Tryz.prog 13 #[.slice (some ⟨g, 0, none⟩) 8 c] w fun e w' => ∃ b og oc, e = .returned (.pointer (some ⟨b, 0, none⟩)) ∧ New w w' ∧ w.heap.size ≤ b ∧ w.heap.size ≤ og ∧ Blk w' b 84 #[.int .u32 0, .int .i32 0, .int .u32 0, .nilIface, .slice (some ⟨og, 0, none⟩) 8 oc] ∧ Own w' w.heap.size 9 1 sEnc (some ⟨og, 0, none⟩) 8 oc rpOld := by
  go_enter Tryz.func13, Tryz.ntmps13
  have hz : Own w w.heap.size 9 1 sEnc none 0 0 ([] : List ByteArray) := Own.nil
  obtain ⟨g', o', hA, htg, hcells⟩ := ho.sl.2 (by decide)
  have HO := hId ho
  clear ho
  go_wp2_with (at_builtin; refine wpList_pushAll rfl _ _ _ rfl 16 Tryz.underlying65 einfo_str rfl hz rpOld g 0 8 c rfl HO.out.sl (by omega) (fun y _ j hj => sEnc_one _ j hj) (by omega) (by omega) (by omega) ?_; intro g8 cap8 w8 own8 hm8 hat8 hlt8)
  have hn8 : New w w8 := hm8.mono (fun k _ e => by cases e)
  have hs8 := hn8.size
  have ho9 : Own w8 w.heap.size 9 1 sEnc (some ⟨g8, 0, none⟩) 8 cap8 rpOld := by simpa using own8
  exact bodyPost_ret (v := .pointer (some ⟨w8.heap.size, 0, none⟩)) (by simp [results, Tryz.results13, go_sem]) rfl ⟨w8.heap.size, g8, cap8, rfl, hn8.alloc _, hs8, ho9.blkS.1, Blk.new _ _ _, ho9.alloc _⟩
end Go.Proofs.YtjmnkdkdjnmejaaGreatDoor
