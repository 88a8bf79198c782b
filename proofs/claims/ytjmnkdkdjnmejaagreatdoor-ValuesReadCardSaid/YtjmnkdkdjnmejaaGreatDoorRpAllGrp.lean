/- Several texts in one. (1) The Replacer, made, built and at work. Conditions: a text of modest size. (2) Words in quotes: the reference's. Conditions: modest sizes. -/
import Derived.Test.YtjmnkdkdjnmejaaGreatDoorRpBuildGrp
import Derived.Test.YtjmnkdkdjnmejaaGreatDoorBuGrp
import Derived.Test.YtjmnkdkdjnmejaaGreatDoorHeldGrp
import Derived.Lib.ConvBytes
import Derived.Lib.AtoiErrMem

namespace Go.Proofs.YtjmnkdkdjnmejaaGreatDoor
open Go.RowKit
set_option linter.unusedVariables false
set_option linter.unusedSimpArgs false
def MethR (g f : Nat) : Prop :=
  (∀ n w, (method (n + 1) 159 (.pointer (some ⟨g, 0, none⟩)) "Replace").run Tryz.prog w = .ok (f, .pointer (some ⟨g, 0, none⟩)) w) ∧ (∀ n w, (nilAhead (n + 1) 159 (.pointer (some ⟨g, 0, none⟩)) "Replace").run Tryz.prog w = .ok (some false) w) ∧ ∀ args w, (callFunc f args).run Tryz.prog w = .ok (.enter f args) w
theorem rp_meth (g : Nat) : MethR g 229 := ⟨fun n w => by kernel_rfl, fun n w => by kernel_rfl, fun args w => by go_simp⟩
set_option maxHeartbeats 1000000 in
set_option maxRecDepth 100000 in
theorem rp_Replace (b og oc B : Nat) (s : ByteArray) (w : World) (hb : Blk w b 84 #[.int .u32 0, .int .i32 0, .int .u32 0, .nilIface, .slice (some ⟨og, 0, none⟩) 8 oc]) (ho : Own w B 9 1 sEnc (some ⟨og, 0, none⟩) 8 oc rpOld) (hs : s.size ≤ 1000000) :
    Calls Tryz.prog 14 #[.pointer (some ⟨b, 0, none⟩), .string s] w fun e w' => ∃ t : ByteArray, e = .returned (.string t) ∧ t.size ≤ 3 * s.size ∧ Mod (fun k => k = b) w w' := by
  have hms : Mod (fun k => k = b) w (w.setCell ⟨b, 1, none⟩ (.int .i32 1)) := (Mod.refl (fun k => k = b) w).setCell (p := ⟨b, 1, none⟩) (.inl rfl) _
  have hogb : og ≠ b := ho.blkS.2.ne hb.tb (by decide)
  have hb1 : Blk (w.setCell ⟨b, 1, none⟩ (.int .i32 1)) b 84 #[.int .u32 0, .int .i32 1, .int .u32 0, .nilIface, .slice (some ⟨og, 0, none⟩) 8 oc] := by simpa using hb.set 1 (.int .i32 1)
  have ho1 : Own (w.setCell ⟨b, 1, none⟩ (.int .i32 1)) B 9 1 sEnc (some ⟨og, 0, none⟩) 8 oc rpOld := ho.mod hms (fun k e1 e2 => by simp only [blkOf, Option.map_some, Option.some.injEq] at e1; omega)
  have hc := rp_once b og oc .nilIface (.int .u32 0) (.int .i32 1) (.int .u32 0) (w.setCell ⟨b, 1, none⟩ (.int .i32 1)) hb1 ho1
  have hsz : (w.setCell ⟨b, 1, none⟩ (.int .i32 1)).heap.size = w.heap.size := by simp
  rw [hsz] at hc
  have h0 := hb.cell 0
  have h1 := hb.cell 1
  have f1 := hb.frozen 1
  have hd := rp_do b w (fun w' => ∃ b2, Blk w' b 84 #[.int .u32 0, .int .i32 1, .int .u32 0, .iface 159 (.pointer (some ⟨b2, 0, none⟩)), .slice none 0 0] ∧ RpR w' w.heap.size b2 ∧ Mod (fun k => k = b) (w.setCell ⟨b, 1, none⟩ (.int .i32 1)) w') h0 h1 f1 hc (by
    rintro w' ⟨b2, k1, k2, k3⟩
    exact ⟨⟨_, k1.cell 0⟩, k1.frozen 0, k1.cell 1, k1.frozen 1⟩)
  have bl := hb.lt
  have HMS := hId hms
  clear hb ho hms hb1 ho1 hc hsz h0 h1 f1
  go_enter Tryz.func14, Tryz.ntmps14
  go_wp2_with fail
  refine hd.mono ?_
  clear hd
  rintro e w2 ⟨rfl, w1, ⟨b2, k1, k2, k3⟩, rfl⟩
  have kb : Blk ((w1.drew.setCell ⟨b, 0, none⟩ (.int .u32 1)).setCell ⟨b, 1, none⟩ (.int .i32 0)) b 84 #[.int .u32 1, .int .i32 0, .int .u32 0, .iface 159 (.pointer (some ⟨b2, 0, none⟩)), .slice none 0 0] := by
    have := ((k1.mod ((Mod.refl (fun _ => False) w1).drew) (fun x => x)).set 0 (.int .u32 1)).set 1 (.int .i32 0)
    simpa using this
  have km : Mod (fun k => k = b) w1 ((w1.drew.setCell ⟨b, 0, none⟩ (.int .u32 1)).setCell ⟨b, 1, none⟩ (.int .i32 0)) := (((Mod.refl (fun k => k = b) w1).drew).setCell (p := ⟨b, 0, none⟩) (.inl rfl) _).setCell (p := ⟨b, 1, none⟩) (.inl rfl) _
  have kr := k2.mod km (fun g h1 h2 => by omega)
  have kw := (HMS.out.trans k3).trans km
  generalize (w1.drew.setCell ⟨b, 0, none⟩ (.int .u32 1)).setCell ⟨b, 1, none⟩ (.int .i32 0) = w3 at *
  have hr := rp_replace w.heap.size b2 s w3 kr hs
  have q3 := kb.cell 3
  have KW := hId kw
  clear kb km kr kw k1 k2 k3
  obtain ⟨fr, hfr⟩ : ∃ fr, 229 = fr := ⟨_, rfl⟩
  obtain ⟨m1, m2, m3⟩ := rp_meth b2
  rw [hfr] at hr m1 m3
  clear hfr
  go_wp2_with fail
  refine hr.mono ?_
  clear hr
  rintro e w4 ⟨t, rfl, ht, hn⟩
  have HT := hId ht
  have HN4 := hId hn
  clear ht hn
  go_wp2_with fail
  exact bodyPost_ret (v := .string t) (by simp [results, Tryz.results14, go_sem]) rfl ⟨t, rfl, HT.out, KW.out.trans (HN4.out.mono (T := fun k => k = b) (fun _ _ x => x.elim))⟩


theorem enc_hex (m : Nat) (h : m < 16) : Utf8.encode ((hexB[m]'h).toNat : Int) = ⟨#[hexB[m]'h]⟩ := by
  match m, h with
  | 0, _ => exact (by decide : Utf8.encode (48 : Int) = ⟨#[48]⟩)
  | 1, _ => exact (by decide : Utf8.encode (49 : Int) = ⟨#[49]⟩)
  | 2, _ => exact (by decide : Utf8.encode (50 : Int) = ⟨#[50]⟩)
  | 3, _ => exact (by decide : Utf8.encode (51 : Int) = ⟨#[51]⟩)
  | 4, _ => exact (by decide : Utf8.encode (52 : Int) = ⟨#[52]⟩)
  | 5, _ => exact (by decide : Utf8.encode (53 : Int) = ⟨#[53]⟩)
  | 6, _ => exact (by decide : Utf8.encode (54 : Int) = ⟨#[54]⟩)
  | 7, _ => exact (by decide : Utf8.encode (55 : Int) = ⟨#[55]⟩)
  | 8, _ => exact (by decide : Utf8.encode (56 : Int) = ⟨#[56]⟩)
  | 9, _ => exact (by decide : Utf8.encode (57 : Int) = ⟨#[57]⟩)
  | 10, _ => exact (by decide : Utf8.encode (97 : Int) = ⟨#[97]⟩)
  | 11, _ => exact (by decide : Utf8.encode (98 : Int) = ⟨#[98]⟩)
  | 12, _ => exact (by decide : Utf8.encode (99 : Int) = ⟨#[99]⟩)
  | 13, _ => exact (by decide : Utf8.encode (100 : Int) = ⟨#[100]⟩)
  | 14, _ => exact (by decide : Utf8.encode (101 : Int) = ⟨#[101]⟩)
  | 15, _ => exact (by decide : Utf8.encode (102 : Int) = ⟨#[102]⟩)
  | n + 16, h => exact absurd h (by omega)
theorem hex_string (X Y : UInt8) : ((⟨#[92, 117, 48, 48]⟩ : ByteArray) ++ ⟨#[X]⟩ ++ ⟨#[Y]⟩).data.toList = [92, 117, 48, 48] ++ [X] ++ [Y] ∧ ((⟨#[92, 117, 48, 48]⟩ : ByteArray) ++ ⟨#[X]⟩ ++ ⟨#[Y]⟩).size = 6 := by
  constructor
  · simp only [ByteArray.data_append, Array.toList_append]
  · simp only [ByteArray.size_append]
    rfl
set_option maxRecDepth 100000 in
set_option maxHeartbeats 1500000 in
theorem quoted_v (s : ByteArray) (w : World) (hs : s.size ≤ 100000) :
    Calls Tryz.prog 30 #[.string s] w fun e w' => e = .returned (.string ⟨(quoteL s.data.toList).toArray⟩) ∧ New w w' := by
  have hb0 := Blk.new w 108 #[.pointer none, .slice none 0 0]
  have hm0 : New w (w.alloc (.cells #[.pointer none, .slice none 0 0] 108)) := (Mod.refl _ _).alloc _
  go_enter Tryz.func30, Tryz.ntmps30
  go_upto_region 2 with (fail)
  generalize w.alloc (.cells #[.pointer none, .slice none 0 0] 108) = w1 at *
  generalize hbe : w.heap.size = B at *
  have HB := hId (Bw.fresh hb0 (Nat.le_refl _))
  have HM := hId hm0
  have HBE := hId hbe
  have HL : Hid (([] : List UInt8).length + 1 ≤ 1000000) := hId (by simp)
  clear hb0 hm0 hbe
  go_wp2_with fail
  refine (bw_byte buT_self B B _ 34 34 rfl _ HB.out (by simp)).mono ?_
  rintro e wz ⟨rfl, hb1, hm1, -⟩
  have HM1 := hId (HM.out.from hm1 (Nat.le_of_eq HBE.out))
  clear HB HM hm1
  have HB := hId hb1
  have HM := HM1
  clear hb1 HM1
  clear HL
  have hcv := Lib.run_convert_string_bytes (P := Tryz.prog) wz 9 106 5 s Tryz.underlying9 Tryz.underlying106 Tryz.underlying5
  have hm3 := bytes_new wz 5 s
  have hcc := Lib.bytesWorld_cell wz 5 s
  have hzl : wz.heap.size < (Lib.bytesWorld wz 5 s).heap.size := by rw [Lib.bytesWorld_size]; omega
  go_wp2_with fail
  have hso := Lib.bytesWorld_at_new wz 5 s
  generalize hSO : Obj.cells (Lib.bytesCells wz 5 s) 5 ((Lib.bytesCells wz 5 s).size, (Lib.bytesCells wz 5 s).size + 1) = SO at hso
  have HSO : Hid (∀ W : World, W.heap[wz.heap.size]? = some SO → (∀ cur t, W.heap[wz.heap.size]? ≠ some (.cells cur t (0, 0))) ∧ ∀ j (h : j < s.size), W.cell? ⟨wz.heap.size, j, none⟩ = some (.int .u8 (s[j]).toNat)) := hId (fun W hW => by
    refine ⟨fun cur t h => ?_, fun j h => ?_⟩
    · rw [hW, ← hSO] at h
      injection h with h
      injection h with h1 h2 h3
      injection h3 with h4 h5
      omega
    · have h1 := hcc j h
      rw [show s.data.toList.getD j 0 = s[j] by simp [ByteArray.getElem_eq_getElem_data, h]] at h1
      rw [← h1]
      exact World.cell?_of_block (hW.trans hso.symm))
  have HSB0 := hId hso
  have HNB : Hid (wz.heap.size ≠ B) := hId (by have := HB.out.lt; omega)
  have HMB := hId (HM.out.trans hm3)
  have HBB := hId (HB.out.new hm3)
  clear hcv hcc hm3 hzl HM HB hso hSO
  generalize Lib.bytesWorld wz 5 s = w3 at *
  generalize wz.heap.size = sb at *
  go_loopw [10] (fun i wr => ∃ k : Nat, k ≤ s.size ∧ i = .int .i64 k ∧ Hid (Bw 108 B B (34 :: (s.data.toList.take k).flatMap qc) wr) ∧ Hid (New w wr) ∧ Hid (wr.heap[sb]? = some SO)) (fun i _ => s.size - (intOf i).toNat)
  case atStart => exact ⟨0, Nat.zero_le _, rfl, by simpa using HBB, HMB, HSB0⟩
  case round =>
    clear HBB HMB HSB0
    rename World => wr
    obtain ⟨k, hk, rfl, HB, HM, HSB⟩ := hrel
    have HL : Hid ((34 :: (s.data.toList.take k).flatMap qc).length + 1 ≤ 700000) := hId (by
      have h1 := quoteL_length (s.data.toList.take k)
      simp only [quoteL, List.length_cons, List.length_append, List.length_nil, List.length_take] at h1 ⊢
      have h2 : s.data.toList.length = s.size := rfl
      omega)
    by_cases hlt : k < s.size
    · have hkl : k < s.data.toList.length := hlt
      have HTK : Hid ((34 :: (s.data.toList.take (k + 1)).flatMap qc) = (34 :: (s.data.toList.take k).flatMap qc) ++ qc s[k]) := hId (by
        rw [List.take_succ_eq_append_getElem hkl, List.flatMap_append]
        simp [ByteArray.getElem_eq_getElem_data])
      have hb1 : (0 : Int) ≤ k := by omega
      have hb2 : (k : Int) < s.size := by omega
      generalize 34 :: (s.data.toList.take k).flatMap qc = L at *
      have hck := (HSO.out _ HSB.out).2 k hlt
      have hsl := heap_lt HSB.out
      generalize s[k] = c at *
      have hc8 := c.toNat_lt
      generalize hcn : (c.toNat : Int) = n at *
      go_upto_region 7 with (fail)
      have HC := hId hcn
      have hn0 : 0 ≤ n ∧ n < 256 := by omega
      obtain ⟨hn0, hn1⟩ := hn0
      clear hcn hc8 hck hsl
      have hccx : ∀ q : Nat, n = (q : Int) → q < 256 → c = UInt8.ofNat q := fun q h hq => by
        have h1 : c.toNat = q := by have := HC.out; omega
        rw [← h1]; simp
      have HCC := hId hccx
      clear hccx
      by_cases n34 : n = 34
      · subst n34
        have HQ : Hid (qc c = [92, 34]) := hId (by rw [HCC.out 34 rfl (by omega)]; rfl)
        have hcn : c = 34 := HCC.out 34 rfl (by omega)
        have henc : Utf8.encode 34 = ⟨#[34]⟩ := by decide
        go_wp2_with fail
        refine (bw_string buT_self B B _ (⟨#[92, 34]⟩ : ByteArray) _ HB.out (by have hq := HL.out; exact Nat.le_trans (Nat.add_le_add_left (show ByteArray.size (⟨#[92, 34]⟩ : ByteArray) ≤ 10 by decide) _) (by first | omega | (simp at hq ⊢; omega)))).mono ?_
        rintro e wz ⟨rfl, hb1, hm1, hk1⟩
        have HSB1 := hId ((hk1 sb (heap_lt HSB.out) HNB.out (fun cur => (HSO.out _ HSB.out).1 cur _)).trans HSB.out)
        clear HSB hk1
        have HSB := HSB1
        clear HSB1
        have HM1 := hId (HM.out.from hm1 (Nat.le_of_eq HBE.out))
        clear HB HM hm1
        have HB := hId hb1
        have HM := HM1
        clear hb1 HM1
        go_wp2_with fail
        go_roundw
        case rel => exact ⟨k + 1, by omega, by go_num, hId (by rw [HTK.out, HQ.out]; simpa using HB.out), HM, HSB⟩
        case measure => simp [intOf]; omega
      have f34 : (n == 34) = false := by simpa using n34
      by_cases n92 : n = 92
      · subst n92
        have HQ : Hid (qc c = [92, 92]) := hId (by rw [HCC.out 92 rfl (by omega)]; rfl)
        have hcn : c = 92 := HCC.out 92 rfl (by omega)
        have henc : Utf8.encode 92 = ⟨#[92]⟩ := by decide
        go_wp2_with fail
        refine (bw_string buT_self B B _ (⟨#[92, 92]⟩ : ByteArray) _ HB.out (by have hq := HL.out; exact Nat.le_trans (Nat.add_le_add_left (show ByteArray.size (⟨#[92, 92]⟩ : ByteArray) ≤ 10 by decide) _) (by first | omega | (simp at hq ⊢; omega)))).mono ?_
        rintro e wz ⟨rfl, hb1, hm1, hk1⟩
        have HSB1 := hId ((hk1 sb (heap_lt HSB.out) HNB.out (fun cur => (HSO.out _ HSB.out).1 cur _)).trans HSB.out)
        clear HSB hk1
        have HSB := HSB1
        clear HSB1
        have HM1 := hId (HM.out.from hm1 (Nat.le_of_eq HBE.out))
        clear HB HM hm1
        have HB := hId hb1
        have HM := HM1
        clear hb1 HM1
        go_wp2_with fail
        go_roundw
        case rel => exact ⟨k + 1, by omega, by go_num, hId (by rw [HTK.out, HQ.out]; simpa using HB.out), HM, HSB⟩
        case measure => simp [intOf]; omega
      have f92 : (n == 92) = false := by simpa using n92
      by_cases n10 : n = 10
      · subst n10
        have HQ : Hid (qc c = [92, 110]) := hId (by rw [HCC.out 10 rfl (by omega)]; rfl)
        go_wp2_with fail
        refine (bw_string buT_self B B _ (⟨#[92, 110]⟩ : ByteArray) _ HB.out (by have hq := HL.out; exact Nat.le_trans (Nat.add_le_add_left (show ByteArray.size (⟨#[92, 110]⟩ : ByteArray) ≤ 10 by decide) _) (by first | omega | (simp at hq ⊢; omega)))).mono ?_
        rintro e wz ⟨rfl, hb1, hm1, hk1⟩
        have HSB1 := hId ((hk1 sb (heap_lt HSB.out) HNB.out (fun cur => (HSO.out _ HSB.out).1 cur _)).trans HSB.out)
        clear HSB hk1
        have HSB := HSB1
        clear HSB1
        have HM1 := hId (HM.out.from hm1 (Nat.le_of_eq HBE.out))
        clear HB HM hm1
        have HB := hId hb1
        have HM := HM1
        clear hb1 HM1
        go_wp2_with fail
        go_roundw
        case rel => exact ⟨k + 1, by omega, by go_num, hId (by rw [HTK.out, HQ.out]; simpa using HB.out), HM, HSB⟩
        case measure => simp [intOf]; omega
      have f10 : (n == 10) = false := by simpa using n10
      by_cases n13 : n = 13
      · subst n13
        have HQ : Hid (qc c = [92, 114]) := hId (by rw [HCC.out 13 rfl (by omega)]; rfl)
        go_wp2_with fail
        refine (bw_string buT_self B B _ (⟨#[92, 114]⟩ : ByteArray) _ HB.out (by have hq := HL.out; exact Nat.le_trans (Nat.add_le_add_left (show ByteArray.size (⟨#[92, 114]⟩ : ByteArray) ≤ 10 by decide) _) (by first | omega | (simp at hq ⊢; omega)))).mono ?_
        rintro e wz ⟨rfl, hb1, hm1, hk1⟩
        have HSB1 := hId ((hk1 sb (heap_lt HSB.out) HNB.out (fun cur => (HSO.out _ HSB.out).1 cur _)).trans HSB.out)
        clear HSB hk1
        have HSB := HSB1
        clear HSB1
        have HM1 := hId (HM.out.from hm1 (Nat.le_of_eq HBE.out))
        clear HB HM hm1
        have HB := hId hb1
        have HM := HM1
        clear hb1 HM1
        go_wp2_with fail
        go_roundw
        case rel => exact ⟨k + 1, by omega, by go_num, hId (by rw [HTK.out, HQ.out]; simpa using HB.out), HM, HSB⟩
        case measure => simp [intOf]; omega
      have f13 : (n == 13) = false := by simpa using n13
      by_cases n9 : n = 9
      · subst n9
        have HQ : Hid (qc c = [92, 116]) := hId (by rw [HCC.out 9 rfl (by omega)]; rfl)
        go_wp2_with fail
        refine (bw_string buT_self B B _ (⟨#[92, 116]⟩ : ByteArray) _ HB.out (by have hq := HL.out; exact Nat.le_trans (Nat.add_le_add_left (show ByteArray.size (⟨#[92, 116]⟩ : ByteArray) ≤ 10 by decide) _) (by first | omega | (simp at hq ⊢; omega)))).mono ?_
        rintro e wz ⟨rfl, hb1, hm1, hk1⟩
        have HSB1 := hId ((hk1 sb (heap_lt HSB.out) HNB.out (fun cur => (HSO.out _ HSB.out).1 cur _)).trans HSB.out)
        clear HSB hk1
        have HSB := HSB1
        clear HSB1
        have HM1 := hId (HM.out.from hm1 (Nat.le_of_eq HBE.out))
        clear HB HM hm1
        have HB := hId hb1
        have HM := HM1
        clear hb1 HM1
        go_wp2_with fail
        go_roundw
        case rel => exact ⟨k + 1, by omega, by go_num, hId (by rw [HTK.out, HQ.out]; simpa using HB.out), HM, HSB⟩
        case measure => simp [intOf]; omega
      have f9 : (n == 9) = false := by simpa using n9
      by_cases nh : n < 32 ∨ n = 127
      · have q16 : (n / 16).toNat < 16 := by omega
        have r16 : (n % 16).toNat < 16 := by omega
        have HQ : Hid (qc c = [92, 117, 48, 48] ++ [hexB[(n / 16).toNat]'q16] ++ [hexB[(n % 16).toNat]'r16]) := hId (by
          have h0 := HC.out
          have k34 : c ≠ 34 := fun h => n34 (by rw [← h0, h]; rfl)
          have k92 : c ≠ 92 := fun h => n92 (by rw [← h0, h]; rfl)
          have k10 : c ≠ 10 := fun h => n10 (by rw [← h0, h]; rfl)
          have k13 : c ≠ 13 := fun h => n13 (by rw [← h0, h]; rfl)
          have k9 : c ≠ 9 := fun h => n9 (by rw [← h0, h]; rfl)
          have kq : (n / 16).toNat = c.toNat / 16 := by omega
          have kr : (n % 16).toNat = c.toNat % 16 := by omega
          have kh : c.toNat < 32 ∨ c = 127 := by
            rcases nh with h | h
            · exact .inl (by omega)
            · exact .inr (HCC.out 127 h (by omega))
          rw [← hexD_at _ q16, ← hexD_at _ r16, kq, kr]
          unfold qc
          rw [if_neg (by simp [k34, k92]), if_neg k10, if_neg k13, if_neg k9, if_pos kh]
          rfl)
        by_cases h32 : n < 32
        · clear nh
          have hen1 := enc_hex (n / 16).toNat q16
          have hen2 := enc_hex (n % 16).toNat r16
          have hdv : IntKind.u8.wrap (n.tdiv 16) = n / 16 := by
            rw [Int.tdiv_eq_ediv_of_nonneg hn0]
            simp [IntKind.wrap, IntKind.signed, IntKind.bits]; omega
          have hmv : n.tmod 16 = n % 16 := Int.tmod_eq_emod_of_nonneg hn0
          have hd0 : 0 ≤ n / 16 := by omega
          have hm0 : 0 ≤ n % 16 := by omega
          have hd16 : n / 16 < 16 := by omega
          have hm16 : n % 16 < 16 := by omega
          go_upto_region 16 with (fail)
          refine wp_region_held_ord (fun _ => True) [] [0, 1, 2, 3, 4, 5, 6, 7, 8, 9] (by kernel_rfl) (by kernel_rfl) (fun _ _ d _ _ h => by cases d <;> exact h) ?_ (fun hHeld => ?_)
          · trivial
          simp only [List.length_cons, List.length_nil, List.drop_succ_cons, List.drop_zero]
          refine heldO_take ?_ (by rfl) (by rfl) (by rfl) (fun w hSw => ?_) ?_
          rotate_left
          · (try dsimp only at hSw); go_simp; any_goals (with_reducible rfl)
          simp only [Act.put, lst, lsz, lss]
          refine heldO_take ?_ (by rfl) (by rfl) (by rfl) (fun w hSw => ?_) ?_
          rotate_left
          · (try dsimp only at hSw); go_simp; any_goals (with_reducible rfl)
          simp only [Act.put, lst, lsz, lss]
          refine heldO_take ?_ (by rfl) (by rfl) (by rfl) (fun w hSw => ?_) ?_
          rotate_left
          · (try dsimp only at hSw); go_simp; any_goals (with_reducible rfl)
          simp only [Act.put, lst, lsz, lss]
          refine heldO_take ?_ (by rfl) (by rfl) (by rfl) (fun w hSw => ?_) ?_
          rotate_left
          · (try dsimp only at hSw); go_simp; any_goals (with_reducible rfl)
          simp only [Act.put, lst, lsz, lss]
          refine heldO_take ?_ (by rfl) (by rfl) (by rfl) (fun w hSw => ?_) ?_
          rotate_left
          · (try dsimp only at hSw); go_simp; any_goals (with_reducible rfl)
          simp only [Act.put, lst, lsz, lss]
          refine heldO_take ?_ (by rfl) (by rfl) (by rfl) (fun w hSw => ?_) ?_
          rotate_left
          · (try dsimp only at hSw); go_simp; any_goals (with_reducible rfl)
          simp only [Act.put, lst, lsz, lss]
          refine heldO_take ?_ (by rfl) (by rfl) (by rfl) (fun w hSw => ?_) ?_
          rotate_left
          · (try dsimp only at hSw); go_simp; any_goals (with_reducible rfl)
          simp only [Act.put, lst, lsz, lss]
          refine heldO_take ?_ (by rfl) (by rfl) (by rfl) (fun w hSw => ?_) ?_
          rotate_left
          · (try dsimp only at hSw); go_simp; any_goals (with_reducible rfl)
          simp only [Act.put, lst, lsz, lss]
          refine heldO_take ?_ (by rfl) (by rfl) (by rfl) (fun w hSw => ?_) ?_
          rotate_left
          · (try dsimp only at hSw); go_simp; any_goals (with_reducible rfl)
          simp only [Act.put, lst, lsz, lss]
          refine heldO_take ?_ (by rfl) (by rfl) (by rfl) (fun w hSw => ?_) ?_
          rotate_left
          · (try dsimp only at hSw); go_simp; any_goals (with_reducible rfl)
          simp only [Act.put, lst, lsz, lss]
          refine heldO_nil ?_
          go_wp2_with fail
          generalize hexB[(n / 16).toNat]'q16 = X at *
          generalize hexB[(n % 16).toNat]'r16 = Y at *
          have HB1 : Hid (Bw 108 B B L wr.drew) := hId (HB.out.new (Mod.refl _ _).drew)
          have HM1 : Hid (New w wr.drew) := hId HM.out.drew
          have HSB2 : Hid (wr.drew.heap[sb]? = some SO) := hId HSB.out
          clear HB HM HSB
          have HB := HB1
          have HM := HM1
          have HSB := HSB2
          clear HB1 HM1 HSB2
          obtain ⟨hd, hz⟩ := hex_string X Y
          generalize hST : ((⟨#[92, 117, 48, 48]⟩ : ByteArray) ++ ⟨#[X]⟩ ++ ⟨#[Y]⟩) = ST at *
          clear hST
          refine (bw_string buT_self B B _ ST _ HB.out (by have hq := HL.out; omega)).mono ?_
          rw [hd]
          clear hz hd
          rintro e wz ⟨rfl, hb1, hm1, hk1⟩
          have HSB1 := hId ((hk1 sb (heap_lt HSB.out) HNB.out (fun cur => (HSO.out _ HSB.out).1 cur _)).trans HSB.out)
          clear HSB hk1
          have HSB := HSB1
          clear HSB1
          have HM1 := hId (HM.out.from hm1 (Nat.le_of_eq HBE.out))
          clear HB HM hm1
          have HB := hId hb1
          have HM := HM1
          clear hb1 HM1
          go_wp2_with fail
          go_roundw
          case rel => exact ⟨k + 1, by omega, by go_num, hId (by rw [HTK.out, HQ.out]; simpa using HB.out), HM, HSB⟩
          case measure => simp [intOf]; omega
        · have f32 : decide (n < 32) = false := by simpa using h32
          have f127 : (n == 127) = true := by simp; omega
          clear nh h32
          have hen1 := enc_hex (n / 16).toNat q16
          have hen2 := enc_hex (n % 16).toNat r16
          have hdv : IntKind.u8.wrap (n.tdiv 16) = n / 16 := by
            rw [Int.tdiv_eq_ediv_of_nonneg hn0]
            simp [IntKind.wrap, IntKind.signed, IntKind.bits]; omega
          have hmv : n.tmod 16 = n % 16 := Int.tmod_eq_emod_of_nonneg hn0
          have hd0 : 0 ≤ n / 16 := by omega
          have hm0 : 0 ≤ n % 16 := by omega
          have hd16 : n / 16 < 16 := by omega
          have hm16 : n % 16 < 16 := by omega
          go_upto_region 16 with (fail)
          refine wp_region_held_ord (fun _ => True) [] [0, 1, 2, 3, 4, 5, 6, 7, 8, 9] (by kernel_rfl) (by kernel_rfl) (fun _ _ d _ _ h => by cases d <;> exact h) ?_ (fun hHeld => ?_)
          · trivial
          simp only [List.length_cons, List.length_nil, List.drop_succ_cons, List.drop_zero]
          refine heldO_take ?_ (by rfl) (by rfl) (by rfl) (fun w hSw => ?_) ?_
          rotate_left
          · (try dsimp only at hSw); go_simp; any_goals (with_reducible rfl)
          simp only [Act.put, lst, lsz, lss]
          refine heldO_take ?_ (by rfl) (by rfl) (by rfl) (fun w hSw => ?_) ?_
          rotate_left
          · (try dsimp only at hSw); go_simp; any_goals (with_reducible rfl)
          simp only [Act.put, lst, lsz, lss]
          refine heldO_take ?_ (by rfl) (by rfl) (by rfl) (fun w hSw => ?_) ?_
          rotate_left
          · (try dsimp only at hSw); go_simp; any_goals (with_reducible rfl)
          simp only [Act.put, lst, lsz, lss]
          refine heldO_take ?_ (by rfl) (by rfl) (by rfl) (fun w hSw => ?_) ?_
          rotate_left
          · (try dsimp only at hSw); go_simp; any_goals (with_reducible rfl)
          simp only [Act.put, lst, lsz, lss]
          refine heldO_take ?_ (by rfl) (by rfl) (by rfl) (fun w hSw => ?_) ?_
          rotate_left
          · (try dsimp only at hSw); go_simp; any_goals (with_reducible rfl)
          simp only [Act.put, lst, lsz, lss]
          refine heldO_take ?_ (by rfl) (by rfl) (by rfl) (fun w hSw => ?_) ?_
          rotate_left
          · (try dsimp only at hSw); go_simp; any_goals (with_reducible rfl)
          simp only [Act.put, lst, lsz, lss]
          refine heldO_take ?_ (by rfl) (by rfl) (by rfl) (fun w hSw => ?_) ?_
          rotate_left
          · (try dsimp only at hSw); go_simp; any_goals (with_reducible rfl)
          simp only [Act.put, lst, lsz, lss]
          refine heldO_take ?_ (by rfl) (by rfl) (by rfl) (fun w hSw => ?_) ?_
          rotate_left
          · (try dsimp only at hSw); go_simp; any_goals (with_reducible rfl)
          simp only [Act.put, lst, lsz, lss]
          refine heldO_take ?_ (by rfl) (by rfl) (by rfl) (fun w hSw => ?_) ?_
          rotate_left
          · (try dsimp only at hSw); go_simp; any_goals (with_reducible rfl)
          simp only [Act.put, lst, lsz, lss]
          refine heldO_take ?_ (by rfl) (by rfl) (by rfl) (fun w hSw => ?_) ?_
          rotate_left
          · (try dsimp only at hSw); go_simp; any_goals (with_reducible rfl)
          simp only [Act.put, lst, lsz, lss]
          refine heldO_nil ?_
          go_wp2_with fail
          generalize hexB[(n / 16).toNat]'q16 = X at *
          generalize hexB[(n % 16).toNat]'r16 = Y at *
          have HB1 : Hid (Bw 108 B B L wr.drew) := hId (HB.out.new (Mod.refl _ _).drew)
          have HM1 : Hid (New w wr.drew) := hId HM.out.drew
          have HSB2 : Hid (wr.drew.heap[sb]? = some SO) := hId HSB.out
          clear HB HM HSB
          have HB := HB1
          have HM := HM1
          have HSB := HSB2
          clear HB1 HM1 HSB2
          obtain ⟨hd, hz⟩ := hex_string X Y
          generalize hST : ((⟨#[92, 117, 48, 48]⟩ : ByteArray) ++ ⟨#[X]⟩ ++ ⟨#[Y]⟩) = ST at *
          clear hST
          refine (bw_string buT_self B B _ ST _ HB.out (by have hq := HL.out; omega)).mono ?_
          rw [hd]
          clear hz hd
          rintro e wz ⟨rfl, hb1, hm1, hk1⟩
          have HSB1 := hId ((hk1 sb (heap_lt HSB.out) HNB.out (fun cur => (HSO.out _ HSB.out).1 cur _)).trans HSB.out)
          clear HSB hk1
          have HSB := HSB1
          clear HSB1
          have HM1 := hId (HM.out.from hm1 (Nat.le_of_eq HBE.out))
          clear HB HM hm1
          have HB := hId hb1
          have HM := HM1
          clear hb1 HM1
          go_wp2_with fail
          go_roundw
          case rel => exact ⟨k + 1, by omega, by go_num, hId (by rw [HTK.out, HQ.out]; simpa using HB.out), HM, HSB⟩
          case measure => simp [intOf]; omega
      · have f32 : decide (n < 32) = false := by simp; omega
        have f127 : (n == 127) = false := by simp; omega
        have HQ : Hid (qc c = [c]) := hId (by
          unfold qc
          have h0 := HC.out
          have k34 : c ≠ 34 := fun h => n34 (by rw [← h0, h]; rfl)
          have k92 : c ≠ 92 := fun h => n92 (by rw [← h0, h]; rfl)
          have k10 : c ≠ 10 := fun h => n10 (by rw [← h0, h]; rfl)
          have k13 : c ≠ 13 := fun h => n13 (by rw [← h0, h]; rfl)
          have k9 : c ≠ 9 := fun h => n9 (by rw [← h0, h]; rfl)
          have k32 : ¬ c.toNat < 32 := by omega
          have k127 : c ≠ 127 := fun h => nh (.inr (by rw [← h0, h]; rfl))
          simp [k34, k92, k10, k13, k9, k32, k127])
        clear nh
        go_wp2_with fail
        refine (bw_byte buT_self B B _ c n (by first | rfl | (exact HC.out.symm)) _ HB.out (by have hq := HL.out; first | omega | (simp; done) | (simp at hq ⊢; omega))).mono ?_
        rintro e wz ⟨rfl, hb1, hm1, hk1⟩
        have HSB1 := hId ((hk1 sb (heap_lt HSB.out) HNB.out (fun cur => (HSO.out _ HSB.out).1 cur _)).trans HSB.out)
        clear HSB hk1
        have HSB := HSB1
        clear HSB1
        have HM1 := hId (HM.out.from hm1 (Nat.le_of_eq HBE.out))
        clear HB HM hm1
        have HB := hId hb1
        have HM := HM1
        clear hb1 HM1
        go_wp2_with fail
        go_roundw
        case rel => exact ⟨k + 1, by omega, by go_num, hId (by rw [HTK.out, HQ.out]; simpa using HB.out), HM, HSB⟩
        case measure => simp [intOf]; omega
    · obtain rfl : k = s.size := by omega
      have HTE : Hid ((34 :: (s.data.toList.take s.size).flatMap qc) ++ [34] = quoteL s.data.toList) := hId (by
        rw [List.take_of_length_le (show s.data.toList.length ≤ s.size from Nat.le_refl _)]; rfl)
      generalize 34 :: (s.data.toList.take s.size).flatMap qc = L at *
      clear hlt hk
      go_wp2_with fail
      refine (bw_byte buT_self B B _ 34 34 (by first | rfl | (exact HC.out.symm)) _ HB.out (by have hq := HL.out; first | omega | (simp; done) | (simp at hq ⊢; omega))).mono ?_
      rintro e wz ⟨rfl, hb1, hm1, hk1⟩
      have HSB1 := hId ((hk1 sb (heap_lt HSB.out) HNB.out (fun cur => (HSO.out _ HSB.out).1 cur _)).trans HSB.out)
      clear HSB hk1
      have HSB := HSB1
      clear HSB1
      have HM1 := hId (HM.out.from hm1 (Nat.le_of_eq HBE.out))
      clear HB HM hm1
      have HB := hId hb1
      have HM := HM1
      clear hb1 HM1
      have hgv := bw_give B B _ _ HB.out (by simp)
      rw [HTE.out] at hgv
      go_wp2_with fail
      refine hgv.mono ?_
      clear hgv
      rintro e wy ⟨rfl, m5⟩
      have HM5 := hId (HM.out.from m5 (Nat.le_of_eq HBE.out))
      go_wp2_with fail
      go_ret
      exact ⟨rfl, HM5.out⟩

end Go.Proofs.YtjmnkdkdjnmejaaGreatDoor
