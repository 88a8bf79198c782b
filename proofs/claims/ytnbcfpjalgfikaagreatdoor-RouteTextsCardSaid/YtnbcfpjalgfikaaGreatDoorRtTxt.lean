/- route.Text: what it writes. Conditions: routes of modest size; the library's variable on searching is an int. -/
import Derived.Test.YtnbcfpjalgfikaaGreatDoorTxLawGrp
import Derived.Test.YtnbcfpjalgfikaaGreatDoorRtChk1Grp
namespace Go.Proofs.YtnbcfpjalgfikaaGreatDoor
open Go.RowKit
set_option linter.unusedVariables false
set_option linter.unusedSimpArgs false




def RtTextOut (rs : List RtD) : ByteArray × Int := if routesF rs = 0 then (if (routesP rs).length ≤ 200000 then (⟨(routesP rs).toArray⟩, 0) else (⟨#[]⟩, 2)) else (⟨#[]⟩, routesF rs)
def RRtText (w : World) (rs : List RtD) (e : Ending) (w' : World) : Prop :=
  e = .returned (.tuple #[.string (RtTextOut rs).1, .int .i64 (RtTextOut rs).2]) ∧ New w w'
theorem routesF_300 {l : List RtD} (h : routesF l = 0) : l.length ≤ 300 := by
  unfold routesF at h
  split at h
  · cases h
  · omega
set_option maxRecDepth 100000 in
set_option maxHeartbeats 2000000 in
theorem rt_text (rs : List RtD) (A : Option Addr) (n c : Nat) (w : World) (hl : RtRows w A n rs) (hn : n ≤ 100000) (hz : ∀ r ∈ rs, RtShort r) (hx : MaxLn w) :
    Calls Tryz.prog 5 #[.slice A n c] w (RRtText w rs) := by
  have hcl := rt_checkRoutes A n c rs w hl hz hx hn
  rw [routesFP_eq] at hcl
  by_cases hf : routesF rs = 0
  · have hn3 := routesF_300 hf
    have HE : Hid (∀ w', New w w' → (routesP rs).length ≤ 200000 → RRtText w rs (.returned (.tuple #[.string ⟨(routesP rs).toArray⟩, .int .i64 0])) w') := Lib.hid (fun w' h h2 => ⟨by unfold RtTextOut; rw [if_pos hf, if_pos h2], h⟩)
    have HE2 : Hid (∀ w', New w w' → ¬ (routesP rs).length ≤ 200000 → RRtText w rs (.returned (.tuple #[.string ⟨#[]⟩, .int .i64 2])) w') := Lib.hid (fun w' h h2 => ⟨by unfold RtTextOut; rw [if_pos hf, if_neg h2], h⟩)
    have hlen := hl.len
    obtain ⟨xs, h1, h2⟩ := hl
    have hxl := h1.1
    have HL : Hid (xs.length = n ∧ rs.length = n) := Lib.hid ⟨hxl, hlen.symm⟩
    have hn4 : n ≤ 300 := by omega
    have HS := Lib.hid h1
    have HA := Lib.hid h2
    have HZR := Lib.hid hz
    rw [hf] at hcl
    clear hf h1 h2 hx hz hlen hxl hn3 hn
    go_enter Tryz.func5, Tryz.ntmps5
    go_wp2_with fail
    refine hcl.mono ?_
    clear hcl
    rintro e w1 ⟨rfl, hm1⟩
    have HS1 := Lib.hid (HS.out.new hm1)
    have HA1 := Lib.hid (HA.out.imp (fun _ _ q => q.new hm1))
    have hzw := hm1.size
    clear HS HA
    go_upto_region 5 with (fail)
    have hm2 : New w1 (w1.alloc (.cells #[.pointer none, .slice none 0 0] 49)) := (Mod.refl _ _).alloc _
    have hb2 := Blk.new w1 49 #[.pointer none, .slice none 0 0]
    have hz2 : (w1.alloc (.cells #[.pointer none, .slice none 0 0] 49)).heap.size = w1.heap.size + 1 := by simp
    generalize w1.alloc (.cells #[.pointer none, .slice none 0 0] 49) = w2 at *
    generalize hbb : w1.heap.size = b at *
    have HB0 : Hid (Bw 49 b b [] w2) := Lib.hid (Bw.fresh hb2 (Nat.le_refl _))
    have hltb : ∀ g, TB w2 g 9 ∨ TB w2 g 55 ∨ TB w2 g 44 → ¬ b ≤ g := fun g hg e => by
      rcases hg with hg | hg | hg
      · have h1 := hg.lt
        have h2 := hg.ne hb2.tb (by decide)
        omega
      · have h1 := hg.lt
        have h2 := hg.ne hb2.tb (by decide)
        omega
      · have h1 := hg.lt
        have h2 := hg.ne hb2.tb (by decide)
        omega
    have HLS := Lib.hid hltb
    have HS2 := Lib.hid (HS1.out.new hm2)
    have HA2 := Lib.hid (HA1.out.imp (fun _ _ q => q.new hm2))
    have HMW : Hid (New w w2) := Lib.hid (hm1.trans hm2)
    clear hltb hb2 hm1 hm2 HS1 HA1 hbb hz2
    go_wp2_with fail
    go_loopw [21] (fun i wr => ∃ k : Nat, k ≤ n ∧ i = .int .i64 k ∧ Hid (Bw 49 b b ((rs.take k).flatMap (rtT headP needP)) wr) ∧ Hid (Mod (fun x => b ≤ x) w2 wr)) (fun i _ => n - (intOf i).toNat)
    case atStart => exact ⟨0, Nat.zero_le _, rfl, by simpa using HB0, Lib.hid (Mod.refl _ _)⟩
    case round =>
      rename World => wr
      obtain ⟨k, hk, rfl, HB, HM⟩ := hrel
      by_cases hlt : k < n
      · have hkx : k < xs.length := by have := HL.out.1; omega
        have hkr : k < rs.length := by have := HL.out.2; omega
        obtain ⟨g, o, hA, htb, hc⟩ := (HS2.out.mod HM.out (fun g e => HLS.out g (.inr (.inr e)))).2 (by omega)
        subst hA
        have c0 := hc k hkx 0 (by omega)
        have c1 := hc k hkx 1 (by omega)
        have c2 := hc k hkx 2 (by omega)
        have c3 := hc k hkx 3 (by omega)
        have c4 := hc k hkx 4 (by omega)
        have c5 := hc k hkx 5 (by omega)
        simp only [RA.enc, Nat.add_zero] at c0 c1 c2 c3 c4 c5
        have hgl := htb.lt
        have HAT2 := Lib.hid (HA2.out.get k hkx hkr)
        have HZS := Lib.hid (HZR.out _ (List.getElem_mem hkr))
        have HTK := Lib.hid (flat_next (rtT headP needP) hkr)
        have HLEN := Lib.hid (rtTs_len txP HZR.out (show k ≤ 300 by omega))
        have hb1 : (0 : Int) ≤ k := by omega
        have hb2 : (k : Int) < n := by omega
        clear hc htb
        generalize xs[k] = x at *
        generalize rs[k] = r at *
        generalize (rs.take k).flatMap (rtT headP needP) = L0 at *
        obtain ⟨key, ha, hn_, hc_, path, ma, mn, mc, na, nn, nc, dest⟩ := x
        simp only at c0 c1 c2 c3 c4 c5
        go_upto_region 8 with (fail)
        have hAl : New wr (wr.alloc (.cells #[.string key, .slice ha hn_ hc_, .string path, .slice ma mn mc, .slice na nn nc, .string dest] 44)) := (Mod.refl _ _).alloc _
        have hbx := Blk.new wr 44 #[.string key, .slice ha hn_ hc_, .string path, .slice ma mn mc, .slice na nn nc, .string dest]
        have HBl := Lib.hid (HB.out.new hAl)
        have HM4 : Hid (Mod (fun x => b ≤ x) w2 (wr.alloc (.cells #[.string key, .slice ha hn_ hc_, .string path, .slice ma mn mc, .slice na nn nc, .string dest] 44))) := Lib.hid (HM.out.alloc _)
        have HXB : Hid (wr.heap.size ≠ b) := Lib.hid (by have := HB.out.lt.2; omega)
        clear c0 c1 c2 c3 c4 c5 hAl HB HM hgl
        generalize wr.alloc (.cells #[.string key, .slice ha hn_ hc_, .string path, .slice ma mn mc, .slice na nn nc, .string dest] 44) = w4 at *
        generalize wr.heap.size = xb at *
        have HB := HBl
        have HM := HM4
        have HBX := Lib.hid hbx
        clear hbx HBl HM4
        have HCS : Hid (∀ W, Blk W xb 44 #[.string key, .slice ha hn_ hc_, .string path, .slice ma mn mc, .slice na nn nc, .string dest] → W.cell? ⟨xb, 0, none⟩ = some (.string key) ∧ W.cell? ⟨xb, 1, none⟩ = some (.slice ha hn_ hc_) ∧ W.cell? ⟨xb, 2, none⟩ = some (.string path) ∧ W.cell? ⟨xb, 3, none⟩ = some (.slice ma mn mc) ∧ W.cell? ⟨xb, 4, none⟩ = some (.slice na nn nc) ∧ W.cell? ⟨xb, 5, none⟩ = some (.string dest) ∧ xb < W.heap.size) := Lib.hid (fun W h => ⟨(h.cell 0).trans rfl, (h.cell 1).trans rfl, (h.cell 2).trans rfl, (h.cell 3).trans rfl, (h.cell 4).trans rfl, (h.cell 5).trans rfl, h.lt⟩)
        generalize (#[.string key, .slice ha hn_ hc_, .string path, .slice ma mn mc, .slice na nn nc, .string dest] : Array Value) = cs at *
        obtain ⟨rfl, rfl, rfl, HAH, HAM, HAN⟩ : key = r.key ∧ path = r.path ∧ dest = r.dest ∧ Hid (SSl1 w2 ha hn_ r.hosts ∧ hn_ ≤ hc_) ∧ Hid (SSl1 w2 ma mn r.methods ∧ mn ≤ mc) ∧ Hid (QSl w2 na nn r.needs ∧ nn ≤ nc) := ⟨HAT2.out.key, HAT2.out.path, HAT2.out.dest, Lib.hid ⟨HAT2.out.hosts, HAT2.out.hcap⟩, Lib.hid ⟨HAT2.out.methods, HAT2.out.mcap⟩, Lib.hid ⟨HAT2.out.needs, HAT2.out.ncap⟩⟩
        clear HAT2
        obtain ⟨key, hosts, path, methods, needs, dest⟩ := r
        simp only at HAH HAM HAN HCS HZS HTK
        have z0 := HZS.out.key
        have z2 := HZS.out.path
        have z5 := HZS.out.dest
        simp only at z0 z2 z5
        have hnl : hn_ ≤ 200000 := by have := HAH.out.1.1; have := HZS.out.hosts.1; simp only at this; omega
        have mnl : mn ≤ 200000 := by have := HAM.out.1.1; have := HZS.out.methods.1; simp only at this; omega
        have nnl : nn ≤ 200000 := by have := HAN.out.1.1; have := HZS.out.needs.1; simp only at this; omega
        -- the head
        obtain ⟨e0, e1, e2, e3, e4, e5, el⟩ := HCS.out _ HBX.out
        have y1 : ¬ 9223372036854775807 < (⟨#[114, 111, 117, 116, 101, 32]⟩ : ByteArray).size + key.size := by show ¬ _ < 6 + key.size; omega
        have y2 : ¬ 9223372036854775807 < ((⟨#[114, 111, 117, 116, 101, 32]⟩ : ByteArray) ++ key).size + (⟨#[32]⟩ : ByteArray).size := by rw [ByteArray.size_append]; show ¬ _ < 6 + key.size + 1; omega
        have y3 : ¬ 9223372036854775807 < ((⟨#[114, 111, 117, 116, 101, 32]⟩ : ByteArray) ++ key ++ ⟨#[32]⟩).size + path.size := by rw [ByteArray.size_append, ByteArray.size_append]; show ¬ _ < 6 + key.size + 1 + path.size; omega
        have HTX : Hid (((⟨#[114, 111, 117, 116, 101, 32]⟩ : ByteArray) ++ key ++ ⟨#[32]⟩ ++ path).data.toList = bRoute ++ key.data.toList ++ [32] ++ path.data.toList) := Lib.hid (by rw [cat2, cat3]; rfl)
        have HZ : Hid (L0.length + (bRoute ++ key.data.toList ++ [32] ++ path.data.toList).length ≤ 140737488355328) := Lib.hid (by have := HLEN.out; simp only [List.length_append, len_size, bRoute, List.length_cons, List.length_nil]; omega)
        go_wp2_with fail
        clear e0 e1 e2 e3 e4 e5 el y1 y2 y3
        obtain ⟨U, hU⟩ : ∃ U : ByteArray, U = ((⟨#[114, 111, 117, 116, 101, 32]⟩ : ByteArray) ++ key ++ ⟨#[32]⟩ ++ path) := ⟨_, rfl⟩
        rw [← hU] at HTX
        rw [← hU]
        have hUz : U.size = (bRoute ++ key.data.toList ++ [32] ++ path.data.toList).length := by
          have h1 : U.data.toList.length = U.size := rfl
          rw [HTX.out] at h1
          exact h1.symm
        have hwr := tx_write b _ U _ HB.out (by have := HZ.out; rw [hUz]; omega)
        clear hU hUz
        refine hwr.mono ?_
        clear hwr
        rintro e w5 ⟨rfl, hb5, hm5, hk5⟩
        rw [HTX.out] at hb5
        have HM5 := Lib.hid (HM.out.trans hm5)
        have HX5 := Lib.hid (HBX.out.keep hk5 HXB.out (by decide))
        have HB5 := Lib.hid hb5
        clear hb5 hm5 hk5 HB HM HBX HTX
        have HB := HB5
        have HM := HM5
        have HBX := HX5
        clear HB5 HM5 HX5
        obtain ⟨D, hD⟩ : ∃ D : List UInt8, D = if dest = ⟨#[]⟩ then [] else 32 :: dest.data.toList := ⟨_, rfl⟩
        have HD := Lib.hid hD
        have hDz : D.length ≤ 100001 := by rw [hD]; split <;> simp [len_size]; omega
        clear hD
        obtain ⟨e0, e1, e2, e3, e4, e5, el⟩ := HCS.out _ HBX.out
        go_upto_if 35 with (fail)
        clear e0 e1 e2 e3 e4 e5 el
        obtain ⟨q, hq⟩ : ∃ q : Bool, (!dest.toList.isEmpty) = q := ⟨_, rfl⟩
        rw [hq]
        have HQ : Hid (q = !decide (dest = ⟨#[]⟩)) := Lib.hid (by rw [← hq, emp_eq])
        clear hq
        go_cut [] (fun wx => Hid (Bw 49 b b (L0 ++ (bRoute ++ key.data.toList ++ [32] ++ path.data.toList) ++ D) wx) ∧ Hid (Mod (fun x => b ≤ x) w2 wx) ∧ Hid (Blk wx xb 44 cs))
        case first =>
          cases q
          · have hd : dest = ⟨#[]⟩ := by have := HQ.out; simpa using this
            have HDE : Hid (D = []) := Lib.hid (by rw [HD.out, if_pos hd])
            clear hd
            go_wp2_with fail
            go_meet
            case rel => exact ⟨Lib.hid (by rw [HDE.out, List.append_nil]; exact HB.out), HM, HBX⟩
          · have hd : ¬ dest = ⟨#[]⟩ := by have := HQ.out; simpa using this
            have HDE : Hid (D = 32 :: dest.data.toList) := Lib.hid (by rw [HD.out, if_neg hd])
            clear hd
            have y1 : ¬ 9223372036854775807 < (⟨#[32]⟩ : ByteArray).size + dest.size := by show ¬ _ < 1 + dest.size; omega
            have HTX : Hid (((⟨#[32]⟩ : ByteArray) ++ dest).data.toList = D) := Lib.hid (by rw [cat2, HDE.out]; rfl)
            have HZ : Hid ((L0 ++ (bRoute ++ key.data.toList ++ [32] ++ path.data.toList)).length + D.length ≤ 140737488355328) := Lib.hid (by have := HLEN.out; simp only [List.length_append, len_size, bRoute, List.length_cons, List.length_nil]; omega)
            obtain ⟨e0, e1, e2, e3, e4, e5, el⟩ := HCS.out _ HBX.out
            go_wp2_with fail
            clear e0 e1 e2 e3 e4 e5 el y1
            obtain ⟨U, hU⟩ : ∃ U : ByteArray, U = ((⟨#[32]⟩ : ByteArray) ++ dest) := ⟨_, rfl⟩
            rw [← hU] at HTX
            rw [← hU]
            have hUz : U.size = (D).length := by
              have h1 : U.data.toList.length = U.size := rfl
              rw [HTX.out] at h1
              exact h1.symm
            have hwr := tx_write b _ U _ HB.out (by have := HZ.out; rw [hUz]; omega)
            clear hU hUz
            refine hwr.mono ?_
            clear hwr
            rintro e w5 ⟨rfl, hb5, hm5, hk5⟩
            rw [HTX.out] at hb5
            have HM5 := Lib.hid (HM.out.trans hm5)
            have HX5 := Lib.hid (HBX.out.keep hk5 HXB.out (by decide))
            have HB5 := Lib.hid hb5
            clear hb5 hm5 hk5 HB HM HBX HTX
            have HB := HB5
            have HM := HM5
            have HBX := HX5
            clear HB5 HM5 HX5
            go_wp2_with fail
            go_meet
            case rel => exact ⟨HB, HM, HBX⟩
        case rest =>
          rename World => wx
          clear HB HM HBX
          obtain ⟨HB, HM, HBX⟩ := hcut
          have HZ : Hid ((L0 ++ (bRoute ++ key.data.toList ++ [32] ++ path.data.toList) ++ D).length + ([10] : List UInt8).length ≤ 140737488355328) := Lib.hid (by have := HLEN.out; simp only [List.length_append, len_size, bRoute, List.length_cons, List.length_nil]; omega)
          have HHD : Hid (L0 ++ (bRoute ++ key.data.toList ++ [32] ++ path.data.toList) ++ D ++ [10] = L0 ++ headP ⟨key, hosts, path, methods, needs, dest⟩) := Lib.hid (by rw [HD.out]; unfold headP; simp)
          have HLB : Hid ((L0 ++ headP ⟨key, hosts, path, methods, needs, dest⟩).length ≤ 48300000400020) := Lib.hid (by have h1 := txP.hd _ HZS.out; have := HLEN.out; rw [List.length_append]; omega)
          go_upto_region 11 with (fail)
          go_wp2_with fail
          have HTX : Hid ((⟨#[10]⟩ : ByteArray).data.toList = [10]) := Lib.hid rfl
          obtain ⟨U, hU⟩ : ∃ U : ByteArray, U = (⟨#[10]⟩ : ByteArray) := ⟨_, rfl⟩
          rw [← hU] at HTX
          rw [← hU]
          have hUz : U.size = (([10] : List UInt8)).length := by
            have h1 : U.data.toList.length = U.size := rfl
            rw [HTX.out] at h1
            exact h1.symm
          have hwr := tx_write b _ U _ HB.out (by have := HZ.out; rw [hUz]; omega)
          clear hU hUz
          refine hwr.mono ?_
          clear hwr
          rintro e w5 ⟨rfl, hb5, hm5, hk5⟩
          rw [HTX.out] at hb5
          have HM5 := Lib.hid (HM.out.trans hm5)
          have HX5 := Lib.hid (HBX.out.keep hk5 HXB.out (by decide))
          have HB5 := Lib.hid hb5
          clear hb5 hm5 hk5 HB HM HBX HTX
          have HB := HB5
          have HM := HM5
          have HBX := HX5
          clear HB5 HM5 HX5
          rw [HHD.out] at HB
          have HTK1 : Hid ((rs.take (k + 1)).flatMap (rtT headP needP) = L0 ++ headP ⟨key, hosts, path, methods, needs, dest⟩ ++ (hosts.flatMap hostP ++ (methods.flatMap methodP ++ needs.flatMap needP))) := Lib.hid (by rw [HTK.out, List.append_assoc]; rfl)
          clear HHD HZ HTK HD
          generalize L0 ++ headP ⟨key, hosts, path, methods, needs, dest⟩ = L at *
          obtain ⟨e0, e1, e2, e3, e4, e5, el⟩ := HCS.out _ HBX.out
          go_upto_region 13 with (fail)
          clear e0 e1 e2 e3 e4 e5 el
          go_loopw [44] (fun i wr => ∃ j : Nat, j ≤ hn_ ∧ i = .int .i64 j ∧ Hid (Bw 49 b b (L ++ ((hosts).take j).flatMap hostP) wr) ∧ Hid (Mod (fun x => b ≤ x) w2 wr) ∧ Hid (Blk wr xb 44 cs)) (fun i _ => hn_ - (intOf i).toNat)
          case atStart => exact ⟨0, Nat.zero_le _, rfl, Lib.hid (by simpa using HB.out), HM, HBX⟩
          clear HB HM HBX
          case round =>
            rename World => wr
            obtain ⟨j, hj, rfl, HB, HM, HBX⟩ := hrel
            by_cases hlt : j < hn_
            · have hjl : j < (hosts).length := by have := (HAH).out.1.1; omega
              obtain ⟨g, o, hA, htb, hc⟩ := ((HAH).out.1.mod HM.out (fun g e => HLS.out g (.inl e))).2 (by omega)
              have hcap := (HAH).out.2
              subst hA
              have hcell := hc j hjl 0 (by omega)
              simp only [Nat.mul_one, Nat.add_zero, sEnc] at hcell
              have hgl := htb.lt
              have hsz := (HZS.out.hosts).2 _ (List.getElem_mem hjl)
              have HTK2 := Lib.hid (flat_next hostP hjl)
              have HLJ := Lib.hid (hosts_len txP HZS.out j (by omega))
              have hb3 : (0 : Int) ≤ j := by omega
              have hb4 : (j : Int) < hn_ := by omega
              simp only at HLJ hsz
              clear hc htb
              have HTX : Hid (((⟨#[104, 111, 115, 116, 32]⟩ : ByteArray) ++ (hosts)[j] ++ ⟨#[10]⟩).data.toList = hostP (hosts)[j]) := Lib.hid (by rw [cat3]; rfl)
              have HPL := Lib.hid (hostP_len hsz)
              generalize (hosts)[j] = s at *
              generalize ((hosts).take j).flatMap hostP = LJ at *
              have hpb : (⟨#[104, 111, 115, 116, 32]⟩ : ByteArray).size ≤ 10 := by decide
              have hpn : (⟨#[10]⟩ : ByteArray).size ≤ 10 := by decide
              have y1 : ¬ 9223372036854775807 < (⟨#[104, 111, 115, 116, 32]⟩ : ByteArray).size + s.size := by omega
              have y2 : ¬ 9223372036854775807 < ((⟨#[104, 111, 115, 116, 32]⟩ : ByteArray) ++ s).size + (⟨#[10]⟩ : ByteArray).size := by
                rw [ByteArray.size_append]
                omega
              clear hpb hpn
              have HZ : Hid ((L ++ LJ).length + (hostP s).length ≤ 140737488355328) := Lib.hid (by rw [List.length_append]; have := HLB.out; have := HLJ.out; have := HPL.out; omega)
              go_wp2_with fail
              clear y1 y2
              obtain ⟨U, hU⟩ : ∃ U : ByteArray, U = ((⟨#[104, 111, 115, 116, 32]⟩ : ByteArray) ++ s ++ ⟨#[10]⟩) := ⟨_, rfl⟩
              rw [← hU] at HTX
              rw [← hU]
              have hUz : U.size = (hostP s).length := by
                have h1 : U.data.toList.length = U.size := rfl
                rw [HTX.out] at h1
                exact h1.symm
              have hwr := tx_write b _ U _ HB.out (by have := HZ.out; rw [hUz]; omega)
              clear hU hUz
              refine hwr.mono ?_
              clear hwr
              rintro e w5 ⟨rfl, hb5, hm5, hk5⟩
              rw [HTX.out] at hb5
              have HM5 := Lib.hid (HM.out.trans hm5)
              have HX5 := Lib.hid (HBX.out.keep hk5 HXB.out (by decide))
              have HB5 := Lib.hid hb5
              clear hb5 hm5 hk5 HB HM HBX HTX
              have HB := HB5
              have HM := HM5
              have HBX := HX5
              clear HB5 HM5 HX5
              go_wp2_with fail
              go_roundw
              case rel => exact ⟨j + 1, by omega, by go_num, Lib.hid (by rw [HTK2.out, ← List.append_assoc]; exact HB.out), HM, HBX⟩
              case measure => simp [intOf]; omega
            · obtain rfl : j = hn_ := by omega
              have HLJ := Lib.hid (hosts_len txP HZS.out (hosts).length (HZS.out.hosts).1)
              have hfull : ((hosts).take j).flatMap hostP = (hosts).flatMap hostP := by rw [List.take_of_length_le (by have := (HAH).out.1.1; omega)]
              rw [hfull] at HB
              simp only [List.take_length] at HLJ
              have HLB2 : Hid ((L ++ (hosts).flatMap hostP).length ≤ 88400000000000) := Lib.hid (by rw [List.length_append]; have := HLB.out; have := HLJ.out; omega)
              have HTK2 : Hid ((rs.take (k + 1)).flatMap (rtT headP needP) = L ++ (hosts).flatMap hostP ++ (methods.flatMap methodP ++ needs.flatMap needP)) := Lib.hid (by rw [HTK1.out]; simp only [List.append_assoc])
              clear hfull HLJ HLB HTK1
              have HLB := HLB2
              have HTK1 := HTK2
              clear HLB2 HTK2
              generalize L ++ (hosts).flatMap hostP = L1 at *
              obtain ⟨e0, e1, e2, e3, e4, e5, el⟩ := HCS.out _ HBX.out
              go_upto_region 18 with (fail)
              clear e0 e1 e2 e3 e4 e5 el
              go_loopw [56] (fun i wr => ∃ j : Nat, j ≤ mn ∧ i = .int .i64 j ∧ Hid (Bw 49 b b (L1 ++ ((methods).take j).flatMap methodP) wr) ∧ Hid (Mod (fun x => b ≤ x) w2 wr) ∧ Hid (Blk wr xb 44 cs)) (fun i _ => mn - (intOf i).toNat)
              case atStart => exact ⟨0, Nat.zero_le _, rfl, Lib.hid (by simpa using HB.out), HM, HBX⟩
              clear HB HM HBX
              case round =>
                rename World => wr
                obtain ⟨j, hj, rfl, HB, HM, HBX⟩ := hrel
                by_cases hlt : j < mn
                · have hjl : j < (methods).length := by have := (HAM).out.1.1; omega
                  obtain ⟨g, o, hA, htb, hc⟩ := ((HAM).out.1.mod HM.out (fun g e => HLS.out g (.inl e))).2 (by omega)
                  have hcap := (HAM).out.2
                  subst hA
                  have hcell := hc j hjl 0 (by omega)
                  simp only [Nat.mul_one, Nat.add_zero, sEnc] at hcell
                  have hgl := htb.lt
                  have hsz := (HZS.out.methods).2 _ (List.getElem_mem hjl)
                  have HTK2 := Lib.hid (flat_next methodP hjl)
                  have HLJ := Lib.hid (methods_len txP HZS.out j (by omega))
                  have hb3 : (0 : Int) ≤ j := by omega
                  have hb4 : (j : Int) < mn := by omega
                  simp only at HLJ hsz
                  clear hc htb
                  have HTX : Hid (((⟨#[109, 101, 116, 104, 111, 100, 32]⟩ : ByteArray) ++ (methods)[j] ++ ⟨#[10]⟩).data.toList = methodP (methods)[j]) := Lib.hid (by rw [cat3]; rfl)
                  have HPL := Lib.hid (methodP_len hsz)
                  generalize (methods)[j] = s at *
                  generalize ((methods).take j).flatMap methodP = LJ at *
                  have hpb : (⟨#[109, 101, 116, 104, 111, 100, 32]⟩ : ByteArray).size ≤ 10 := by decide
                  have hpn : (⟨#[10]⟩ : ByteArray).size ≤ 10 := by decide
                  have y1 : ¬ 9223372036854775807 < (⟨#[109, 101, 116, 104, 111, 100, 32]⟩ : ByteArray).size + s.size := by omega
                  have y2 : ¬ 9223372036854775807 < ((⟨#[109, 101, 116, 104, 111, 100, 32]⟩ : ByteArray) ++ s).size + (⟨#[10]⟩ : ByteArray).size := by
                    rw [ByteArray.size_append]
                    omega
                  clear hpb hpn
                  have HZ : Hid ((L1 ++ LJ).length + (methodP s).length ≤ 140737488355328) := Lib.hid (by rw [List.length_append]; have := HLB.out; have := HLJ.out; have := HPL.out; omega)
                  go_wp2_with fail
                  clear y1 y2
                  obtain ⟨U, hU⟩ : ∃ U : ByteArray, U = ((⟨#[109, 101, 116, 104, 111, 100, 32]⟩ : ByteArray) ++ s ++ ⟨#[10]⟩) := ⟨_, rfl⟩
                  rw [← hU] at HTX
                  rw [← hU]
                  have hUz : U.size = (methodP s).length := by
                    have h1 : U.data.toList.length = U.size := rfl
                    rw [HTX.out] at h1
                    exact h1.symm
                  have hwr := tx_write b _ U _ HB.out (by have := HZ.out; rw [hUz]; omega)
                  clear hU hUz
                  refine hwr.mono ?_
                  clear hwr
                  rintro e w5 ⟨rfl, hb5, hm5, hk5⟩
                  rw [HTX.out] at hb5
                  have HM5 := Lib.hid (HM.out.trans hm5)
                  have HX5 := Lib.hid (HBX.out.keep hk5 HXB.out (by decide))
                  have HB5 := Lib.hid hb5
                  clear hb5 hm5 hk5 HB HM HBX HTX
                  have HB := HB5
                  have HM := HM5
                  have HBX := HX5
                  clear HB5 HM5 HX5
                  go_wp2_with fail
                  go_roundw
                  case rel => exact ⟨j + 1, by omega, by go_num, Lib.hid (by rw [HTK2.out, ← List.append_assoc]; exact HB.out), HM, HBX⟩
                  case measure => simp [intOf]; omega
                · obtain rfl : j = mn := by omega
                  have HLJ := Lib.hid (methods_len txP HZS.out (methods).length (HZS.out.methods).1)
                  have hfull : ((methods).take j).flatMap methodP = (methods).flatMap methodP := by rw [List.take_of_length_le (by have := (HAM).out.1.1; omega)]
                  rw [hfull] at HB
                  simp only [List.take_length] at HLJ
                  have HLB2 : Hid ((L1 ++ (methods).flatMap methodP).length ≤ 88500000000000) := Lib.hid (by rw [List.length_append]; have := HLB.out; have := HLJ.out; omega)
                  have HTK2 : Hid ((rs.take (k + 1)).flatMap (rtT headP needP) = L1 ++ (methods).flatMap methodP ++ (needs.flatMap needP)) := Lib.hid (by rw [HTK1.out]; simp only [List.append_assoc])
                  clear hfull HLJ HLB HTK1
                  have HLB := HLB2
                  have HTK1 := HTK2
                  clear HLB2 HTK2
                  generalize L1 ++ (methods).flatMap methodP = L2 at *
                  obtain ⟨e0, e1, e2, e3, e4, e5, el⟩ := HCS.out _ HBX.out
                  go_upto_region 23 with (fail)
                  clear e0 e1 e2 e3 e4 e5 el HBX HCS HXB
                  go_loopw [68] (fun i wr => ∃ j : Nat, j ≤ nn ∧ i = .int .i64 j ∧ Hid (Bw 49 b b (L2 ++ (needs.take j).flatMap needP) wr) ∧ Hid (Mod (fun x => b ≤ x) w2 wr)) (fun i _ => nn - (intOf i).toNat)
                  case atStart => exact ⟨0, Nat.zero_le _, rfl, Lib.hid (by simpa using HB.out), HM⟩
                  clear HB HM
                  case round =>
                    rename World => wr
                    obtain ⟨j, hj, rfl, HB, HM⟩ := hrel
                    by_cases hlt : j < nn
                    · have hjl : j < needs.length := by have := HAN.out.1.1; omega
                      obtain ⟨g, o, hA, htb, hc⟩ := (HAN.out.1.mod HM.out (fun g e => HLS.out g (.inr (.inl e)))).2 (by omega)
                      have hcap := HAN.out.2
                      subst hA
                      have p0 := hc j hjl 0 (by omega)
                      have p1 := hc j hjl 1 (by omega)
                      simp only [pairEnc, Nat.add_zero] at p0 p1
                      have hgl := htb.lt
                      have hsz := HZS.out.needs.2 _ (List.getElem_mem hjl)
                      have HTK2 := Lib.hid (flat_next needP hjl)
                      have HLJ := Lib.hid (needs_len txP HZS.out j (by omega))
                      have hb3 : (0 : Int) ≤ j := by omega
                      have hb4 : (j : Int) < nn := by omega
                      simp only at HLJ hsz
                      clear hc htb
                      generalize needs[j] = s at *
                      generalize (needs.take j).flatMap needP = LJ at *
                      obtain ⟨nm, vl⟩ := s
                      obtain ⟨s1, s2⟩ := hsz
                      simp only at p0 p1 s1 s2
                      go_upto_region 25 with (fail)
                      have hAl : New wr (wr.alloc (.cells #[.string nm, .string vl] 55)) := (Mod.refl _ _).alloc _
                      have HPB := Lib.hid (Blk.new wr 55 #[.string nm, .string vl])
                      have HBl := Lib.hid (HB.out.new hAl)
                      have HM4 : Hid (Mod (fun x => b ≤ x) w2 (wr.alloc (.cells #[.string nm, .string vl] 55))) := Lib.hid (HM.out.alloc _)
                      have HPN : Hid (wr.heap.size ≠ b) := Lib.hid (by have := HB.out.lt.2; omega)
                      clear p0 p1 hAl HB HM hgl
                      generalize wr.alloc (.cells #[.string nm, .string vl] 55) = w4 at *
                      generalize wr.heap.size = pb at *
                      have HB := HBl
                      have HM := HM4
                      clear HBl HM4
                      have y1 : ¬ 9223372036854775807 < (⟨#[110, 101, 101, 100, 32]⟩ : ByteArray).size + nm.size := by show ¬ _ < 5 + nm.size; omega
                      have HTX : Hid (((⟨#[110, 101, 101, 100, 32]⟩ : ByteArray) ++ nm).data.toList = bNeed ++ nm.data.toList) := Lib.hid (by rw [cat2]; rfl)
                      have HZ : Hid ((L2 ++ LJ).length + (bNeed ++ nm.data.toList).length ≤ 140737488355328) := Lib.hid (by have := HLB.out; have := HLJ.out; simp only [List.length_append, len_size, bNeed, List.length_cons, List.length_nil]; omega)
                      have r0 := HPB.out.cell 0
                      have r1 := HPB.out.cell 1
                      have rl := HPB.out.lt
                      simp only [List.getElem?_toArray, List.getElem?_cons_zero, List.getElem?_cons_succ] at r0 r1
                      go_wp2_with fail
                      clear r0 r1 rl y1
                      obtain ⟨U, hU⟩ : ∃ U : ByteArray, U = ((⟨#[110, 101, 101, 100, 32]⟩ : ByteArray) ++ nm) := ⟨_, rfl⟩
                      rw [← hU] at HTX
                      rw [← hU]
                      have hUz : U.size = (bNeed ++ nm.data.toList).length := by
                        have h1 : U.data.toList.length = U.size := rfl
                        rw [HTX.out] at h1
                        exact h1.symm
                      have hwr := tx_write b _ U _ HB.out (by have := HZ.out; rw [hUz]; omega)
                      clear hU hUz
                      refine hwr.mono ?_
                      clear hwr
                      rintro e w5 ⟨rfl, hb5, hm5, hk5⟩
                      rw [HTX.out] at hb5
                      have HM5 := Lib.hid (HM.out.trans hm5)
                      have HP5 := Lib.hid (HPB.out.keep hk5 HPN.out (by decide))
                      have HB5 := Lib.hid hb5
                      clear hb5 hm5 hk5 HB HM HPB HTX
                      have HB := HB5
                      have HM := HM5
                      have HPB := HP5
                      clear HB5 HM5 HP5
                      by_cases hv : vl = ⟨#[]⟩
                      · have hv' : vl.toList.isEmpty = true := by rw [emp_eq]; simpa using hv
                        have HNE : Hid (L2 ++ LJ ++ (bNeed ++ nm.data.toList) ++ [10] = L2 ++ LJ ++ needP (nm, vl)) := Lib.hid (by unfold needP; rw [if_pos hv]; simp)
                        clear hv
                        have HZ : Hid ((L2 ++ LJ ++ (bNeed ++ nm.data.toList)).length + ([10] : List UInt8).length ≤ 140737488355328) := Lib.hid (by have := HLB.out; have := HLJ.out; simp only [List.length_append, len_size, bNeed, List.length_cons, List.length_nil]; omega)
                        have r0 := HPB.out.cell 0
                        have r1 := HPB.out.cell 1
                        have rl := HPB.out.lt
                        simp only [List.getElem?_toArray, List.getElem?_cons_zero, List.getElem?_cons_succ] at r0 r1
                        go_wp2_with fail
                        clear r0 r1 rl
                        have HTX : Hid ((⟨#[10]⟩ : ByteArray).data.toList = [10]) := Lib.hid rfl
                        obtain ⟨U, hU⟩ : ∃ U : ByteArray, U = (⟨#[10]⟩ : ByteArray) := ⟨_, rfl⟩
                        rw [← hU] at HTX
                        rw [← hU]
                        have hUz : U.size = (([10] : List UInt8)).length := by
                          have h1 : U.data.toList.length = U.size := rfl
                          rw [HTX.out] at h1
                          exact h1.symm
                        have hwr := tx_write b _ U _ HB.out (by have := HZ.out; rw [hUz]; omega)
                        clear hU hUz
                        refine hwr.mono ?_
                        clear hwr
                        rintro e w5 ⟨rfl, hb5, hm5, hk5⟩
                        rw [HTX.out] at hb5
                        have HM5 := Lib.hid (HM.out.trans hm5)
                        have HP5 := Lib.hid (HPB.out.keep hk5 HPN.out (by decide))
                        have HB5 := Lib.hid hb5
                        clear hb5 hm5 hk5 HB HM HPB HTX
                        have HB := HB5
                        have HM := HM5
                        have HPB := HP5
                        clear HB5 HM5 HP5
                        go_wp2_with fail
                        go_roundw
                        case rel => exact ⟨j + 1, by omega, by go_num, Lib.hid (by
                          rw [HTK2.out, ← List.append_assoc]
                          have e := HB.out
                          rwa [show L2 ++ LJ ++ (bNeed ++ nm.data.toList) ++ [10] = L2 ++ LJ ++ needP (nm, vl) from HNE.out] at e), HM⟩
                        case measure => simp [intOf]; omega
                      · have hv' : vl.toList.isEmpty = false := by rw [emp_eq]; simpa using hv
                        have HNE : Hid (L2 ++ LJ ++ (bNeed ++ nm.data.toList) ++ 32 :: vl.data.toList ++ [10] = L2 ++ LJ ++ needP (nm, vl)) := Lib.hid (by unfold needP; rw [if_neg hv]; simp)
                        clear hv
                        have HTX : Hid (((⟨#[32]⟩ : ByteArray) ++ vl).data.toList = 32 :: vl.data.toList) := Lib.hid (by rw [cat2]; rfl)
                        have y1 : ¬ 9223372036854775807 < (⟨#[32]⟩ : ByteArray).size + vl.size := by show ¬ _ < 1 + vl.size; omega
                        have HZ : Hid ((L2 ++ LJ ++ (bNeed ++ nm.data.toList)).length + (32 :: vl.data.toList).length ≤ 140737488355328) := Lib.hid (by have := HLB.out; have := HLJ.out; simp only [List.length_append, len_size, bNeed, List.length_cons, List.length_nil]; omega)
                        have r0 := HPB.out.cell 0
                        have r1 := HPB.out.cell 1
                        have rl := HPB.out.lt
                        simp only [List.getElem?_toArray, List.getElem?_cons_zero, List.getElem?_cons_succ] at r0 r1
                        go_wp2_with fail
                        clear r0 r1 rl y1
                        obtain ⟨U, hU⟩ : ∃ U : ByteArray, U = ((⟨#[32]⟩ : ByteArray) ++ vl) := ⟨_, rfl⟩
                        rw [← hU] at HTX
                        rw [← hU]
                        have hUz : U.size = (32 :: vl.data.toList).length := by
                          have h1 : U.data.toList.length = U.size := rfl
                          rw [HTX.out] at h1
                          exact h1.symm
                        have hwr := tx_write b _ U _ HB.out (by have := HZ.out; rw [hUz]; omega)
                        clear hU hUz
                        refine hwr.mono ?_
                        clear hwr
                        rintro e w5 ⟨rfl, hb5, hm5, hk5⟩
                        rw [HTX.out] at hb5
                        have HM5 := Lib.hid (HM.out.trans hm5)
                        have HP5 := Lib.hid (HPB.out.keep hk5 HPN.out (by decide))
                        have HB5 := Lib.hid hb5
                        clear hb5 hm5 hk5 HB HM HPB HTX
                        have HB := HB5
                        have HM := HM5
                        have HPB := HP5
                        clear HB5 HM5 HP5
                        have HZ : Hid ((L2 ++ LJ ++ (bNeed ++ nm.data.toList) ++ 32 :: vl.data.toList).length + ([10] : List UInt8).length ≤ 140737488355328) := Lib.hid (by have := HLB.out; have := HLJ.out; simp only [List.length_append, len_size, bNeed, List.length_cons, List.length_nil]; omega)
                        go_wp2_with fail
                        have HTX : Hid ((⟨#[10]⟩ : ByteArray).data.toList = [10]) := Lib.hid rfl
                        obtain ⟨U, hU⟩ : ∃ U : ByteArray, U = (⟨#[10]⟩ : ByteArray) := ⟨_, rfl⟩
                        rw [← hU] at HTX
                        rw [← hU]
                        have hUz : U.size = (([10] : List UInt8)).length := by
                          have h1 : U.data.toList.length = U.size := rfl
                          rw [HTX.out] at h1
                          exact h1.symm
                        have hwr := tx_write b _ U _ HB.out (by have := HZ.out; rw [hUz]; omega)
                        clear hU hUz
                        refine hwr.mono ?_
                        clear hwr
                        rintro e w5 ⟨rfl, hb5, hm5, hk5⟩
                        rw [HTX.out] at hb5
                        have HM5 := Lib.hid (HM.out.trans hm5)
                        have HP5 := Lib.hid (HPB.out.keep hk5 HPN.out (by decide))
                        have HB5 := Lib.hid hb5
                        clear hb5 hm5 hk5 HB HM HPB HTX
                        have HB := HB5
                        have HM := HM5
                        have HPB := HP5
                        clear HB5 HM5 HP5
                        go_wp2_with fail
                        go_roundw
                        case rel => exact ⟨j + 1, by omega, by go_num, Lib.hid (by
                          rw [HTK2.out, ← List.append_assoc]
                          have e := HB.out
                          rwa [show L2 ++ LJ ++ (bNeed ++ nm.data.toList) ++ 32 :: vl.data.toList ++ [10] = L2 ++ LJ ++ needP (nm, vl) from HNE.out] at e), HM⟩
                        case measure => simp [intOf]; omega
                    · obtain rfl : j = nn := by omega
                      have hfull : (needs.take j).flatMap needP = needs.flatMap needP := by rw [List.take_of_length_le (by have := HAN.out.1.1; omega)]
                      rw [hfull, ← HTK1.out] at HB
                      clear hfull
                      go_wp2_with fail
                      go_roundw
                      case rel => exact ⟨k + 1, by omega, by go_num, HB, HM⟩
                      case measure => simp [intOf]; omega
      · obtain rfl : k = n := by omega
        have hB := HB.out
        have hfull : (rs.take k).flatMap (rtT headP needP) = routesP rs := by
          rw [List.take_of_length_le (by have := HL.out.2; omega)]; rfl
        rw [hfull] at hB
        have hst := bld_string b b _ wr hB
        have hle := bw_len b b _ wr hB
        have HMF : Hid (New w wr) := Lib.hid (HMW.out.step HM.out (fun i hi e => by omega))
        clear hB hfull
        generalize routesP rs = L at *
        go_wp2_with fail
        refine hle.mono ?_
        clear hle
        rintro e w8 ⟨rfl, rfl⟩
        by_cases hbig : L.length ≤ 200000
        · have hg1 : ¬ (200000 : Int) < L.length := by omega
          have HBIG := Lib.hid hbig
          clear hbig
          go_wp2_with fail
          refine hst.mono ?_
          clear hst
          rintro e w9 ⟨rfl, hm9⟩
          go_wp2_with fail
          go_ret2
          exact HE.out _ (HMW.out.step (HM.out.trans hm9) (fun i hi e => by omega)) HBIG.out
        · have hg1 : (200000 : Int) < L.length := by omega
          have HBIG := Lib.hid hbig
          clear hbig hst
          go_wp2_with fail
          go_ret2
          exact HE2.out _ HMF.out HBIG.out
  · have hf' : (routesF rs != 0) = true := by simpa using hf
    have HE : Hid (∀ w', New w w' → RRtText w rs (.returned (.tuple #[.string ⟨#[]⟩, .int .i64 (routesF rs)])) w') := Lib.hid (fun w' h => ⟨by unfold RtTextOut; rw [if_neg hf], h⟩)
    clear hl hx hz hf
    generalize routesF rs = F at *
    go_enter Tryz.func5, Tryz.ntmps5
    go_wp2_with fail
    refine hcl.mono ?_
    clear hcl
    rintro e w1 ⟨rfl, hm1⟩
    go_wp2_with fail
    go_ret2
    exact HE.out _ hm1
end Go.Proofs.YtnbcfpjalgfikaaGreatDoor
