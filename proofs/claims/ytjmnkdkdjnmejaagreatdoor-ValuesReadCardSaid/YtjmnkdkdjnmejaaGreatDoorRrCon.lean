/- Reading values: is there a member with a name? (slices.ContainsFunc over a function value.) Conditions: at most 300000 members. -/
import Derived.Test.YtjmnkdkdjnmejaaGreatDoorRvReadGrp
import Derived.Test.YtjmnkdkdjnmejaaGreatDoorValWMGrp
namespace Go.Proofs.YtjmnkdkdjnmejaaGreatDoor
open Go.RowKit
set_option linter.unusedVariables false
set_option linter.unusedSimpArgs false

/-- a closure that asks whether a member has the name -/
def NamPred (w : World) (F : Nat) (cp : Value) (s : ByteArray) : Prop :=
  ∀ (p : MA) wr, New w wr → Calls Tryz.prog F #[p.val, cp] wr fun e w' => e = .returned (.bool (decide (p.name = s))) ∧ New wr w'
set_option maxHeartbeats 1000000 in
theorem indexFunc_mm (F : Nat) (cp : Value) (eg : ∀ args w, (callFunc F args).run Tryz.prog w = .ok (.enter F args) w) (w : World) (A : Option Addr) (n c : Nat) (ps : List MA) (s : ByteArray) (hs : Sl w 60 7 MA.enc A n ps) (hF : NamPred w F cp s) (hn : n ≤ 300000) :
    Calls Tryz.prog 104 #[.slice A n c, .func (.func F) #[] #[cp]] w fun e w' => e = .returned (.int .i64 (firstP (fun i => (ps[i]?).any (fun p => decide (p.name = s))) n)) ∧ New w w' := by
  have HS := hId hs
  have HF := hId hF
  have HL := hId hs.1
  obtain ⟨b, hb⟩ : ∃ b : Nat → Bool, b = (fun i => (ps[i]?).any (fun p => decide (p.name = s))) := ⟨_, rfl⟩
  rw [← hb]
  have HB := hId hb
  clear hs hF hb
  go_enter Tryz.func104, Tryz.ntmps104
  go_wp2_with fail
  go_loopw [8] (fun i wr => ∃ k : Nat, k ≤ n ∧ i = .int .i64 k ∧ Hid (New w wr) ∧ Hid (∀ j, j < k → b j = false)) (fun i _ => n - (intOf i).toNat)
  case atStart => exact ⟨0, Nat.zero_le _, rfl, hId (Mod.refl _ _), hId (fun j hj => absurd hj (by omega))⟩
  case round =>
    rename World => wr
    obtain ⟨k, hk, rfl, HM, HA⟩ := hrel
    by_cases hlt : k < n
    · have hkx : k < ps.length := by have := HL.out; omega
      obtain ⟨g, o, hA, htb, hc0⟩ := (HS.out.new HM.out).2 (by omega)
      have hgl := htb.lt
      have hc := fun q (hq : q < 7) => hc0 k hkx q hq
      have hbk : b k = decide (ps[k].name = s) := by rw [HB.out]; simp [hkx]
      have HBK := hId hbk
      clear hc0 htb hbk
      have hcall := HF.out ps[k] wr HM.out
      generalize ps[k] = y at *
      subst hA
      have hb1 : (0 : Int) ≤ k := by omega
      have hb2 : (k : Int) < n := by omega
      obtain ⟨ym, yk, yf, yn, yw, yla, yln, ylc, yma, ymn, ymc⟩ := y
      have b0 := hc 0 (by omega)
      have b1 := hc 1 (by omega)
      have b2 := hc 2 (by omega)
      have b3 := hc 3 (by omega)
      have b4 := hc 4 (by omega)
      have b5 := hc 5 (by omega)
      have b6 := hc 6 (by omega)
      simp only [MA.enc, VA.enc, Nat.add_zero, Nat.zero_add] at b0 b1 b2 b3 b4 b5 b6
      clear hc
      simp only [MA.val, VA.val] at hcall HBK
      generalize decide (ym = s) = r at *
      go_wp2_with fail
      refine hcall.mono ?_
      clear hcall
      rintro e w5 ⟨rfl, m5⟩
      have HM5 := hId (HM.out.trans m5)
      clear m5
      cases r with
      | true =>
        go_wp2_with fail
        go_ret
        exact ⟨ret_int (firstP_hit hlt HBK.out HA.out).symm, HM5.out⟩
      | false =>
        go_wp2_with fail
        go_roundw
        case rel => exact ⟨k + 1, by omega, by go_num, HM5, hId (fun j hj => by
          by_cases e : j = k
          · subst e; exact HBK.out
          · exact HA.out j (by omega))⟩
        case measure => simp [intOf]; omega
    · obtain rfl : k = n := by omega
      go_wp2_with fail
      go_ret
      exact ⟨ret_int (firstP_none HA.out).symm, HM.out⟩
set_option maxHeartbeats 1000000 in
theorem containsFunc_mm (F : Nat) (cp : Value) (eg : ∀ args w, (callFunc F args).run Tryz.prog w = .ok (.enter F args) w) (w : World) (A : Option Addr) (n c : Nat) (ps : List MA) (s : ByteArray) (hs : Sl w 60 7 MA.enc A n ps) (hF : NamPred w F cp s) (hn : n ≤ 300000) :
    Calls Tryz.prog 76 #[.slice A n c, .func (.func F) #[] #[cp]] w fun e w' => e = .returned (.bool (ps.any (fun p => decide (p.name = s)))) ∧ New w w' := by
  have hif := indexFunc_mm F cp eg w A n c ps s hs hF hn
  have hany : decide (0 ≤ firstP (fun i => (ps[i]?).any (fun p => decide (p.name = s))) n) = ps.any (fun p => decide (p.name = s)) := by
    rw [firstP_any, ← hs.1]
    exact anyRange _ _
  have HA := hId hany
  clear hany hs hF eg
  generalize firstP (fun i => (ps[i]?).any (fun p => decide (p.name = s))) n = r at *
  generalize ps.any (fun p => decide (p.name = s)) = q at *
  go_enter Tryz.func76, Tryz.ntmps76
  go_wp2_with (first | (refine hif.mono ?_; clear hif; rintro e w' ⟨rfl, hm⟩; have hm := hId hm))
  go_ret
  exact ⟨ret_bool HA.out, hm.out⟩
/-- the reference's closure: has a member the name that the other one has? -/
theorem enters_mem1 (args : Array Value) (w : World) : (callFunc 77 args).run Tryz.prog w = .ok (.enter 77 args) w := by
  go_simp
set_option maxHeartbeats 1000000 in
theorem mem1_v (a : MA) (nm : ByteArray) (mb : Nat) (w : World) (hm : w.cell? ⟨mb, 0, none⟩ = some (.string nm)) (hml : mb < w.heap.size) : Calls Tryz.prog 77 #[a.val, .pointer (some ⟨mb, 0, none⟩)] w fun e w' => e = .returned (.bool (decide (a.name = nm))) ∧ New w w' := by
  obtain ⟨xm, xk, xf, xn, xw, xla, xln, xlc, xma, xmn, xmc⟩ := a
  have hx := Blk.new w 60 #[.string xm, .int .i64 xk, .bool xf, .int .i64 xn, .string xw, .slice xla xln xlc, .slice xma xmn xmc]
  have hm1 : New w (w.alloc (.cells #[.string xm, .int .i64 xk, .bool xf, .int .i64 xn, .string xw, .slice xla xln xlc, .slice xma xmn xmc] 60)) := (Mod.refl _ _).alloc _
  have hsb := str_beq xm nm
  go_enter Tryz.func77, Tryz.ntmps77
  go_upto_region 1 with (fail)
  have c0 := (hm1.cell (p := ⟨mb, 0, none⟩) hml (fun e => e)).trans hm
  generalize w.alloc (.cells #[.string xm, .int .i64 xk, .bool xf, .int .i64 xn, .string xw, .slice xla xln xlc, .slice xma xmn xmc] 60) = w1 at *
  generalize w.heap.size = xb at *
  have b0 := hx.cell 0
  have bl := hx.lt
  simp only [lqt, lqz] at b0
  have HM := hId hm1
  clear hm1 hx hm
  go_wp2_with fail
  go_ret
  exact ⟨rfl, HM.out⟩
end Go.Proofs.YtjmnkdkdjnmejaaGreatDoor
