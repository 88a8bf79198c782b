/- Several texts in one. (1) The reference: with, a value with another one at a step. Conditions: names in order, at most 11 members; a step that is no further than the list's end. (2) The reference: with at a name: the row that it hands back is its own. (printed by mkwitho.py) Conditions: names in order, at most 5000. -/
import Derived.Test.YtjfgfkbgbhbhjaaGreatDoorGet
import Derived.Test.YtjfgfkbgbhbhjaaGreatDoorDelF
import Derived.Test.YtjfgfkbgbhbhjaaGreatDoorSortW
import Derived.Test.YtjfgfkbgbhbhjaaGreatDoorHeldGrp
import Derived.Test.YtjfgfkbgbhbhjaaGreatDoorValK

namespace Go.Proofs.YtjfgfkbgbhbhjaaGreatDoor
open Go.RowKit
set_option linter.unusedVariables false
set_option linter.unusedSimpArgs false

set_option maxHeartbeats 1000000 in
theorem with1_np (w : World) (A : Option Addr) (sb : Nat) (nm : Bool) (sn : ByteArray) (k : Int) (hb : Blk w sb 76 #[.bool nm, .string sn, .int .i64 k]) (hA : ¬ blkOf A = some sb) : NamePred w A 75 (.pointer (some ⟨sb, 0, none⟩)) sn := by
  intro m wr hw
  obtain ⟨zn0, zk, zf, zn, zw, zla, zln, zlc, zma, zmn, zmc⟩ := m
  have hx := Blk.new wr 54 #[.string zn0, .int .i64 zk, .bool zf, .int .i64 zn, .string zw, .slice zla zln zlc, .slice zma zmn zmc]
  have m1 : New wr (wr.alloc (.cells #[.string zn0, .int .i64 zk, .bool zf, .int .i64 zn, .string zw, .slice zla zln zlc, .slice zma zmn zmc] 54)) := (Mod.refl _ _).alloc _
  have hsb := (hb.mod hw hA).mod m1 (fun e => e)
  have t0 := hsb.cell 0
  have t1 := hsb.cell 1
  have t2 := hsb.cell 2
  have tl := hsb.lt
  simp only [List.getElem?_toArray, List.getElem?_cons_zero, List.getElem?_cons_succ] at t0 t1 t2
  clear hsb
  have HR : Hid ((zn0.toList == sn.toList) = isN sn ⟨zn0, ⟨zk, zf, zn, zw, zla, zln, zlc, zma, zmn, zmc⟩⟩) := Lib.hid (toList_beq _ _)
  obtain ⟨r, hr⟩ : ∃ r, (zn0.toList == sn.toList) = r := ⟨_, rfl⟩
  go_enter Tryz.func75, Tryz.ntmps75
  go_upto_region 1 with (fail)
  have HM := Lib.hid m1
  have b0 := hx.cell 0
  have bl := hx.lt
  simp only [List.getElem?_toArray, List.getElem?_cons_zero] at b0
  generalize wr.alloc (.cells #[.string zn0, .int .i64 zk, .bool zf, .int .i64 zn, .string zw, .slice zla zln zlc, .slice zma zmn zmc] 54) = w1 at *
  clear hx m1
  go_wp2_with fail
  go_ret
  exact ⟨ret_bool (by rw [← HR.out]; exact hr.symm), HM.out⟩
theorem enters_with1 (args : Array Value) (w : World) : (callFunc 75 args).run Tryz.prog w = .ok (.enter 75 args) w := by
  go_simp
theorem place_low : ∀ (ps : List Mem) (s : ByteArray) (i : Nat) (h : i < ps.length), i < place ps s → cmpB ps[i].1 s < 0
  | [], _, i, h, _ => absurd h (by simp)
  | p :: l, s, i, h, hp => by
    unfold place at hp
    split at hp
    · rename_i hq
      cases i with
      | zero => exact hq
      | succ i =>
        simp only [List.getElem_cons_succ]
        exact place_low l s i (by simpa using h) (by omega)
    · omega
theorem place_at : ∀ (ps : List Mem) (s : ByteArray) (h : place ps s < ps.length), ¬ cmpB ps[place ps s].1 s < 0
  | [], _, h => absurd h (by simp)
  | p :: l, s, h => by
    have e : place (p :: l) s = if cmpB p.1 s < 0 then place l s + 1 else 0 := rfl
    by_cases hq : cmpB p.1 s < 0
    · rw [if_pos hq] at e
      simp only [e, List.getElem_cons_succ]
      exact place_at l s (by rw [e] at h; simpa using h)
    · rw [if_neg hq] at e
      simp only [e, List.getElem_cons_zero]
      exact hq
theorem place_high {ps : List Mem} (hs : Srt ps) (s : ByteArray) (i : Nat) (h : i < ps.length) (hp : place ps s ≤ i) : ¬ cmpB ps[i].1 s < 0 := by
  have h0 := place_at ps s (by omega)
  by_cases e : place ps s = i
  · subst e; exact h0
  · have h1 := hs.lt (place ps s) i (by omega) h (by omega)
    intro h2
    exact h0 (cmpB_trans h1 h2)
/-- where a new member belongs among the others -/
theorem place_of {ms : List MA} {ps : List Mem} {T : MA → Mem → Prop} (ha : Al (fun m p => m.name = p.1 ∧ T m p) ms ps) (hs : Srt ps) (x : MA) (hn : ∀ p ∈ ps, ¬ p.1 = x.name) : Place ms x (place ps x.name) := by
  have hl := ha.len
  have hq := place_le ps x.name
  refine ⟨by omega, fun i j h1 h2 hij => ?_, fun i h hi => ?_, fun i h hi => ?_⟩
  · rw [(ha.get i h1 (by omega)).1, (ha.get j h2 (by omega)).1]
    exact hs.lt i j (by omega) (by omega) hij
  · rw [(ha.get i h (by omega)).1]
    exact place_low ps x.name i (by omega) hi
  · have h' : i < ps.length := by omega
    rw [(ha.get i h h').1]
    have h1 := place_high hs x.name i h' hi
    have h2 := hn _ (List.getElem_mem h')
    have h3 := cmpB_zero ps[i].1 x.name
    rw [cmpB_swap]
    have h4 : cmpB ps[i].1 x.name ≠ 0 := fun e => h2 (h3.1 e)
    omega

theorem Srt.filter (q : Mem → Bool) : ∀ {l : List Mem}, Srt l → Srt (l.filter q)
  | [], _ => trivial
  | p :: l, h => by
    rw [List.filter_cons]
    split
    · exact ⟨fun r hr => h.1 r (List.mem_filter.1 hr).1, Srt.filter q h.2⟩
    · exact Srt.filter q h.2
end Go.Proofs.YtjfgfkbgbhbhjaaGreatDoor

namespace Go.Proofs.YtjfgfkbgbhbhjaaGreatDoor
open Go.RowKit
set_option linter.unusedVariables false
set_option linter.unusedSimpArgs false

def RWithO (G : Nat → Prop) (d : Nat) (w : World) (x : VA) (L : List Mem) (e : Ending) (w' : World) : Prop := ∃ (A : Option Addr) (n c : Nat) (ms : List MA), e = .returned (VA.val ⟨x.kind, x.flag, x.num, x.words, x.la, x.ln, x.lc, A, n, c⟩) ∧ Own w' w.heap.size 54 7 MA.enc A n c ms ∧ Al (TM w' (fun g => G g ∧ g < w.heap.size) d) ms L ∧ New w w'
set_option maxRecDepth 100000 in
set_option maxHeartbeats 1000000 in
theorem with_namedO (G : Nat → Prop) (d : Nat) (x y : VA) (v u : VT) (sn : ByteArray) (k : Int) (w : World) (ht : Tree w G (d + 1) x v) (hu : Tree w G d y u) (hsrt : Srt v.mem) (hm : v.mem.length ≤ 5000) :
    Calls Tryz.prog 50 #[x.val, St.val ⟨true, sn, k⟩, y.val] w (RWithO G d w x (putM v.mem (sn, u))) := by
  replace ht := ht.oldG
  replace hu := hu.oldG
  obtain ⟨xs, ms, h1, h2, h3, h4⟩ := ht.als
  obtain ⟨f1, -, -, -, f5, f6⟩ := ht.fields
  have hml := h4.len
  have HCL := Lib.hid (fun W (h : New w W) => cloneMA ms x.ma x.mn x.mc W (h3.sl.new h) (by omega))
  have HT := Lib.hid ht
  have HU := Lib.hid hu
  have HL4 := Lib.hid h4
  have HSR := Lib.hid hsrt
  obtain ⟨xk, xf, xn, xw, xla, xln, xlc, xma, xmn, xmc⟩ := x
  obtain ⟨yk, yf, yn, yw, yla, yln, ylc, yma, ymn, ymc⟩ := y
  simp only at f1 f5 f6 HCL
  have hmn : ms.length = xmn := by omega
  have hmn1 : xmn ≤ 5000 := by omega
  have HMN := Lib.hid hmn
  obtain ⟨MF, hMF⟩ : ∃ M, ms.filter (fun m => !isN sn m) = M := ⟨_, rfl⟩
  have hnf : MF.length ≤ 5000 := by rw [← hMF]; have := List.length_filter_le (fun m => !isN sn m) ms; omega
  have HMF : Hid (ms.filter (fun m => !isN sn m) = MF) := Lib.hid hMF
  clear ht hu h1 h2 h3 h4 hsrt hm f1 f5 f6 hml hmn hMF
  have hx := Blk.new w 29 #[.int .i64 xk, .bool xf, .int .i64 xn, .string xw, .slice xla xln xlc, .slice xma xmn xmc]
  have m1 : New w (w.alloc (.cells #[.int .i64 xk, .bool xf, .int .i64 xn, .string xw, .slice xla xln xlc, .slice xma xmn xmc] 29)) := (Mod.refl _ _).alloc _
  have z1 : (w.alloc (.cells #[.int .i64 xk, .bool xf, .int .i64 xn, .string xw, .slice xla xln xlc, .slice xma xmn xmc] 29)).heap.size = w.heap.size + 1 := by simp
  go_enter Tryz.func50, Tryz.ntmps50
  go_upto_region 1 with (fail)
  generalize w.alloc (.cells #[.int .i64 xk, .bool xf, .int .i64 xn, .string xw, .slice xla xln xlc, .slice xma xmn xmc] 29) = w1 at *
  have hs := Blk.new w1 76 #[.bool true, .string sn, .int .i64 k]
  have m2 : New w1 (w1.alloc (.cells #[.bool true, .string sn, .int .i64 k] 76)) := (Mod.refl _ _).alloc _
  have z2 : (w1.alloc (.cells #[.bool true, .string sn, .int .i64 k] 76)).heap.size = w1.heap.size + 1 := by simp
  generalize w1.alloc (.cells #[.bool true, .string sn, .int .i64 k] 76) = w2 at *
  have hy := Blk.new w2 29 #[.int .i64 yk, .bool yf, .int .i64 yn, .string yw, .slice yla yln ylc, .slice yma ymn ymc]
  have m3 : New w2 (w2.alloc (.cells #[.int .i64 yk, .bool yf, .int .i64 yn, .string yw, .slice yla yln ylc, .slice yma ymn ymc] 29)) := (Mod.refl _ _).alloc _
  have z3 : (w2.alloc (.cells #[.int .i64 yk, .bool yf, .int .i64 yn, .string yw, .slice yla yln ylc, .slice yma ymn ymc] 29)).heap.size = w2.heap.size + 1 := by simp
  generalize w2.alloc (.cells #[.int .i64 yk, .bool yf, .int .i64 yn, .string yw, .slice yla yln ylc, .slice yma ymn ymc] 29) = w3 at *
  have hr := Blk.new w3 29 #[.int .i64 0, .bool false, .int .i64 0, .string ⟨#[]⟩, .slice none 0 0, .slice none 0 0]
  have m4 : New w3 (w3.alloc (.cells #[.int .i64 0, .bool false, .int .i64 0, .string ⟨#[]⟩, .slice none 0 0, .slice none 0 0] 29)) := (Mod.refl _ _).alloc _
  generalize w3.alloc (.cells #[.int .i64 0, .bool false, .int .i64 0, .string ⟨#[]⟩, .slice none 0 0, .slice none 0 0] 29) = w4 at *
  rw [z1] at hs z2
  rw [z2] at hy z3
  rw [z3] at hr
  have HX := Lib.hid (((hx.mod m2 (fun e => e)).mod m3 (fun e => e)).mod m4 (fun e => e))
  have HSB := Lib.hid ((hs.mod m3 (fun e => e)).mod m4 (fun e => e))
  have HY := Lib.hid (hy.mod m4 (fun e => e))
  have HR := Lib.hid hr
  have HM := Lib.hid (((m1.trans m2).trans m3).trans m4)
  clear hx hs hy hr m1 m2 m3 m4 z1 z2 z3
  generalize hxb : w.heap.size = xb at *
  have hwb : w.heap.size ≤ xb := by omega
  have hB4 : xb + 1 + 1 + 1 < w4.heap.size := HR.out.lt
  have s0 := (HSB.out.cell 0).trans rfl
  have sl := HSB.out.lt
  simp only [List.getElem?_toArray, List.getElem?_cons_zero, List.getElem?_cons_succ] at s0
  go_upto_region 7 with (fail)
  clear s0 sl
  have HSW : Hid (∀ W, New w4 W → (
    W.cell? ⟨xb, 0, none⟩ = some (.int .i64 xk) ∧ W.cell? ⟨xb, 1, none⟩ = some (.bool xf) ∧ W.cell? ⟨xb, 2, none⟩ = some (.int .i64 xn) ∧ W.cell? ⟨xb, 3, none⟩ = some (.string xw) ∧ W.cell? ⟨xb, 4, none⟩ = some (.slice xla xln xlc) ∧ W.cell? ⟨xb, 5, none⟩ = some (.slice xma xmn xmc) ∧
    W.cell? ⟨xb + 1, 0, none⟩ = some (.bool true) ∧ W.cell? ⟨xb + 1, 1, none⟩ = some (.string sn) ∧ W.cell? ⟨xb + 1, 2, none⟩ = some (.int .i64 k) ∧
    W.cell? ⟨xb + 1 + 1, 0, none⟩ = some (.int .i64 yk) ∧ W.cell? ⟨xb + 1 + 1, 1, none⟩ = some (.bool yf) ∧ W.cell? ⟨xb + 1 + 1, 2, none⟩ = some (.int .i64 yn) ∧ W.cell? ⟨xb + 1 + 1, 3, none⟩ = some (.string yw) ∧ W.cell? ⟨xb + 1 + 1, 4, none⟩ = some (.slice yla yln ylc) ∧ W.cell? ⟨xb + 1 + 1, 5, none⟩ = some (.slice yma ymn ymc) ∧ xb < W.heap.size ∧ xb + 1 < W.heap.size ∧ xb + 1 + 1 < W.heap.size
    )) := Lib.hid (fun W hW => by
    have h1 := HX.out.mod hW (fun e => e)
    have h2 := HSB.out.mod hW (fun e => e)
    have h3 := HY.out.mod hW (fun e => e)
    exact ⟨(h1.cell 0).trans rfl, (h1.cell 1).trans rfl, (h1.cell 2).trans rfl, (h1.cell 3).trans rfl, (h1.cell 4).trans rfl, (h1.cell 5).trans rfl, (h2.cell 0).trans rfl, (h2.cell 1).trans rfl, (h2.cell 2).trans rfl, (h3.cell 0).trans rfl, (h3.cell 1).trans rfl, (h3.cell 2).trans rfl, (h3.cell 3).trans rfl, (h3.cell 4).trans rfl, (h3.cell 5).trans rfl, h1.lt, h2.lt, h3.lt⟩)
  go_cut [] (fun wx => ∃ (g7 cap7 : Nat), Hid (Blk wx xb 29 #[.int .i64 xk, .bool xf, .int .i64 xn, .string xw, .slice xla xln xlc, .slice (some ⟨g7, 0, none⟩) (MF.length + 1) cap7]) ∧ Hid (Own wx w4.heap.size 54 7 MA.enc (some ⟨g7, 0, none⟩) (MF.length + 1) cap7 (MF ++ [⟨sn, ⟨yk, yf, yn, yw, yla, yln, ylc, yma, ymn, ymc⟩⟩])) ∧ Hid (Mod (fun k => k = xb) w4 wx))
  case first =>
    refine wp_region_held_tree (New w4) 11 (by kernel_rfl) (by kernel_rfl) ?_
    have hn0 : New w4 w4.drew := (Mod.refl _ _).drew
    refine headW_take 0 _ ?_ (fun _ _ d _ _ h => by cases d <;> exact h) (by kernel_rfl) rfl (by kernel_rfl) hn0 (by rfl) (fun W hSw => ?_) ?_
    rotate_left
    · (have hq := HSW.out W hSw); (try simp only [List.getElem_toArray, List.getElem_cons_zero, List.getElem_cons_succ]); go_simp; any_goals (with_reducible rfl)
    simp only [Act.put, List.getElem_toArray, List.getElem_cons_zero, List.getElem_cons_succ, List.setIfInBounds_toArray, List.set_cons_zero, List.set_cons_succ]
    refine headW_take 1 _ ?_ (fun _ _ d _ _ h => by cases d <;> exact h) (by kernel_rfl) rfl (by kernel_rfl) hn0 (by rfl) (fun W hSw => ?_) ?_
    rotate_left
    · (have hq := HSW.out W hSw); (try simp only [List.getElem_toArray, List.getElem_cons_zero, List.getElem_cons_succ]); go_simp; any_goals (with_reducible rfl)
    simp only [Act.put, List.getElem_toArray, List.getElem_cons_zero, List.getElem_cons_succ, List.setIfInBounds_toArray, List.set_cons_zero, List.set_cons_succ]
    refine headW_take 3 _ ?_ (fun _ _ d _ _ h => by cases d <;> exact h) (by kernel_rfl) rfl (by kernel_rfl) hn0 (by rfl) (fun W hSw => ?_) ?_
    rotate_left
    · (have hq := HSW.out W hSw); (try simp only [List.getElem_toArray, List.getElem_cons_zero, List.getElem_cons_succ]); go_simp; any_goals (with_reducible rfl)
    simp only [Act.put, List.getElem_toArray, List.getElem_cons_zero, List.getElem_cons_succ, List.setIfInBounds_toArray, List.set_cons_zero, List.set_cons_succ]
    refine headW_take 5 _ ?_ (fun _ _ d _ _ h => by cases d <;> exact h) (by kernel_rfl) rfl (by kernel_rfl) hn0 (by rfl) (fun W hSw => ?_) ?_
    rotate_left
    · (have hq := HSW.out W hSw); (try simp only [List.getElem_toArray, List.getElem_cons_zero, List.getElem_cons_succ]); go_simp; any_goals (with_reducible rfl)
    simp only [Act.put, List.getElem_toArray, List.getElem_cons_zero, List.getElem_cons_succ, List.setIfInBounds_toArray, List.set_cons_zero, List.set_cons_succ]
    refine headW_take 6 _ ?_ (fun _ _ d _ _ h => by cases d <;> exact h) (by kernel_rfl) rfl (by kernel_rfl) hn0 (by rfl) (fun W hSw => ?_) ?_
    rotate_left
    · (have hq := HSW.out W hSw); (try simp only [List.getElem_toArray, List.getElem_cons_zero, List.getElem_cons_succ]); go_simp; any_goals (with_reducible rfl)
    simp only [Act.put, List.getElem_toArray, List.getElem_cons_zero, List.getElem_cons_succ, List.setIfInBounds_toArray, List.set_cons_zero, List.set_cons_succ]
    refine headW_take 7 _ ?_ (fun _ _ d _ _ h => by cases d <;> exact h) (by kernel_rfl) rfl (by kernel_rfl) hn0 (by rfl) (fun W hSw => ?_) ?_
    rotate_left
    · (have hq := HSW.out W hSw); (try simp only [List.getElem_toArray, List.getElem_cons_zero, List.getElem_cons_succ]); go_simp; any_goals (with_reducible rfl)
    simp only [Act.put, List.getElem_toArray, List.getElem_cons_zero, List.getElem_cons_succ, List.setIfInBounds_toArray, List.set_cons_zero, List.set_cons_succ]
    refine headW_take 8 _ ?_ (fun _ _ d _ _ h => by cases d <;> exact h) (by kernel_rfl) rfl (by kernel_rfl) hn0 (by rfl) (fun W hSw => ?_) ?_
    rotate_left
    · (have hq := HSW.out W hSw); (try simp only [List.getElem_toArray, List.getElem_cons_zero, List.getElem_cons_succ]); go_simp; any_goals (with_reducible rfl)
    simp only [Act.put, List.getElem_toArray, List.getElem_cons_zero, List.getElem_cons_succ, List.setIfInBounds_toArray, List.set_cons_zero, List.set_cons_succ]
    refine headW_ready [2, 9] (by kernel_rfl) (by rfl) ?_
    refine eachW_step rfl rfl (fun K hK => ?_) (eachW_step rfl rfl (fun K hK => ?_) eachW_nil)
    · (try simp only [List.getElem_toArray, List.getElem_cons_zero, List.getElem_cons_succ])
      go_simp
      refine (HCL.out _ (HM.out.trans hn0)).mono ?_
      rintro e w5 ⟨A, cA, rfl, own5, m5⟩
      have HN := Lib.hid (hn0.trans m5)
      have HOW : Hid (Own w5 w4.heap.size 54 7 MA.enc A xmn cA ms) := Lib.hid own5
      clear own5 m5
      go_wp2_with fail
      refine hK.out _ _ HN.out (fun _ => ?_)
      clear hK K
      (try simp only [Act.put, List.getElem_toArray, List.getElem_cons_zero, List.getElem_cons_succ, List.setIfInBounds_toArray, List.set_cons_zero, List.set_cons_succ])
      refine headW_ready [4, 9] (by kernel_rfl) (by rfl) ?_
      refine eachW_step rfl rfl (fun K hK => ?_) (eachW_step rfl rfl (fun K hK => ?_) eachW_nil)
      · have hfar := HOW.out.far'
        have hsb5 := HSB.out.mod HN.out (fun e => e)
        have hdel := deleteFunc_ma 75 (.pointer (some ⟨xb + 1, 0, none⟩)) enters_with1 _ w4.heap.size A xmn cA ms sn HOW.out (with1_np _ A (xb + 1) true sn k hsb5 (fun e => by have := (hfar _ e).1; omega)) (by omega)
        clear hsb5
        rw [HMF.out] at hdel
        (try simp only [List.getElem_toArray, List.getElem_cons_zero, List.getElem_cons_succ])
        go_simp
        refine hdel.mono ?_
        clear hdel
        rintro e w6 ⟨rfl, own6, m6⟩
        have HN6 := Lib.hid (HN.out.step m6 (fun i hi e => by have := (hfar i e).1; omega))
        have HOW6 := Lib.hid own6
        clear own6 m6 HOW
        have HOW := HOW6
        clear HN
        have HN := HN6
        go_wp2_with fail
        refine hK.out _ _ HN.out (fun _ => ?_)
        clear hK K
        (try simp only [Act.put, List.getElem_toArray, List.getElem_cons_zero, List.getElem_cons_succ, List.setIfInBounds_toArray, List.set_cons_zero, List.set_cons_succ])
        refine headW_ready [9] (by kernel_rfl) (by rfl) ?_
        refine eachW_step rfl rfl (fun K hK => ?_) eachW_nil
        (try simp only [List.getElem_toArray, List.getElem_cons_zero, List.getElem_cons_succ])
        go_simp
        have HBL : Hid (Blk (w6.alloc (.cells #[.string sn, .int .i64 yk, .bool yf, .int .i64 yn, .string yw, .slice yla yln ylc, .slice yma ymn ymc] 54)) w6.heap.size 54 (encL 7 MA.enc ⟨sn, ⟨yk, yf, yn, yw, yla, yln, ylc, yma, ymn, ymc⟩⟩).toArray) := Lib.hid (Blk.new _ _ _)
        have m7 : New w6 (w6.alloc (.cells #[.string sn, .int .i64 yk, .bool yf, .int .i64 yn, .string yw, .slice yla yln ylc, .slice yma ymn ymc] 54)) := (Mod.refl _ _).alloc _
        have HOW7 := Lib.hid (HOW.out.new m7)
        have HN7 := Lib.hid (HN.out.trans m7)
        refine hK.out _ _ HN7.out (fun _ => ?_)
        clear hK K m7 HOW HN HOW6 HN6
        have HOW := HOW7
        have HN := HN7
        (try simp only [Act.put, List.getElem_toArray, List.getElem_cons_zero, List.getElem_cons_succ, List.setIfInBounds_toArray, List.set_cons_zero, List.set_cons_succ])
        refine headW_ready [10] (by kernel_rfl) (by rfl) ?_
        refine eachW_step rfl rfl (fun K hK => ?_) eachW_nil
        have hblp := HBL.out
        have hszp := HN.out.size
        refine wp_push (.tmp 37) (.tmp 42) _ rfl 104 Tryz.underlying27 einfo_mem rfl (by exact HOW.out) ⟨sn, ⟨yk, yf, yn, yw, yla, yln, ylc, yma, ymn, ymc⟩⟩ w6.heap.size rfl (by exact hblp) (fun j hj => MA.one _ j hj) (by omega) (by omega) (by omega) ?_
        intro g9 cap9 w9 own9 hm9 hat9 hlt9
        have HN9 := Lib.hid (HN.out.step hm9 (fun i hi e => by have := (HOW.out.far' i e).1; omega))
        refine hK.out _ _ HN9.out (fun _ => ?_)
        clear hK K hblp
        (try simp only [Act.put, List.getElem_toArray, List.getElem_cons_zero, List.getElem_cons_succ, List.setIfInBounds_toArray, List.set_cons_zero, List.set_cons_succ])
        refine headW_done (by kernel_rfl) ?_
        have HX9 := Lib.hid (HX.out.mod HN9.out (fun e => e))
        have e4 := HX9.out.cell 4
        have e5 := HX9.out.cell 5
        have el := HX9.out.lt
        have ef := HX9.out.frozen
        simp only [List.getElem?_toArray, List.getElem?_cons_zero, List.getElem?_cons_succ] at e4 e5
        have HO9 := Lib.hid (own9.mod (Only.set (Mod.refl (fun k => k = xb) w9) 5 (.slice (some ⟨g9, 0, none⟩) (MF.length + 1) cap9)) (fun i e q => by have := (own9.far' i e).1; omega))
        have HXX := Lib.hid (HX9.out.set 5 (.slice (some ⟨g9, 0, none⟩) (MF.length + 1) cap9))
        simp only [Array.setIfInBounds, List.size_toArray, List.length_cons, List.length_nil, Nat.reduceAdd, Nat.reduceLT, ↓reduceDIte, List.set_toArray, List.set_cons_zero, List.set_cons_succ] at HXX
        have HMX := Lib.hid ((HN9.out.mono (fun _ _ e => e.elim)).trans (Only.set (Mod.refl (fun k => k = xb) w9) 5 (.slice (some ⟨g9, 0, none⟩) (MF.length + 1) cap9)))
        clear own9 hm9 hat9
        go_wp2_with fail
        go_meet
        case rel => exact ⟨g9, cap9, HXX, HO9, HMX⟩
      · have HBL : Hid (Blk ((w5).alloc (.cells #[.string sn, .int .i64 yk, .bool yf, .int .i64 yn, .string yw, .slice yla yln ylc, .slice yma ymn ymc] 54)) (w5).heap.size 54 (encL 7 MA.enc ⟨sn, ⟨yk, yf, yn, yw, yla, yln, ylc, yma, ymn, ymc⟩⟩).toArray) := Lib.hid (Blk.new _ _ _)
        have HMA : Hid (New (w5) ((w5).alloc (.cells #[.string sn, .int .i64 yk, .bool yf, .int .i64 yn, .string yw, .slice yla yln ylc, .slice yma ymn ymc] 54))) := Lib.hid ((Mod.refl _ _).alloc _)
        (try simp only [List.getElem_toArray, List.getElem_cons_zero, List.getElem_cons_succ])
        go_simp
        have HNE : Hid (¬ blkOf A = some w5.heap.size) := Lib.hid (fun e => by have := (HOW.out.far' _ e).2.1; omega)
        have HOWa := Lib.hid (HOW.out.new HMA.out)
        have HNa := Lib.hid (HN.out.trans HMA.out)
        refine hK.out _ _ HNa.out (fun _ => ?_)
        clear hK K HOW HN HMA
        have HOW := HOWa
        have HN := HNa
        clear HOWa HNa
        (try simp only [Act.put, List.getElem_toArray, List.getElem_cons_zero, List.getElem_cons_succ, List.setIfInBounds_toArray, List.set_cons_zero, List.set_cons_succ])
        generalize w5.alloc (.cells #[.string sn, .int .i64 yk, .bool yf, .int .i64 yn, .string yw, .slice yla yln ylc, .slice yma ymn ymc] 54) = wa at *
        generalize w5.heap.size = bi at *
        refine headW_ready [4] (by kernel_rfl) (by rfl) ?_
        refine eachW_step rfl rfl (fun K hK => ?_) eachW_nil
        have hfar := HOW.out.far'
        have hsb5 := HSB.out.mod HN.out (fun e => e)
        have hdel := deleteFunc_ma 75 (.pointer (some ⟨xb + 1, 0, none⟩)) enters_with1 _ w4.heap.size A xmn cA ms sn HOW.out (with1_np _ A (xb + 1) true sn k hsb5 (fun e => by have := (hfar _ e).1; omega)) (by omega)
        clear hsb5
        rw [HMF.out] at hdel
        (try simp only [List.getElem_toArray, List.getElem_cons_zero, List.getElem_cons_succ])
        go_simp
        refine hdel.mono ?_
        clear hdel
        rintro e w6 ⟨rfl, own6, m6⟩
        have HN6 := Lib.hid (HN.out.step m6 (fun i hi e => by have := (hfar i e).1; omega))
        have HOW6 := Lib.hid own6
        have HBL6 := Lib.hid (HBL.out.mod m6 HNE.out)
        clear own6 m6 HOW HBL
        have HOW := HOW6
        have HBL := HBL6
        clear HN
        have HN := HN6
        go_wp2_with fail
        refine hK.out _ _ HN.out (fun _ => ?_)
        clear hK K
        (try simp only [Act.put, List.getElem_toArray, List.getElem_cons_zero, List.getElem_cons_succ, List.setIfInBounds_toArray, List.set_cons_zero, List.set_cons_succ])
        refine headW_ready [10] (by kernel_rfl) (by rfl) ?_
        refine eachW_step rfl rfl (fun K hK => ?_) eachW_nil
        have hblp := HBL.out
        have hszp := HN.out.size
        refine wp_push (.tmp 37) (.tmp 42) _ rfl 104 Tryz.underlying27 einfo_mem rfl (by exact HOW.out) ⟨sn, ⟨yk, yf, yn, yw, yla, yln, ylc, yma, ymn, ymc⟩⟩ bi rfl (by exact hblp) (fun j hj => MA.one _ j hj) (by omega) (by omega) (by omega) ?_
        intro g9 cap9 w9 own9 hm9 hat9 hlt9
        have HN9 := Lib.hid (HN.out.step hm9 (fun i hi e => by have := (HOW.out.far' i e).1; omega))
        refine hK.out _ _ HN9.out (fun _ => ?_)
        clear hK K hblp
        (try simp only [Act.put, List.getElem_toArray, List.getElem_cons_zero, List.getElem_cons_succ, List.setIfInBounds_toArray, List.set_cons_zero, List.set_cons_succ])
        refine headW_done (by kernel_rfl) ?_
        have HX9 := Lib.hid (HX.out.mod HN9.out (fun e => e))
        have e4 := HX9.out.cell 4
        have e5 := HX9.out.cell 5
        have el := HX9.out.lt
        have ef := HX9.out.frozen
        simp only [List.getElem?_toArray, List.getElem?_cons_zero, List.getElem?_cons_succ] at e4 e5
        have HO9 := Lib.hid (own9.mod (Only.set (Mod.refl (fun k => k = xb) w9) 5 (.slice (some ⟨g9, 0, none⟩) (MF.length + 1) cap9)) (fun i e q => by have := (own9.far' i e).1; omega))
        have HXX := Lib.hid (HX9.out.set 5 (.slice (some ⟨g9, 0, none⟩) (MF.length + 1) cap9))
        simp only [Array.setIfInBounds, List.size_toArray, List.length_cons, List.length_nil, Nat.reduceAdd, Nat.reduceLT, ↓reduceDIte, List.set_toArray, List.set_cons_zero, List.set_cons_succ] at HXX
        have HMX := Lib.hid ((HN9.out.mono (fun _ _ e => e.elim)).trans (Only.set (Mod.refl (fun k => k = xb) w9) 5 (.slice (some ⟨g9, 0, none⟩) (MF.length + 1) cap9)))
        clear own9 hm9 hat9
        go_wp2_with fail
        go_meet
        case rel => exact ⟨g9, cap9, HXX, HO9, HMX⟩
    · have HB0 : Blk (w4.alloc (.cells #[.string sn, .int .i64 yk, .bool yf, .int .i64 yn, .string yw, .slice yla yln ylc, .slice yma ymn ymc] 54)) w4.heap.size 54 (encL 7 MA.enc ⟨sn, ⟨yk, yf, yn, yw, yla, yln, ylc, yma, ymn, ymc⟩⟩).toArray := Blk.new _ _ _
      have HNa : Hid (New w4 (World.drew (w4.alloc (.cells #[.string sn, .int .i64 yk, .bool yf, .int .i64 yn, .string yw, .slice yla yln ylc, .slice yma ymn ymc] 54)))) := Lib.hid (((Mod.refl _ _).alloc _).drew)
      have HBL : Hid (Blk (World.drew (w4.alloc (.cells #[.string sn, .int .i64 yk, .bool yf, .int .i64 yn, .string yw, .slice yla yln ylc, .slice yma ymn ymc] 54))) w4.heap.size 54 (encL 7 MA.enc ⟨sn, ⟨yk, yf, yn, yw, yla, yln, ylc, yma, ymn, ymc⟩⟩).toArray) := Lib.hid (HB0.mod (Mod.drew (Mod.refl (fun _ => False) _)) (fun e => e))
      clear HB0
      have hbi : w4.heap.size < (World.drew (w4.alloc (.cells #[.string sn, .int .i64 yk, .bool yf, .int .i64 yn, .string yw, .slice yla yln ylc, .slice yma ymn ymc] 54))).heap.size := HBL.out.lt
      (try simp only [List.getElem_toArray, List.getElem_cons_zero, List.getElem_cons_succ])
      go_simp
      refine hK.out _ _ HNa.out (fun _ => ?_)
      clear hK K
      (try simp only [Act.put, List.getElem_toArray, List.getElem_cons_zero, List.getElem_cons_succ, List.setIfInBounds_toArray, List.set_cons_zero, List.set_cons_succ])
      generalize World.drew (w4.alloc (.cells #[.string sn, .int .i64 yk, .bool yf, .int .i64 yn, .string yw, .slice yla yln ylc, .slice yma ymn ymc] 54)) = wa at *
      refine headW_ready [2] (by kernel_rfl) (by rfl) ?_
      refine eachW_step rfl rfl (fun K hK => ?_) eachW_nil
      (try simp only [List.getElem_toArray, List.getElem_cons_zero, List.getElem_cons_succ])
      go_simp
      refine (HCL.out _ (HM.out.trans HNa.out)).mono ?_
      rintro e w5 ⟨A, cA, rfl, own5, m5⟩
      have HN := Lib.hid (HNa.out.trans m5)
      have HNE : Hid (¬ blkOf A = some w4.heap.size) := Lib.hid (fun e => by have := (own5.far' _ e).1; omega)
      have HBL5 := Lib.hid (HBL.out.mod m5 (fun e => e))
      have HOW : Hid (Own w5 w4.heap.size 54 7 MA.enc A xmn cA ms) := Lib.hid (own5.less (Nat.le_of_lt hbi))
      clear own5 m5 HBL
      have HBL := HBL5
      go_wp2_with fail
      refine hK.out _ _ HN.out (fun _ => ?_)
      clear hK K
      (try simp only [Act.put, List.getElem_toArray, List.getElem_cons_zero, List.getElem_cons_succ, List.setIfInBounds_toArray, List.set_cons_zero, List.set_cons_succ])
      refine headW_ready [4] (by kernel_rfl) (by rfl) ?_
      refine eachW_step rfl rfl (fun K hK => ?_) eachW_nil
      have hfar := HOW.out.far'
      have hsb5 := HSB.out.mod HN.out (fun e => e)
      have hdel := deleteFunc_ma 75 (.pointer (some ⟨xb + 1, 0, none⟩)) enters_with1 _ w4.heap.size A xmn cA ms sn HOW.out (with1_np _ A (xb + 1) true sn k hsb5 (fun e => by have := (hfar _ e).1; omega)) (by omega)
      clear hsb5
      rw [HMF.out] at hdel
      (try simp only [List.getElem_toArray, List.getElem_cons_zero, List.getElem_cons_succ])
      go_simp
      refine hdel.mono ?_
      clear hdel
      rintro e w6 ⟨rfl, own6, m6⟩
      have HN6 := Lib.hid (HN.out.step m6 (fun i hi e => by have := (hfar i e).1; omega))
      have HOW6 := Lib.hid own6
      have HBL6 := Lib.hid (HBL.out.mod m6 HNE.out)
      clear own6 m6 HOW HBL
      have HOW := HOW6
      have HBL := HBL6
      clear HN
      have HN := HN6
      go_wp2_with fail
      refine hK.out _ _ HN.out (fun _ => ?_)
      clear hK K
      (try simp only [Act.put, List.getElem_toArray, List.getElem_cons_zero, List.getElem_cons_succ, List.setIfInBounds_toArray, List.set_cons_zero, List.set_cons_succ])
      refine headW_ready [10] (by kernel_rfl) (by rfl) ?_
      refine eachW_step rfl rfl (fun K hK => ?_) eachW_nil
      have hblp := HBL.out
      have hszp := HN.out.size
      refine wp_push (.tmp 37) (.tmp 42) _ rfl 104 Tryz.underlying27 einfo_mem rfl (by exact HOW.out) ⟨sn, ⟨yk, yf, yn, yw, yla, yln, ylc, yma, ymn, ymc⟩⟩ w4.heap.size rfl (by exact hblp) (fun j hj => MA.one _ j hj) (by omega) (by omega) (by omega) ?_
      intro g9 cap9 w9 own9 hm9 hat9 hlt9
      have HN9 := Lib.hid (HN.out.step hm9 (fun i hi e => by have := (HOW.out.far' i e).1; omega))
      refine hK.out _ _ HN9.out (fun _ => ?_)
      clear hK K hblp
      (try simp only [Act.put, List.getElem_toArray, List.getElem_cons_zero, List.getElem_cons_succ, List.setIfInBounds_toArray, List.set_cons_zero, List.set_cons_succ])
      refine headW_done (by kernel_rfl) ?_
      have HX9 := Lib.hid (HX.out.mod HN9.out (fun e => e))
      have e4 := HX9.out.cell 4
      have e5 := HX9.out.cell 5
      have el := HX9.out.lt
      have ef := HX9.out.frozen
      simp only [List.getElem?_toArray, List.getElem?_cons_zero, List.getElem?_cons_succ] at e4 e5
      have HO9 := Lib.hid (own9.mod (Only.set (Mod.refl (fun k => k = xb) w9) 5 (.slice (some ⟨g9, 0, none⟩) (MF.length + 1) cap9)) (fun i e q => by have := (own9.far' i e).1; omega))
      have HXX := Lib.hid (HX9.out.set 5 (.slice (some ⟨g9, 0, none⟩) (MF.length + 1) cap9))
      simp only [Array.setIfInBounds, List.size_toArray, List.length_cons, List.length_nil, Nat.reduceAdd, Nat.reduceLT, ↓reduceDIte, List.set_toArray, List.set_cons_zero, List.set_cons_succ] at HXX
      have HMX := Lib.hid ((HN9.out.mono (fun _ _ e => e.elim)).trans (Only.set (Mod.refl (fun k => k = xb) w9) 5 (.slice (some ⟨g9, 0, none⟩) (MF.length + 1) cap9)))
      clear own9 hm9 hat9
      go_wp2_with fail
      go_meet
      case rel => exact ⟨g9, cap9, HXX, HO9, HMX⟩
  case rest =>
    rename World => wx
    obtain ⟨g7, cap7, HXX, HOX, HMX⟩ := hcut
    have HALF : Hid (Al (TM w (fun g => G g ∧ g < xb) d) MF (v.mem.filter fun p => !decide (p.1 = sn))) := Lib.hid (by
      have h := HL4.out.filter (p := fun m => !isN sn m) (q := fun p => !decide (p.1 = sn)) (fun m p h => by simp only [isN, h.1])
      rwa [HMF.out] at h)
    obtain ⟨FM, hFM⟩ : ∃ F, (v.mem.filter fun p => !decide (p.1 = sn)) = F := ⟨_, rfl⟩
    have HPL : Hid (Place MF ⟨sn, ⟨yk, yf, yn, yw, yla, yln, ylc, yma, ymn, ymc⟩⟩ (place FM sn)) := Lib.hid (by
      have h := HALF.out
      rw [hFM] at h
      refine place_of (x := ⟨sn, ⟨yk, yf, yn, yw, yla, yln, ylc, yma, ymn, ymc⟩⟩) h (by rw [← hFM]; exact Srt.filter _ HSR.out) (fun q hq e => ?_)
      rw [← hFM] at hq
      have := (List.mem_filter.1 hq).2
      simp at this
      exact this e)
    have HEQ : Hid (putM v.mem (sn, u) = FM.take (place FM sn) ++ (sn, u) :: FM.drop (place FM sn)) := Lib.hid (by
      rw [← hFM]
      rfl)
    have HAL : Hid (Al (TM w (fun g => G g ∧ g < xb) d) (sunk MF ⟨sn, ⟨yk, yf, yn, yw, yla, yln, ylc, yma, ymn, ymc⟩⟩ (place FM sn)) (FM.take (place FM sn) ++ (sn, u) :: FM.drop (place FM sn))) := Lib.hid (by
      have h := HALF.out
      rw [hFM] at h
      exact h.ins (place FM sn) (x := ⟨sn, ⟨yk, yf, yn, yw, yla, yln, ylc, yma, ymn, ymc⟩⟩) (y := (sn, u)) ⟨rfl, HU.out⟩)
    clear hFM HALF
    generalize place FM sn = pl at *
    have hsort := sortFunc_ma wx w4.heap.size g7 (MF.length + 1) cap7 MF ⟨sn, ⟨yk, yf, yn, yw, yla, yln, ylc, yma, ymn, ymc⟩⟩ pl HOX.out HPL.out (by omega)
    have hg7 := (HOX.out.far' g7 rfl).1
    have e0 := HXX.out.cell 0
    have e1 := HXX.out.cell 1
    have e2 := HXX.out.cell 2
    have e3 := HXX.out.cell 3
    have e4 := HXX.out.cell 4
    have e5 := HXX.out.cell 5
    have el := HXX.out.lt
    have ef := HXX.out.frozen
    simp only [List.getElem?_toArray, List.getElem?_cons_zero, List.getElem?_cons_succ] at e0 e1 e2 e3 e4 e5
    go_wp2_with fail
    refine hsort.mono ?_
    clear hsort
    rintro e wy ⟨rfl, ownY, oY⟩
    clear e0 e1 e2 e3 e4 e5 el ef
    have HXY := Lib.hid (HXX.out.mod oY (by omega))
    have HRY := Lib.hid ((HR.out.mod HMX.out (by omega)).mod oY (by omega))
    have HMY := Lib.hid ((HM.out.step HMX.out (fun i hi e => by omega)).step oY (fun i hi e => by have := HM.out.size; omega))
    have HTW : Hid (Tree wy (fun g => G g ∧ g < xb) (d + 1) ⟨xk, xf, xn, xw, xla, xln, xlc, xma, xmn, xmc⟩ v) := Lib.hid (Tree.mod oY (fun g hg _ e => by have := hg.2; omega) _ _ _ (Tree.mod HMX.out (fun g hg _ e => by have := hg.2; omega) _ _ _ (HT.out.new HM.out)))
    have HOY := Lib.hid ownY
    have HALY := Lib.hid (HAL.out.imp (fun m p q => (⟨q.1, Tree.mod oY (fun g hg _ e => by have := hg.2; omega) _ _ _ (Tree.mod HMX.out (fun g hg _ e => by have := hg.2; omega) _ _ _ (q.2.new HM.out))⟩ : TM wy (fun g => G g ∧ g < xb) d m p)))
    clear ownY oY
    have e0 := HXY.out.cell 0
    have e1 := HXY.out.cell 1
    have e2 := HXY.out.cell 2
    have e3 := HXY.out.cell 3
    have e4 := HXY.out.cell 4
    have e5 := HXY.out.cell 5
    have el := HXY.out.lt
    have ef := HXY.out.frozen
    simp only [List.getElem?_toArray, List.getElem?_cons_zero, List.getElem?_cons_succ] at e0 e1 e2 e3 e4 e5
    have r0 := HRY.out.cell 0
    have r1 := HRY.out.cell 1
    have r2 := HRY.out.cell 2
    have r3 := HRY.out.cell 3
    have r4 := HRY.out.cell 4
    have r5 := HRY.out.cell 5
    have rl := HRY.out.lt
    have rf := HRY.out.frozen
    simp only [List.getElem?_toArray, List.getElem?_cons_zero, List.getElem?_cons_succ] at r0 r1 r2 r3 r4 r5
    go_wp2_with fail
    refine bodyPost_ret (v := VA.val ⟨xk, xf, xn, xw, xla, xln, xlc, some ⟨g7, 0, none⟩, MF.length + 1, cap7⟩) (by simp [results, Tryz.results50, go_sem, e0, e1, e2, e3, e4, e5, ef, r0, r1, r2, r3, r4, r5, rf]) rfl ⟨some ⟨g7, 0, none⟩, MF.length + 1, cap7, sunk MF ⟨sn, ⟨yk, yf, yn, yw, yla, yln, ylc, yma, ymn, ymc⟩⟩ pl, rfl, ?_, ?_, ?_⟩
    · refine Own.less (B := w4.heap.size) (Own.mod (S := fun k => k = xb + 1 + 1 + 1) HOY.out ?_ (fun g e q => by have := (HOY.out.far' g e).1; omega)) (by omega)
      repeat (with_reducible (first | exact Mod.refl _ _ | (refine Mod.setCell ?_ (.inl (by first | rfl | omega | (dsimp only; omega) | skip)) _)))
    · rw [HEQ.out]
      refine HALY.out.imp (fun m p q => ⟨q.1, Tree.imp (G := fun g => G g ∧ g < xb) (fun g hg _ => ⟨hg.1, by omega⟩) _ _ _ (Tree.mod (S := fun k => k = xb + 1 + 1 + 1) ?_ (fun g hg _ e => by have := hg.2; omega) _ _ _ q.2)⟩)
      repeat (with_reducible (first | exact Mod.refl _ _ | (refine Mod.setCell ?_ (.inl (by first | rfl | omega | (dsimp only; omega) | skip)) _)))
    · repeat (with_reducible (first | exact HMY.out | (refine Mod.setCell ?_ (.inr (by first | omega | (dsimp only; omega) | skip)) _)))
end Go.Proofs.YtjfgfkbgbhbhjaaGreatDoor
