/- The reference: LeavesOf, the paths of a value; what is said of them is how many they are and how long. Conditions: rows of at most 100, a weight of at most 70000. -/
import Derived.Test.YtpgcbehpknghdaaGreatDoorChgMemGrp
import Derived.Test.YtpgcbehpknghdaaGreatDoorChgd
import Derived.Test.YtpgcbehpknghdaaGreatDoorHeldGrp
import Derived.Test.YtpgcbehpknghdaaGreatDoorValK
import Derived.Deep.RegionHeld3
import Derived.Deep.CutBlock
namespace Go.Proofs.YtpgcbehpknghdaaGreatDoor
open Go.RowKit
set_option linter.unusedVariables false
set_option linter.unusedSimpArgs false

/-- append of a slice's elements, in a region that draws its order -/
theorem wp_pushAll {α : Type} {w : World} {B : Nat} {t : TypeId} {sz : Nat} {enc : α → Nat → Value} {A : Option Addr} {n c : Nat} {xs : List α} {P : Program} {o : Oper} {a : Act} {K : Act → World → Prop} {Q : Exit → Act → World → Prop} (s x : Operand) (ts : TypeId)
    (ho : o.op = .call { callee := .builtin .append, args := #[s, x], argTypes := #[ts, ts] }) (bytes : Nat) (ht : P.underlying ts = some (.slice t)) (hi : EInfo P t sz bytes)
    (hs : a.eval s = .slice A n c) (hown : Own w B t sz enc A n c xs) (ys : List α) (g0 o0 m cm : Nat) (hx : a.eval x = .slice (some ⟨g0, o0, none⟩) m cm) (hy : Sl w t sz enc (some ⟨g0, o0, none⟩) m ys) (hm : 0 < m)
    (h1 : ∀ y ∈ ys, ∀ j, j < sz → (enc y j).oneCell' = true) (hn : n + m < 1000000) (hbytes : bytes ≤ 1000000) (hB : B ≤ w.heap.size)
    (h : ∀ g cap w', Own w' B t sz enc (some ⟨g, 0, none⟩) (n + m) cap (xs ++ ys) → Mod (fun k => blkOf A = some k) w w' → (blkOf A = some g ∨ g = w.heap.size) → g < w'.heap.size →
      K (a.put o.dst (.slice (some ⟨g, 0, none⟩) (n + m) cap)) w') : Oper.wp P o a w K Q := by
  obtain ⟨i, z, hi0, hz, hsz, hby, hzs, h0⟩ := hi
  have hml := hy.1
  refine wp_append_lies w s x ts ho B t i z sz bytes ht hi0 hz hsz hby hzs h0 _ n _ hs hown.2 ⟨g0, o0, none⟩ m cm (ys.flatMap (encL sz enc)) hx (by rw [flat_length, hml]) (hy.flat hm h0) ?_ hm (by unfold maxLen; omega) ?_ hB _ rfl ?_
  · intro u hu
    simp only [List.mem_flatMap, encL, List.mem_map, List.mem_range] at hu
    obtain ⟨y, hy', j, hj, rfl⟩ := hu
    exact h1 y hy' j hj
  · have : (n + m) * bytes ≤ 1000000 * 1000000 := Nat.mul_le_mul (by omega) hbytes
    omega
  · intro g cap w' hown' hg hat hlt
    rw [ownBlock_eq] at hg hat
    refine h g cap w' ⟨by simp [hown.1, hml], by rw [List.flatMap_append]; exact hown'⟩ ?_ hat hlt
    exact (Mod.refl (fun k => blkOf A = some k) w).grown hg (fun k e => .inl e)

/-- a path as a cell says -/
structure PA where
  a : Option Addr
  n : Nat
  c : Nat
def PA.enc (x : PA) (_ : Nat) : Value := .slice x.a x.n x.c
theorem PA.one (x : PA) (j : Nat) : (x.enc j).oneCell' = true := rfl
theorem einfo_path : EInfo Tryz.prog 32 1 24 := EInfo.of (z := .slice none 0 0) (by kernel_rfl) rfl (by decide)
/-- a path that stands in memory, no longer than L -/
def PthOk (w : World) (L : Nat) (x : PA) : Prop := ∃ ps : List St, Sl w 46 3 St.enc x.a x.n ps ∧ x.n ≤ L ∧ x.n ≤ x.c ∧ (x.a = none → x.c = 0) ∧ ∀ s ∈ ps, s.name.size ≤ 100000
theorem PthOk.mod {w w' : World} {S : Nat → Prop} {L : Nat} {x : PA} (h : PthOk w L x) (hm : Mod S w w') (hs : ∀ g, TB w g 46 → ¬ S g) : PthOk w' L x := by
  obtain ⟨ps, h1, h2⟩ := h
  exact ⟨ps, h1.mod hm hs, h2⟩
theorem PthOk.new {w w' : World} {L : Nat} {x : PA} (h : PthOk w L x) (hm : New w w') : PthOk w' L x := h.mod hm (fun _ _ e => e)
theorem PthOk.le {w : World} {L L' : Nat} {x : PA} (h : PthOk w L x) (hL : L ≤ L') : PthOk w L' x := by
  obtain ⟨ps, h1, h2, h3⟩ := h
  exact ⟨ps, h1, by omega, h3⟩
theorem Own.cap {α : Type} {w : World} {B : Nat} {t : TypeId} {sz : Nat} {enc : α → Nat → Value} {A : Option Addr} {n c : Nat} {xs : List α} (h : Own w B t sz enc A n c xs) : n ≤ c := by
  rcases Nat.eq_zero_or_pos n with h0 | h0
  · omega
  · obtain ⟨_, _, _, _, h4, _⟩ := h.form h0
    exact h4
theorem Own.noneC {α : Type} {w : World} {B : Nat} {t : TypeId} {sz : Nat} {enc : α → Nat → Value} {A : Option Addr} {n c : Nat} {xs : List α} (h : Own w B t sz enc A n c xs) (hA : A = none) : c = 0 := by
  rcases h.blk with ⟨_, _, h3⟩ | ⟨g, h1, _⟩
  · exact h3
  · rw [hA] at h1; cases h1
def RLeaves (w : World) (L W : Nat) (e : Ending) (w' : World) : Prop := ∃ (A : Option Addr) (n c : Nat) (qs : List PA), e = .returned (.slice A n c) ∧ Sl w' 32 1 PA.enc A n qs ∧ (∀ q ∈ qs, PthOk w' L q) ∧ 0 < n ∧ n ≤ W ∧ n ≤ c ∧ New w w'
def LvSpec (d : Nat) : Prop := ∀ (x : VA) (v : VT) (A : Option Addr) (n c : Nat) (ps : List St) (w : World), Tree w (fun _ => True) d x v → Wide 100 d v → Sl w 46 3 St.enc A n ps → n + d ≤ 900 → (∀ s ∈ ps, s.name.size ≤ 100000) → vW d v ≤ 70000 →
  Calls Tryz.prog 20 #[x.val, .slice A n c] w (RLeaves w (n + d) (vW d v))
/-- what the loops keep: the row of paths so far -/
structure LvInv (w : World) (xb : Nat) (xc : Array Value) (L W : Nat) (A : Option Addr) (n c : Nat) (wr : World) : Prop where
  box : Blk wr xb 29 xc
  row : ∃ qs : List PA, Own wr (xb + 1) 32 1 PA.enc A n c qs ∧ ∀ q ∈ qs, PthOk wr L q
  many : n ≤ W
  new : New w wr
theorem take_sum {α : Type} (l : List α) (f : α → Nat) (k : Nat) (h : k < l.length) : ((l.take (k + 1)).map f).sum = ((l.take k).map f).sum + f l[k] := by
  rw [List.take_succ_eq_append_getElem h, List.map_append, List.sum_append]
  simp
theorem take_sum_le {α : Type} (l : List α) (f : α → Nat) (k : Nat) : ((l.take k).map f).sum ≤ (l.map f).sum := by
  have h1 : (l.map f).sum = ((l.take k).map f).sum + ((l.drop k).map f).sum := by rw [← List.sum_append, ← List.map_append, List.take_append_drop]
  omega
set_option maxRecDepth 100000 in
set_option maxHeartbeats 3000000 in
theorem leaves_walk (d : Nat) (IH : LvSpec d) : LvSpec (d + 1) := by
  intro x v A n c ps w ht hw hs hn hps hW
  replace ht := ht.oldG
  obtain ⟨xs, ms, h1, h2, h3, h4⟩ := ht.als
  obtain ⟨-, -, -, -, f5, f6⟩ := ht.fields
  have hlm := hw.1
  have hmm := hw.2.1
  have hWW : vW (d + 1) v = 40 + 6 * v.words.size + ((v.list.map fun x => vW d x + 1).sum + (v.mem.map fun p => vW d p.2 + (6 * p.1.size + 4)).sum) := rfl
  have HL1 := Lib.hid h1
  have HL2 := Lib.hid h2
  have HL3 := Lib.hid h3
  have HL4 := Lib.hid h4
  have HWD := Lib.hid hw
  have HS := Lib.hid hs
  have HPS := Lib.hid hps
  obtain ⟨xk, xf, xn, xw, xla, xln, xlc, xma, xmn, xmc⟩ := x
  simp only at f5 f6 HL1 HL3
  have hln : xln ≤ 100 := by omega
  have hmn : xmn ≤ 100 := by omega
  have HF5 := Lib.hid f5
  have HF6 := Lib.hid f6
  obtain ⟨WL, hWL⟩ : ∃ z, (v.list.map fun x => vW d x + 1).sum = z := ⟨_, rfl⟩
  obtain ⟨WM, hWM⟩ : ∃ z, (v.mem.map fun p => vW d p.2 + (6 * p.1.size + 4)).sum = z := ⟨_, rfl⟩
  rw [hWL, hWM] at hWW
  obtain ⟨WT, hWT⟩ : ∃ z, vW (d + 1) v = z := ⟨_, rfl⟩
  rw [hWT] at hWW hW
  rw [hWT]
  have HWL := Lib.hid hWL
  have HWM := Lib.hid hWM
  clear ht hw hs h1 h2 h3 h4 hps f5 f6 hlm hmm hWL hWM hWT
  have hx := Blk.new w 29 #[.int .i64 xk, .bool xf, .int .i64 xn, .string xw, .slice xla xln xlc, .slice xma xmn xmc]
  have m1 : New w (w.alloc (.cells #[.int .i64 xk, .bool xf, .int .i64 xn, .string xw, .slice xla xln xlc, .slice xma xmn xmc] 29)) := (Mod.refl _ _).alloc _
  go_enter Tryz.func20, Tryz.ntmps20
  go_upto_region 1 with (fail)
  generalize w.alloc (.cells #[.int .i64 xk, .bool xf, .int .i64 xn, .string xw, .slice xla xln xlc, .slice xma xmn xmc] 29) = w1 at *
  generalize hxb : w.heap.size = xb at *
  have HX := Lib.hid hx
  have HM := Lib.hid m1
  clear hx m1
  have HI0 : Hid (LvInv w xb #[.int .i64 xk, .bool xf, .int .i64 xn, .string xw, .slice xla xln xlc, .slice xma xmn xmc] (n + d + 1) 0 none 0 0 w1) := Lib.hid ⟨HX.out, ⟨[], Own.nil, fun q h => absurd h (by simp)⟩, Nat.le_refl _, HM.out⟩
  have e0 := HX.out.cell 0
  have e1 := HX.out.cell 1
  have e2 := HX.out.cell 2
  have e3 := HX.out.cell 3
  have e4 := HX.out.cell 4
  have e5 := HX.out.cell 5
  have el := HX.out.lt
  have ef := HX.out.frozen
  simp only [List.getElem?_toArray, List.getElem?_cons_zero, List.getElem?_cons_succ] at e0 e1 e2 e3 e4 e5
  go_wp2_with fail
  clear e0 e1 e2 e3 e4 e5 el ef
  clear HX HM
  go_loopw [13, 5] (fun i s wr => ∃ (k : Nat) (Aq : Option Addr) (nq cq : Nat), k ≤ xln ∧ i = .int .i64 k ∧ s = .slice Aq nq cq ∧ Hid (LvInv w xb #[.int .i64 xk, .bool xf, .int .i64 xn, .string xw, .slice xla xln xlc, .slice xma xmn xmc] (n + d + 1) ((v.list.take k).map fun x => vW d x + 1).sum Aq nq cq wr)) (fun i _ _ => xln - (intOf i).toNat)
  case atStart => exact ⟨0, none, 0, 0, Nat.zero_le _, rfl, rfl, HI0⟩
  clear HI0
  case round =>
    rename World => wr
    obtain ⟨k, Aq, nq, cq, hk, rfl, rfl, HI⟩ := hrel
    have HX := Lib.hid HI.out.box
    have HM := Lib.hid HI.out.new
    have hmany := HI.out.many
    obtain ⟨qs, hoq0, hqp⟩ := HI.out.row
    clear HI
    by_cases hlt : k < xln
    · have hkx : k < xs.length := by have := HL1.out.1; omega
      have hkv : k < v.list.length := by have := HF5.out; omega
      obtain ⟨g2, o2, hA, htb, hc0⟩ := (HL1.out.sl.new HM.out).2 (by omega)
      subst hA
      have hgl := htb.lt
      have hty := HL2.out.get k hkx hkv
      have hwk := HWD.out.2.2.2.1 _ (List.getElem_mem hkv)
      have HSUM : Hid (((v.list.take (k + 1)).map fun x => vW d x + 1).sum = ((v.list.take k).map fun x => vW d x + 1).sum + (vW d v.list[k] + 1)) := Lib.hid (take_sum v.list (fun x => vW d x + 1) k hkv)
      have hle := vW_item d v hkv
      have hwle : ((v.list.take (k + 1)).map fun x => vW d x + 1).sum ≤ WL := by rw [← HWL.out]; exact take_sum_le _ _ _
      rw [HSUM.out] at hwle
      have IHH := Lib.hid (fun A' n' c' ps' W (h : New wr W) h2 h3 h4 => IH xs[k] v.list[k] A' n' c' ps' W (hty.any.new (HM.out.trans h)) hwk h2 h3 h4 (by omega))
      have hc := fun j (hj : j < 6) => hc0 k hkx j hj
      clear hc0 htb hty hwk hle
      generalize ((v.list.take k).map fun x => vW d x + 1).sum = SK at *
      generalize vW d v.list[k] = VK at *
      generalize xs[k] = z at *
      obtain ⟨zk, zf, zn, zw, zla, zln, zlc, zma, zmn, zmc⟩ := z
      have b0 := hc 0 (by omega)
      have b1 := hc 1 (by omega)
      have b2 := hc 2 (by omega)
      have b3 := hc 3 (by omega)
      have b4 := hc 4 (by omega)
      have b5 := hc 5 (by omega)
      simp only [VA.enc, Nat.add_zero, Nat.zero_add] at b0 b1 b2 b3 b4 b5
      clear hc
      have hb2 : (0 : Int) ≤ k := by omega
      have hb3 : (k : Int) < xln := by omega
      have m5 : New wr (wr.alloc (.cells #[.int .i64 zk, .bool zf, .int .i64 zn, .string zw, .slice zla zln zlc, .slice zma zmn zmc] 29)) := (Mod.refl _ _).alloc _
      have hlb := Blk.new wr 29 #[.int .i64 zk, .bool zf, .int .i64 zn, .string zw, .slice zla zln zlc, .slice zma zmn zmc]
      go_upto_region 5 with (fail)
      have hszr : xb < wr.heap.size := HX.out.lt
      have IHH5 := Lib.hid (fun A' n' c' ps' W (h : New (wr.alloc (.cells #[.int .i64 zk, .bool zf, .int .i64 zn, .string zw, .slice zla zln zlc, .slice zma zmn zmc] 29)) W) => IHH.out A' n' c' ps' W (m5.trans h))
      clear IHH
      have IHH := IHH5
      clear IHH5
      generalize wr.alloc (.cells #[.int .i64 zk, .bool zf, .int .i64 zn, .string zw, .slice zla zln zlc, .slice zma zmn zmc] 29) = w5 at *
      have HX5 := Lib.hid (HX.out.mod m5 (fun e => e))
      have HM5 := Lib.hid (HM.out.trans m5)
      have HOQ := Lib.hid (hoq0.new m5)
      have HQP := Lib.hid (fun q hq => (hqp q hq).new m5)
      have hfarq := hoq0.far'
      have hxlt : xb < w5.heap.size := HX5.out.lt
      have HCLS : Hid (∀ W, New w5 W → Calls Tryz.prog 38 #[.slice A n c] W (RCloneS W n ps)) := Lib.hid (fun W h => cloneS ps A n c W (HS.out.new (HM5.out.trans h)) (by omega))
      clear m5 HX HM hoq0 hqp
      have HSL : Hid (∀ W, Mod (fun i => blkOf Aq = some i) w5 W → W.cell? ⟨wr.heap.size, 0, none⟩ = some (.int .i64 zk) ∧ W.cell? ⟨wr.heap.size, 1, none⟩ = some (.bool zf) ∧ W.cell? ⟨wr.heap.size, 2, none⟩ = some (.int .i64 zn) ∧ W.cell? ⟨wr.heap.size, 3, none⟩ = some (.string zw) ∧ W.cell? ⟨wr.heap.size, 4, none⟩ = some (.slice zla zln zlc) ∧ W.cell? ⟨wr.heap.size, 5, none⟩ = some (.slice zma zmn zmc) ∧ wr.heap.size < W.heap.size) := Lib.hid (fun W hW => by
        have h1 := hlb.mod hW (fun e => by have := (hfarq _ e).2.1; omega)
        exact ⟨(h1.cell 0).trans rfl, (h1.cell 1).trans rfl, (h1.cell 2).trans rfl, (h1.cell 3).trans rfl, (h1.cell 4).trans rfl, (h1.cell 5).trans rfl, h1.lt⟩)
      clear b0 b1 b2 b3 b4 b5 hgl hlb
      generalize wr.heap.size = lb at *
      have HSTV : Hid ((⟨false, ⟨#[]⟩, (k : Int)⟩ : St).name.size ≤ 100000) := Lib.hid (by show (⟨#[]⟩ : ByteArray).size ≤ 100000; decide)
      refine wp_region_held_tree (Mod (fun i => blkOf Aq = some i) w5) 10 (by kernel_rfl) (by kernel_rfl) ?_
      have hn0 : Mod (fun i => blkOf Aq = some i) w5 w5.drew := (Mod.refl _ _).drew
      have hn1 : New w5 w5.drew := (Mod.refl _ _).drew
      refine headW_take 0 _ ?_ (fun _ _ d _ _ h => by cases d <;> exact h) (by kernel_rfl) rfl (by kernel_rfl) hn0 (by rfl) (fun W hSw => ?_) ?_
      rotate_left
      · (have hq := HSL.out W hSw); (try simp only [List.getElem_toArray, List.getElem_cons_zero, List.getElem_cons_succ]); go_simp; any_goals (with_reducible rfl)
      simp only [Act.put, List.getElem_toArray, List.getElem_cons_zero, List.getElem_cons_succ, List.setIfInBounds_toArray, List.set_cons_zero, List.set_cons_succ]
      refine headW_take 1 _ ?_ (fun _ _ d _ _ h => by cases d <;> exact h) (by kernel_rfl) rfl (by kernel_rfl) hn0 (by rfl) (fun W hSw => ?_) ?_
      rotate_left
      · (have hq := HSL.out W hSw); (try simp only [List.getElem_toArray, List.getElem_cons_zero, List.getElem_cons_succ]); go_simp; any_goals (with_reducible rfl)
      simp only [Act.put, List.getElem_toArray, List.getElem_cons_zero, List.getElem_cons_succ, List.setIfInBounds_toArray, List.set_cons_zero, List.set_cons_succ]
      refine headW_take 2 _ ?_ (fun _ _ d _ _ h => by cases d <;> exact h) (by kernel_rfl) rfl (by kernel_rfl) hn0 (by rfl) (fun W hSw => ?_) ?_
      rotate_left
      · (have hq := HSL.out W hSw); (try simp only [List.getElem_toArray, List.getElem_cons_zero, List.getElem_cons_succ]); go_simp; any_goals (with_reducible rfl)
      simp only [Act.put, List.getElem_toArray, List.getElem_cons_zero, List.getElem_cons_succ, List.setIfInBounds_toArray, List.set_cons_zero, List.set_cons_succ]
      refine headW_take 4 _ ?_ (fun _ _ d _ _ h => by cases d <;> exact h) (by kernel_rfl) rfl (by kernel_rfl) hn0 (by rfl) (fun W hSw => ?_) ?_
      rotate_left
      · (have hq := HSL.out W hSw); (try simp only [List.getElem_toArray, List.getElem_cons_zero, List.getElem_cons_succ]); go_simp; any_goals (with_reducible rfl)
      simp only [Act.put, List.getElem_toArray, List.getElem_cons_zero, List.getElem_cons_succ, List.setIfInBounds_toArray, List.set_cons_zero, List.set_cons_succ]
      refine headW_take 5 _ ?_ (fun _ _ d _ _ h => by cases d <;> exact h) (by kernel_rfl) rfl (by kernel_rfl) hn0 (by rfl) (fun W hSw => ?_) ?_
      rotate_left
      · (have hq := HSL.out W hSw); (try simp only [List.getElem_toArray, List.getElem_cons_zero, List.getElem_cons_succ]); go_simp; any_goals (with_reducible rfl)
      simp only [Act.put, List.getElem_toArray, List.getElem_cons_zero, List.getElem_cons_succ, List.setIfInBounds_toArray, List.set_cons_zero, List.set_cons_succ]
      refine headW_ready [3, 6] (by kernel_rfl) (by rfl) ?_
      refine eachW_step rfl rfl (fun K hK => ?_) (eachW_step rfl rfl (fun K hK => ?_) eachW_nil)
      · have hcl := HCLS.out _ hn1
        (try simp only [List.getElem_toArray, List.getElem_cons_zero, List.getElem_cons_succ])
        go_simp
        refine hcl.mono ?_
        clear hcl
        rintro e w6 ⟨A6, c6, rfl, own6, m6⟩
        have HN6 := Lib.hid (hn1.trans m6)
        have HOW6 : Hid (Own w6 w5.heap.size 46 3 St.enc A6 n c6 ps) := Lib.hid own6
        clear own6 m6
        go_wp2_with fail
        refine hK.out _ _ (HN6.out.mono (fun _ _ e => e.elim)) (fun _ => ?_)
        clear hK K
        (try simp only [Act.put, List.getElem_toArray, List.getElem_cons_zero, List.getElem_cons_succ, List.setIfInBounds_toArray, List.set_cons_zero, List.set_cons_succ])
        refine headW_ready [6] (by kernel_rfl) (by rfl) ?_
        refine eachW_step rfl rfl (fun K hK => ?_) eachW_nil
        have HBL : Hid (Blk (w6.alloc (.cells #[.bool false, .string ⟨#[]⟩, .int .i64 k] 46)) w6.heap.size 46 (encL 3 St.enc ⟨false, ⟨#[]⟩, (k : Int)⟩).toArray) := Lib.hid (Blk.new _ _ _)
        have HMA : Hid (New w6 (w6.alloc (.cells #[.bool false, .string ⟨#[]⟩, .int .i64 k] 46))) := Lib.hid ((Mod.refl _ _).alloc _)
        (try simp only [List.getElem_toArray, List.getElem_cons_zero, List.getElem_cons_succ])
        go_simp
        have HOW := Lib.hid (HOW6.out.new HMA.out)
        have HN := Lib.hid (HN6.out.trans HMA.out)
        refine hK.out _ _ (HN.out.mono (fun _ _ e => e.elim)) (fun _ => ?_)
        clear hK K HOW6 HN6 HMA
        (try simp only [Act.put, List.getElem_toArray, List.getElem_cons_zero, List.getElem_cons_succ, List.setIfInBounds_toArray, List.set_cons_zero, List.set_cons_succ])
        generalize w6.alloc (.cells #[.bool false, .string ⟨#[]⟩, .int .i64 k] 46) = wa at *
        generalize w6.heap.size = bi at *
        refine headW_ready [7] (by kernel_rfl) (by rfl) ?_
        refine eachW_step rfl rfl (fun K hK => ?_) eachW_nil
        have hblp := HBL.out
        have hszp := HN.out.size
        refine wp_push (.tmp 21) (.tmp 24) _ rfl 32 Tryz.underlying32 einfo_step rfl (by exact HOW.out) ⟨false, ⟨#[]⟩, (k : Int)⟩ bi rfl (by exact hblp) (fun j hj => St.one _ j hj) (by omega) (by omega) (by omega) ?_
        intro g8 cap8 w8 own8 hm8 hat8 hlt8
        have HN8 := Lib.hid (HN.out.step hm8 (fun i hi e => by have := (HOW.out.far' i e).1; omega))
        refine hK.out _ _ (HN8.out.mono (fun _ _ e => e.elim)) (fun _ => ?_)
        clear hK K hblp hat8 hlt8 hm8
        (try simp only [Act.put, List.getElem_toArray, List.getElem_cons_zero, List.getElem_cons_succ, List.setIfInBounds_toArray, List.set_cons_zero, List.set_cons_succ])
        refine headW_ready [8] (by kernel_rfl) (by rfl) ?_
        refine eachW_step rfl rfl (fun K hK => ?_) eachW_nil
        have hih := IHH.out (some ⟨g8, 0, none⟩) (n + 1) cap8 (ps ++ [⟨false, ⟨#[]⟩, (k : Int)⟩]) w8 HN8.out own8.sl (by omega) (fun s hs => by
          rcases List.mem_append.1 hs with h | h
          · exact HPS.out s h
          · rw [List.mem_singleton.1 h]; exact HSTV.out)
        (try simp only [List.getElem_toArray, List.getElem_cons_zero, List.getElem_cons_succ])
        go_simp
        refine hih.mono ?_
        clear hih own8
        rintro e w9 ⟨A9, n9, c9, qs9, rfl, hq9, hp9, h09, hle9, hcap9, m9⟩
        have HN9 := Lib.hid (HN8.out.trans m9)
        clear m9
        go_wp2_with fail
        refine hK.out _ _ (HN9.out.mono (fun _ _ e => e.elim)) (fun _ => ?_)
        clear hK K
        (try simp only [Act.put, List.getElem_toArray, List.getElem_cons_zero, List.getElem_cons_succ, List.setIfInBounds_toArray, List.set_cons_zero, List.set_cons_succ])
        obtain ⟨g9, o9, hA9, -, -⟩ := hq9.2 h09
        subst hA9
        refine headW_ready [9] (by kernel_rfl) (by rfl) ?_
        refine eachW_step rfl rfl (fun K hK => ?_) eachW_nil
        have hoq := HOQ.out.new HN9.out
        have hsz9 := HN9.out.size
        refine wp_pushAll (.tmp 18) (.tmp 26) _ rfl 24 Tryz.underlying49 einfo_path rfl (by exact hoq) qs9 g9 o9 n9 c9 rfl (by exact hq9) h09 (fun y _ j _ => PA.one y j) (by omega) (by omega) (by omega) ?_
        intro g10 cap10 w10 own10 hm10 hat10 hlt10
        refine hK.out _ _ ((HN9.out.mono (fun _ _ e => e.elim)).trans hm10) (fun _ => ?_)
        clear hK K
        (try simp only [Act.put, List.getElem_toArray, List.getElem_cons_zero, List.getElem_cons_succ, List.setIfInBounds_toArray, List.set_cons_zero, List.set_cons_succ])
        refine headW_done (by kernel_rfl) ?_
        have HN10 := Lib.hid hm10
        have HOW10 := Lib.hid own10
        have HHOQ := Lib.hid hoq
        have HP9 := Lib.hid hp9
        clear hat10 hlt10 own10 hm10 hoq hp9 hq9
        go_wp2_with fail
        go_roundw
        case rel =>
          have hty : ∀ g, TB w9 g 46 → ¬ blkOf Aq = some g := fun g ht e => (ht.ne (HHOQ.out.far' g e).2.2 (by decide)) rfl
          refine ⟨k + 1, _, _, _, by omega, by go_num, rfl, Lib.hid ⟨?_, ⟨_, HOW10.out, fun q hq => ?_⟩, ?_, ?_⟩⟩
          · exact (HX5.out.mod HN9.out (fun e => e)).mod HN10.out (fun e => by have := (HHOQ.out.far' _ e).1; omega)
          · rcases List.mem_append.1 hq with h | h
            · exact ((HQP.out q h).new HN9.out).mod HN10.out hty
            · exact ((HP9.out q h).le (by omega)).mod HN10.out hty
          · rw [HSUM.out]
            omega
          · exact (HM5.out.trans HN9.out).step HN10.out (fun i hi e => by have := (HHOQ.out.far' i e).1; omega)
        case measure => simp [intOf]; omega
      · have HB0 : Blk (w5.alloc (.cells #[.bool false, .string ⟨#[]⟩, .int .i64 k] 46)) w5.heap.size 46 (encL 3 St.enc ⟨false, ⟨#[]⟩, (k : Int)⟩).toArray := Blk.new _ _ _
        have HNa : Hid (New w5 (World.drew (w5.alloc (.cells #[.bool false, .string ⟨#[]⟩, .int .i64 k] 46)))) := Lib.hid (((Mod.refl _ _).alloc _).drew)
        have HBL0 : Hid (Blk (World.drew (w5.alloc (.cells #[.bool false, .string ⟨#[]⟩, .int .i64 k] 46))) w5.heap.size 46 (encL 3 St.enc ⟨false, ⟨#[]⟩, (k : Int)⟩).toArray) := Lib.hid (HB0.mod (Mod.drew (Mod.refl (fun _ => False) _)) (fun e => e))
        clear HB0
        have hbi : w5.heap.size < (World.drew (w5.alloc (.cells #[.bool false, .string ⟨#[]⟩, .int .i64 k] 46))).heap.size := HBL0.out.lt
        (try simp only [List.getElem_toArray, List.getElem_cons_zero, List.getElem_cons_succ])
        go_simp
        refine hK.out _ _ (HNa.out.mono (fun _ _ e => e.elim)) (fun _ => ?_)
        clear hK K
        (try simp only [Act.put, List.getElem_toArray, List.getElem_cons_zero, List.getElem_cons_succ, List.setIfInBounds_toArray, List.set_cons_zero, List.set_cons_succ])
        generalize World.drew (w5.alloc (.cells #[.bool false, .string ⟨#[]⟩, .int .i64 k] 46)) = wa at *
        refine headW_ready [3] (by kernel_rfl) (by rfl) ?_
        refine eachW_step rfl rfl (fun K hK => ?_) eachW_nil
        have hcl := HCLS.out _ HNa.out
        (try simp only [List.getElem_toArray, List.getElem_cons_zero, List.getElem_cons_succ])
        go_simp
        refine hcl.mono ?_
        clear hcl
        rintro e w6 ⟨A6, c6, rfl, own6, m6⟩
        have HN := Lib.hid (HNa.out.trans m6)
        have HOW : Hid (Own w6 w5.heap.size 46 3 St.enc A6 n c6 ps) := Lib.hid (own6.less (Nat.le_of_lt hbi))
        have HBL := Lib.hid (HBL0.out.mod m6 (fun e => e))
        clear own6 m6
        go_wp2_with fail
        refine hK.out _ _ (HN.out.mono (fun _ _ e => e.elim)) (fun _ => ?_)
        clear hK K
        (try simp only [Act.put, List.getElem_toArray, List.getElem_cons_zero, List.getElem_cons_succ, List.setIfInBounds_toArray, List.set_cons_zero, List.set_cons_succ])
        refine headW_ready [7] (by kernel_rfl) (by rfl) ?_
        refine eachW_step rfl rfl (fun K hK => ?_) eachW_nil
        have hblp := HBL.out
        have hszp := HN.out.size
        refine wp_push (.tmp 21) (.tmp 24) _ rfl 32 Tryz.underlying32 einfo_step rfl (by exact HOW.out) ⟨false, ⟨#[]⟩, (k : Int)⟩ w5.heap.size rfl (by exact hblp) (fun j hj => St.one _ j hj) (by omega) (by omega) (by omega) ?_
        intro g8 cap8 w8 own8 hm8 hat8 hlt8
        have HN8 := Lib.hid (HN.out.step hm8 (fun i hi e => by have := (HOW.out.far' i e).1; omega))
        refine hK.out _ _ (HN8.out.mono (fun _ _ e => e.elim)) (fun _ => ?_)
        clear hK K hblp hat8 hlt8 hm8
        (try simp only [Act.put, List.getElem_toArray, List.getElem_cons_zero, List.getElem_cons_succ, List.setIfInBounds_toArray, List.set_cons_zero, List.set_cons_succ])
        refine headW_ready [8] (by kernel_rfl) (by rfl) ?_
        refine eachW_step rfl rfl (fun K hK => ?_) eachW_nil
        have hih := IHH.out (some ⟨g8, 0, none⟩) (n + 1) cap8 (ps ++ [⟨false, ⟨#[]⟩, (k : Int)⟩]) w8 HN8.out own8.sl (by omega) (fun s hs => by
          rcases List.mem_append.1 hs with h | h
          · exact HPS.out s h
          · rw [List.mem_singleton.1 h]; exact HSTV.out)
        (try simp only [List.getElem_toArray, List.getElem_cons_zero, List.getElem_cons_succ])
        go_simp
        refine hih.mono ?_
        clear hih own8
        rintro e w9 ⟨A9, n9, c9, qs9, rfl, hq9, hp9, h09, hle9, hcap9, m9⟩
        have HN9 := Lib.hid (HN8.out.trans m9)
        clear m9
        go_wp2_with fail
        refine hK.out _ _ (HN9.out.mono (fun _ _ e => e.elim)) (fun _ => ?_)
        clear hK K
        (try simp only [Act.put, List.getElem_toArray, List.getElem_cons_zero, List.getElem_cons_succ, List.setIfInBounds_toArray, List.set_cons_zero, List.set_cons_succ])
        obtain ⟨g9, o9, hA9, -, -⟩ := hq9.2 h09
        subst hA9
        refine headW_ready [9] (by kernel_rfl) (by rfl) ?_
        refine eachW_step rfl rfl (fun K hK => ?_) eachW_nil
        have hoq := HOQ.out.new HN9.out
        have hsz9 := HN9.out.size
        refine wp_pushAll (.tmp 18) (.tmp 26) _ rfl 24 Tryz.underlying49 einfo_path rfl (by exact hoq) qs9 g9 o9 n9 c9 rfl (by exact hq9) h09 (fun y _ j _ => PA.one y j) (by omega) (by omega) (by omega) ?_
        intro g10 cap10 w10 own10 hm10 hat10 hlt10
        refine hK.out _ _ ((HN9.out.mono (fun _ _ e => e.elim)).trans hm10) (fun _ => ?_)
        clear hK K
        (try simp only [Act.put, List.getElem_toArray, List.getElem_cons_zero, List.getElem_cons_succ, List.setIfInBounds_toArray, List.set_cons_zero, List.set_cons_succ])
        refine headW_done (by kernel_rfl) ?_
        have HN10 := Lib.hid hm10
        have HOW10 := Lib.hid own10
        have HHOQ := Lib.hid hoq
        have HP9 := Lib.hid hp9
        clear hat10 hlt10 own10 hm10 hoq hp9 hq9
        go_wp2_with fail
        go_roundw
        case rel =>
          have hty : ∀ g, TB w9 g 46 → ¬ blkOf Aq = some g := fun g ht e => (ht.ne (HHOQ.out.far' g e).2.2 (by decide)) rfl
          refine ⟨k + 1, _, _, _, by omega, by go_num, rfl, Lib.hid ⟨?_, ⟨_, HOW10.out, fun q hq => ?_⟩, ?_, ?_⟩⟩
          · exact (HX5.out.mod HN9.out (fun e => e)).mod HN10.out (fun e => by have := (HHOQ.out.far' _ e).1; omega)
          · rcases List.mem_append.1 hq with h | h
            · exact ((HQP.out q h).new HN9.out).mod HN10.out hty
            · exact ((HP9.out q h).le (by omega)).mod HN10.out hty
          · rw [HSUM.out]
            omega
          · exact (HM5.out.trans HN9.out).step HN10.out (fun i hi e => by have := (HHOQ.out.far' i e).1; omega)
        case measure => simp [intOf]; omega
    · obtain rfl : xln = k := by omega
      have hmy : nq ≤ WL + ((v.mem.take 0).map fun p => vW d p.2 + (6 * p.1.size + 4)).sum := by
        have h := take_sum_le v.list (fun x => vW d x + 1) xln
        rw [HWL.out] at h
        omega
      have HI1 : Hid (LvInv w xb #[.int .i64 xk, .bool xf, .int .i64 xn, .string xw, .slice xla xln xlc, .slice xma xmn xmc] (n + d + 1) (WL + ((v.mem.take 0).map fun p => vW d p.2 + (6 * p.1.size + 4)).sum) Aq nq cq wr) := Lib.hid ⟨HX.out, ⟨qs, hoq0, hqp⟩, hmy, HM.out⟩
      clear hmy hmany hoq0 hqp
      have e0 := HX.out.cell 0
      have e1 := HX.out.cell 1
      have e2 := HX.out.cell 2
      have e3 := HX.out.cell 3
      have e4 := HX.out.cell 4
      have e5 := HX.out.cell 5
      have el := HX.out.lt
      have ef := HX.out.frozen
      simp only [List.getElem?_toArray, List.getElem?_cons_zero, List.getElem?_cons_succ] at e0 e1 e2 e3 e4 e5
      go_wp2_with fail
      clear e0 e1 e2 e3 e4 e5 el ef
      clear HX HM
      go_loopw [32, 5] (fun i s wr => ∃ (k : Nat) (Aq : Option Addr) (nq cq : Nat), k ≤ xmn ∧ i = .int .i64 k ∧ s = .slice Aq nq cq ∧ Hid (LvInv w xb #[.int .i64 xk, .bool xf, .int .i64 xn, .string xw, .slice xla xln xlc, .slice xma xmn xmc] (n + d + 1) (WL + ((v.mem.take k).map fun p => vW d p.2 + (6 * p.1.size + 4)).sum) Aq nq cq wr)) (fun i _ _ => xmn - (intOf i).toNat)
      case atStart => exact ⟨0, _, _, _, Nat.zero_le _, rfl, rfl, HI1⟩
      clear HI1
      case round =>
        rename World => wr
        obtain ⟨k, Aq, nq, cq, hk, rfl, rfl, HI⟩ := hrel
        have HX := Lib.hid HI.out.box
        have HM := Lib.hid HI.out.new
        have hmany := HI.out.many
        obtain ⟨qs, hoq0, hqp⟩ := HI.out.row
        clear HI
        by_cases hlt : k < xmn
        · have hkx : k < ms.length := by have := HL3.out.1; omega
          have hkv : k < v.mem.length := by have := HF6.out; omega
          obtain ⟨g2, o2, hA, htb, hc0⟩ := (HL3.out.sl.new HM.out).2 (by omega)
          subst hA
          have hgl := htb.lt
          have hty := HL4.out.get k hkx hkv
          have hwk := HWD.out.2.2.2.2 _ (List.getElem_mem hkv)
          have HSUM : Hid (((v.mem.take (k + 1)).map fun p => vW d p.2 + (6 * p.1.size + 4)).sum = ((v.mem.take k).map fun p => vW d p.2 + (6 * p.1.size + 4)).sum + (vW d v.mem[k].2 + (6 * v.mem[k].1.size + 4))) := Lib.hid (take_sum v.mem (fun p => vW d p.2 + (6 * p.1.size + 4)) k hkv)
          have hle := vW_member d v hkv
          have hwle : ((v.mem.take (k + 1)).map fun p => vW d p.2 + (6 * p.1.size + 4)).sum ≤ WM := by rw [← HWM.out]; exact take_sum_le _ _ _
          rw [HSUM.out] at hwle
          have IHH := Lib.hid (fun A' n' c' ps' W (h : New wr W) h2 h3 h4 => IH ms[k].v v.mem[k].2 A' n' c' ps' W (hty.2.any.new (HM.out.trans h)) hwk.2 h2 h3 h4 (by omega))
          have hnm : ms[k].name.size ≤ 100000 := by rw [hty.1]; exact hwk.1
          have hc := fun j (hj : j < 7) => hc0 k hkx j hj
          clear hc0 htb hty hwk hle
          generalize ((v.mem.take k).map fun p => vW d p.2 + (6 * p.1.size + 4)).sum = SK at *
          generalize vW d v.mem[k].2 = VK at *
          generalize v.mem[k].1.size = NK at *
          generalize ms[k] = z at *
          obtain ⟨zn0, zk, zf, zn, zw, zla, zln, zlc, zma, zmn, zmc⟩ := z
          have b0 := hc 0 (by omega)
          have b1 := hc 1 (by omega)
          have b2 := hc 2 (by omega)
          have b3 := hc 3 (by omega)
          have b4 := hc 4 (by omega)
          have b5 := hc 5 (by omega)
          have b6 := hc 6 (by omega)
          simp only [MA.enc, VA.enc, Nat.add_zero, Nat.zero_add] at b0 b1 b2 b3 b4 b5 b6
          clear hc
          have hb2 : (0 : Int) ≤ k := by omega
          have hb3 : (k : Int) < xmn := by omega
          have m5 : New wr (wr.alloc (.cells #[.string zn0, .int .i64 zk, .bool zf, .int .i64 zn, .string zw, .slice zla zln zlc, .slice zma zmn zmc] 66)) := (Mod.refl _ _).alloc _
          have hlb := Blk.new wr 66 #[.string zn0, .int .i64 zk, .bool zf, .int .i64 zn, .string zw, .slice zla zln zlc, .slice zma zmn zmc]
          go_upto_region 10 with (fail)
          have hszr : xb < wr.heap.size := HX.out.lt
          have IHH5 := Lib.hid (fun A' n' c' ps' W (h : New (wr.alloc (.cells #[.string zn0, .int .i64 zk, .bool zf, .int .i64 zn, .string zw, .slice zla zln zlc, .slice zma zmn zmc] 66)) W) => IHH.out A' n' c' ps' W (m5.trans h))
          clear IHH
          have IHH := IHH5
          clear IHH5
          generalize wr.alloc (.cells #[.string zn0, .int .i64 zk, .bool zf, .int .i64 zn, .string zw, .slice zla zln zlc, .slice zma zmn zmc] 66) = w5 at *
          have HX5 := Lib.hid (HX.out.mod m5 (fun e => e))
          have HM5 := Lib.hid (HM.out.trans m5)
          have HOQ := Lib.hid (hoq0.new m5)
          have HQP := Lib.hid (fun q hq => (hqp q hq).new m5)
          have hfarq := hoq0.far'
          have hxlt : xb < w5.heap.size := HX5.out.lt
          have HCLS : Hid (∀ W, New w5 W → Calls Tryz.prog 38 #[.slice A n c] W (RCloneS W n ps)) := Lib.hid (fun W h => cloneS ps A n c W (HS.out.new (HM5.out.trans h)) (by omega))
          clear m5 HX HM hoq0 hqp
          have HSL : Hid (∀ W, Mod (fun i => blkOf Aq = some i) w5 W → W.cell? ⟨wr.heap.size, 0, none⟩ = some (.string zn0) ∧ W.cell? ⟨wr.heap.size, 1, none⟩ = some (.int .i64 zk) ∧ W.cell? ⟨wr.heap.size, 2, none⟩ = some (.bool zf) ∧ W.cell? ⟨wr.heap.size, 3, none⟩ = some (.int .i64 zn) ∧ W.cell? ⟨wr.heap.size, 4, none⟩ = some (.string zw) ∧ W.cell? ⟨wr.heap.size, 5, none⟩ = some (.slice zla zln zlc) ∧ W.cell? ⟨wr.heap.size, 6, none⟩ = some (.slice zma zmn zmc) ∧ wr.heap.size < W.heap.size) := Lib.hid (fun W hW => by
            have h1 := hlb.mod hW (fun e => by have := (hfarq _ e).2.1; omega)
            exact ⟨(h1.cell 0).trans rfl, (h1.cell 1).trans rfl, (h1.cell 2).trans rfl, (h1.cell 3).trans rfl, (h1.cell 4).trans rfl, (h1.cell 5).trans rfl, (h1.cell 6).trans rfl, h1.lt⟩)
          clear b0 b1 b2 b3 b4 b5 b6 hgl hlb
          generalize wr.heap.size = lb at *
          have HSTV : Hid ((⟨true, zn0, (0 : Int)⟩ : St).name.size ≤ 100000) := Lib.hid hnm
          clear hnm
          refine wp_region_held_tree (Mod (fun i => blkOf Aq = some i) w5) 12 (by kernel_rfl) (by kernel_rfl) ?_
          have hn0 : Mod (fun i => blkOf Aq = some i) w5 w5.drew := (Mod.refl _ _).drew
          have hn1 : New w5 w5.drew := (Mod.refl _ _).drew
          refine headW_take 0 _ ?_ (fun _ _ d _ _ h => by cases d <;> exact h) (by kernel_rfl) rfl (by kernel_rfl) hn0 (by rfl) (fun W hSw => ?_) ?_
          rotate_left
          · (have hq := HSL.out W hSw); (try simp only [List.getElem_toArray, List.getElem_cons_zero, List.getElem_cons_succ]); go_simp; any_goals (with_reducible rfl)
          simp only [Act.put, List.getElem_toArray, List.getElem_cons_zero, List.getElem_cons_succ, List.setIfInBounds_toArray, List.set_cons_zero, List.set_cons_succ]
          refine headW_take 1 _ ?_ (fun _ _ d _ _ h => by cases d <;> exact h) (by kernel_rfl) rfl (by kernel_rfl) hn0 (by rfl) (fun W hSw => ?_) ?_
          rotate_left
          · (have hq := HSL.out W hSw); (try simp only [List.getElem_toArray, List.getElem_cons_zero, List.getElem_cons_succ]); go_simp; any_goals (with_reducible rfl)
          simp only [Act.put, List.getElem_toArray, List.getElem_cons_zero, List.getElem_cons_succ, List.setIfInBounds_toArray, List.set_cons_zero, List.set_cons_succ]
          refine headW_take 2 _ ?_ (fun _ _ d _ _ h => by cases d <;> exact h) (by kernel_rfl) rfl (by kernel_rfl) hn0 (by rfl) (fun W hSw => ?_) ?_
          rotate_left
          · (have hq := HSL.out W hSw); (try simp only [List.getElem_toArray, List.getElem_cons_zero, List.getElem_cons_succ]); go_simp; any_goals (with_reducible rfl)
          simp only [Act.put, List.getElem_toArray, List.getElem_cons_zero, List.getElem_cons_succ, List.setIfInBounds_toArray, List.set_cons_zero, List.set_cons_succ]
          refine headW_take 3 _ ?_ (fun _ _ d _ _ h => by cases d <;> exact h) (by kernel_rfl) rfl (by kernel_rfl) hn0 (by rfl) (fun W hSw => ?_) ?_
          rotate_left
          · (have hq := HSL.out W hSw); (try simp only [List.getElem_toArray, List.getElem_cons_zero, List.getElem_cons_succ]); go_simp; any_goals (with_reducible rfl)
          simp only [Act.put, List.getElem_toArray, List.getElem_cons_zero, List.getElem_cons_succ, List.setIfInBounds_toArray, List.set_cons_zero, List.set_cons_succ]
          refine headW_take 5 _ ?_ (fun _ _ d _ _ h => by cases d <;> exact h) (by kernel_rfl) rfl (by kernel_rfl) hn0 (by rfl) (fun W hSw => ?_) ?_
          rotate_left
          · (have hq := HSL.out W hSw); (try simp only [List.getElem_toArray, List.getElem_cons_zero, List.getElem_cons_succ]); go_simp; any_goals (with_reducible rfl)
          simp only [Act.put, List.getElem_toArray, List.getElem_cons_zero, List.getElem_cons_succ, List.setIfInBounds_toArray, List.set_cons_zero, List.set_cons_succ]
          refine headW_take 6 _ ?_ (fun _ _ d _ _ h => by cases d <;> exact h) (by kernel_rfl) rfl (by kernel_rfl) hn0 (by rfl) (fun W hSw => ?_) ?_
          rotate_left
          · (have hq := HSL.out W hSw); (try simp only [List.getElem_toArray, List.getElem_cons_zero, List.getElem_cons_succ]); go_simp; any_goals (with_reducible rfl)
          simp only [Act.put, List.getElem_toArray, List.getElem_cons_zero, List.getElem_cons_succ, List.setIfInBounds_toArray, List.set_cons_zero, List.set_cons_succ]
          refine headW_take 7 _ ?_ (fun _ _ d _ _ h => by cases d <;> exact h) (by kernel_rfl) rfl (by kernel_rfl) hn0 (by rfl) (fun W hSw => ?_) ?_
          rotate_left
          · (have hq := HSL.out W hSw); (try simp only [List.getElem_toArray, List.getElem_cons_zero, List.getElem_cons_succ]); go_simp; any_goals (with_reducible rfl)
          simp only [Act.put, List.getElem_toArray, List.getElem_cons_zero, List.getElem_cons_succ, List.setIfInBounds_toArray, List.set_cons_zero, List.set_cons_succ]
          refine headW_ready [4, 8] (by kernel_rfl) (by rfl) ?_
          refine eachW_step rfl rfl (fun K hK => ?_) (eachW_step rfl rfl (fun K hK => ?_) eachW_nil)
          · have hcl := HCLS.out _ hn1
            (try simp only [List.getElem_toArray, List.getElem_cons_zero, List.getElem_cons_succ])
            go_simp
            refine hcl.mono ?_
            clear hcl
            rintro e w6 ⟨A6, c6, rfl, own6, m6⟩
            have HN6 := Lib.hid (hn1.trans m6)
            have HOW6 : Hid (Own w6 w5.heap.size 46 3 St.enc A6 n c6 ps) := Lib.hid own6
            clear own6 m6
            go_wp2_with fail
            refine hK.out _ _ (HN6.out.mono (fun _ _ e => e.elim)) (fun _ => ?_)
            clear hK K
            (try simp only [Act.put, List.getElem_toArray, List.getElem_cons_zero, List.getElem_cons_succ, List.setIfInBounds_toArray, List.set_cons_zero, List.set_cons_succ])
            refine headW_ready [8] (by kernel_rfl) (by rfl) ?_
            refine eachW_step rfl rfl (fun K hK => ?_) eachW_nil
            have HBL : Hid (Blk (w6.alloc (.cells #[.bool true, .string zn0, .int .i64 0] 46)) w6.heap.size 46 (encL 3 St.enc ⟨true, zn0, (0 : Int)⟩).toArray) := Lib.hid (Blk.new _ _ _)
            have HMA : Hid (New w6 (w6.alloc (.cells #[.bool true, .string zn0, .int .i64 0] 46))) := Lib.hid ((Mod.refl _ _).alloc _)
            (try simp only [List.getElem_toArray, List.getElem_cons_zero, List.getElem_cons_succ])
            go_simp
            have HOW := Lib.hid (HOW6.out.new HMA.out)
            have HN := Lib.hid (HN6.out.trans HMA.out)
            refine hK.out _ _ (HN.out.mono (fun _ _ e => e.elim)) (fun _ => ?_)
            clear hK K HOW6 HN6 HMA
            (try simp only [Act.put, List.getElem_toArray, List.getElem_cons_zero, List.getElem_cons_succ, List.setIfInBounds_toArray, List.set_cons_zero, List.set_cons_succ])
            generalize w6.alloc (.cells #[.bool true, .string zn0, .int .i64 0] 46) = wa at *
            generalize w6.heap.size = bi at *
            refine headW_ready [9] (by kernel_rfl) (by rfl) ?_
            refine eachW_step rfl rfl (fun K hK => ?_) eachW_nil
            have hblp := HBL.out
            have hszp := HN.out.size
            refine wp_push (.tmp 40) (.tmp 44) _ rfl 32 Tryz.underlying32 einfo_step rfl (by exact HOW.out) ⟨true, zn0, (0 : Int)⟩ bi rfl (by exact hblp) (fun j hj => St.one _ j hj) (by omega) (by omega) (by omega) ?_
            intro g8 cap8 w8 own8 hm8 hat8 hlt8
            have HN8 := Lib.hid (HN.out.step hm8 (fun i hi e => by have := (HOW.out.far' i e).1; omega))
            refine hK.out _ _ (HN8.out.mono (fun _ _ e => e.elim)) (fun _ => ?_)
            clear hK K hblp hat8 hlt8 hm8
            (try simp only [Act.put, List.getElem_toArray, List.getElem_cons_zero, List.getElem_cons_succ, List.setIfInBounds_toArray, List.set_cons_zero, List.set_cons_succ])
            refine headW_ready [10] (by kernel_rfl) (by rfl) ?_
            refine eachW_step rfl rfl (fun K hK => ?_) eachW_nil
            have hih := IHH.out (some ⟨g8, 0, none⟩) (n + 1) cap8 (ps ++ [⟨true, zn0, (0 : Int)⟩]) w8 HN8.out own8.sl (by omega) (fun s hs => by
              rcases List.mem_append.1 hs with h | h
              · exact HPS.out s h
              · rw [List.mem_singleton.1 h]; exact HSTV.out)
            (try simp only [List.getElem_toArray, List.getElem_cons_zero, List.getElem_cons_succ])
            go_simp
            refine hih.mono ?_
            clear hih own8
            rintro e w9 ⟨A9, n9, c9, qs9, rfl, hq9, hp9, h09, hle9, hcap9, m9⟩
            have HN9 := Lib.hid (HN8.out.trans m9)
            clear m9
            go_wp2_with fail
            refine hK.out _ _ (HN9.out.mono (fun _ _ e => e.elim)) (fun _ => ?_)
            clear hK K
            (try simp only [Act.put, List.getElem_toArray, List.getElem_cons_zero, List.getElem_cons_succ, List.setIfInBounds_toArray, List.set_cons_zero, List.set_cons_succ])
            obtain ⟨g9, o9, hA9, -, -⟩ := hq9.2 h09
            subst hA9
            refine headW_ready [11] (by kernel_rfl) (by rfl) ?_
            refine eachW_step rfl rfl (fun K hK => ?_) eachW_nil
            have hoq := HOQ.out.new HN9.out
            have hsz9 := HN9.out.size
            refine wp_pushAll (.tmp 36) (.tmp 46) _ rfl 24 Tryz.underlying49 einfo_path rfl (by exact hoq) qs9 g9 o9 n9 c9 rfl (by exact hq9) h09 (fun y _ j _ => PA.one y j) (by omega) (by omega) (by omega) ?_
            intro g10 cap10 w10 own10 hm10 hat10 hlt10
            refine hK.out _ _ ((HN9.out.mono (fun _ _ e => e.elim)).trans hm10) (fun _ => ?_)
            clear hK K
            (try simp only [Act.put, List.getElem_toArray, List.getElem_cons_zero, List.getElem_cons_succ, List.setIfInBounds_toArray, List.set_cons_zero, List.set_cons_succ])
            refine headW_done (by kernel_rfl) ?_
            have HN10 := Lib.hid hm10
            have HOW10 := Lib.hid own10
            have HHOQ := Lib.hid hoq
            have HP9 := Lib.hid hp9
            clear hat10 hlt10 own10 hm10 hoq hp9 hq9
            go_wp2_with fail
            go_roundw
            case rel =>
              have hty : ∀ g, TB w9 g 46 → ¬ blkOf Aq = some g := fun g ht e => (ht.ne (HHOQ.out.far' g e).2.2 (by decide)) rfl
              refine ⟨k + 1, _, _, _, by omega, by go_num, rfl, Lib.hid ⟨?_, ⟨_, HOW10.out, fun q hq => ?_⟩, ?_, ?_⟩⟩
              · exact (HX5.out.mod HN9.out (fun e => e)).mod HN10.out (fun e => by have := (HHOQ.out.far' _ e).1; omega)
              · rcases List.mem_append.1 hq with h | h
                · exact ((HQP.out q h).new HN9.out).mod HN10.out hty
                · exact ((HP9.out q h).le (by omega)).mod HN10.out hty
              · rw [HSUM.out]
                omega
              · exact (HM5.out.trans HN9.out).step HN10.out (fun i hi e => by have := (HHOQ.out.far' i e).1; omega)
            case measure => simp [intOf]; omega
          · have HB0 : Blk (w5.alloc (.cells #[.bool true, .string zn0, .int .i64 0] 46)) w5.heap.size 46 (encL 3 St.enc ⟨true, zn0, (0 : Int)⟩).toArray := Blk.new _ _ _
            have HNa : Hid (New w5 (World.drew (w5.alloc (.cells #[.bool true, .string zn0, .int .i64 0] 46)))) := Lib.hid (((Mod.refl _ _).alloc _).drew)
            have HBL0 : Hid (Blk (World.drew (w5.alloc (.cells #[.bool true, .string zn0, .int .i64 0] 46))) w5.heap.size 46 (encL 3 St.enc ⟨true, zn0, (0 : Int)⟩).toArray) := Lib.hid (HB0.mod (Mod.drew (Mod.refl (fun _ => False) _)) (fun e => e))
            clear HB0
            have hbi : w5.heap.size < (World.drew (w5.alloc (.cells #[.bool true, .string zn0, .int .i64 0] 46))).heap.size := HBL0.out.lt
            (try simp only [List.getElem_toArray, List.getElem_cons_zero, List.getElem_cons_succ])
            go_simp
            refine hK.out _ _ (HNa.out.mono (fun _ _ e => e.elim)) (fun _ => ?_)
            clear hK K
            (try simp only [Act.put, List.getElem_toArray, List.getElem_cons_zero, List.getElem_cons_succ, List.setIfInBounds_toArray, List.set_cons_zero, List.set_cons_succ])
            generalize World.drew (w5.alloc (.cells #[.bool true, .string zn0, .int .i64 0] 46)) = wa at *
            refine headW_ready [4] (by kernel_rfl) (by rfl) ?_
            refine eachW_step rfl rfl (fun K hK => ?_) eachW_nil
            have hcl := HCLS.out _ HNa.out
            (try simp only [List.getElem_toArray, List.getElem_cons_zero, List.getElem_cons_succ])
            go_simp
            refine hcl.mono ?_
            clear hcl
            rintro e w6 ⟨A6, c6, rfl, own6, m6⟩
            have HN := Lib.hid (HNa.out.trans m6)
            have HOW : Hid (Own w6 w5.heap.size 46 3 St.enc A6 n c6 ps) := Lib.hid (own6.less (Nat.le_of_lt hbi))
            have HBL := Lib.hid (HBL0.out.mod m6 (fun e => e))
            clear own6 m6
            go_wp2_with fail
            refine hK.out _ _ (HN.out.mono (fun _ _ e => e.elim)) (fun _ => ?_)
            clear hK K
            (try simp only [Act.put, List.getElem_toArray, List.getElem_cons_zero, List.getElem_cons_succ, List.setIfInBounds_toArray, List.set_cons_zero, List.set_cons_succ])
            refine headW_ready [9] (by kernel_rfl) (by rfl) ?_
            refine eachW_step rfl rfl (fun K hK => ?_) eachW_nil
            have hblp := HBL.out
            have hszp := HN.out.size
            refine wp_push (.tmp 40) (.tmp 44) _ rfl 32 Tryz.underlying32 einfo_step rfl (by exact HOW.out) ⟨true, zn0, (0 : Int)⟩ w5.heap.size rfl (by exact hblp) (fun j hj => St.one _ j hj) (by omega) (by omega) (by omega) ?_
            intro g8 cap8 w8 own8 hm8 hat8 hlt8
            have HN8 := Lib.hid (HN.out.step hm8 (fun i hi e => by have := (HOW.out.far' i e).1; omega))
            refine hK.out _ _ (HN8.out.mono (fun _ _ e => e.elim)) (fun _ => ?_)
            clear hK K hblp hat8 hlt8 hm8
            (try simp only [Act.put, List.getElem_toArray, List.getElem_cons_zero, List.getElem_cons_succ, List.setIfInBounds_toArray, List.set_cons_zero, List.set_cons_succ])
            refine headW_ready [10] (by kernel_rfl) (by rfl) ?_
            refine eachW_step rfl rfl (fun K hK => ?_) eachW_nil
            have hih := IHH.out (some ⟨g8, 0, none⟩) (n + 1) cap8 (ps ++ [⟨true, zn0, (0 : Int)⟩]) w8 HN8.out own8.sl (by omega) (fun s hs => by
              rcases List.mem_append.1 hs with h | h
              · exact HPS.out s h
              · rw [List.mem_singleton.1 h]; exact HSTV.out)
            (try simp only [List.getElem_toArray, List.getElem_cons_zero, List.getElem_cons_succ])
            go_simp
            refine hih.mono ?_
            clear hih own8
            rintro e w9 ⟨A9, n9, c9, qs9, rfl, hq9, hp9, h09, hle9, hcap9, m9⟩
            have HN9 := Lib.hid (HN8.out.trans m9)
            clear m9
            go_wp2_with fail
            refine hK.out _ _ (HN9.out.mono (fun _ _ e => e.elim)) (fun _ => ?_)
            clear hK K
            (try simp only [Act.put, List.getElem_toArray, List.getElem_cons_zero, List.getElem_cons_succ, List.setIfInBounds_toArray, List.set_cons_zero, List.set_cons_succ])
            obtain ⟨g9, o9, hA9, -, -⟩ := hq9.2 h09
            subst hA9
            refine headW_ready [11] (by kernel_rfl) (by rfl) ?_
            refine eachW_step rfl rfl (fun K hK => ?_) eachW_nil
            have hoq := HOQ.out.new HN9.out
            have hsz9 := HN9.out.size
            refine wp_pushAll (.tmp 36) (.tmp 46) _ rfl 24 Tryz.underlying49 einfo_path rfl (by exact hoq) qs9 g9 o9 n9 c9 rfl (by exact hq9) h09 (fun y _ j _ => PA.one y j) (by omega) (by omega) (by omega) ?_
            intro g10 cap10 w10 own10 hm10 hat10 hlt10
            refine hK.out _ _ ((HN9.out.mono (fun _ _ e => e.elim)).trans hm10) (fun _ => ?_)
            clear hK K
            (try simp only [Act.put, List.getElem_toArray, List.getElem_cons_zero, List.getElem_cons_succ, List.setIfInBounds_toArray, List.set_cons_zero, List.set_cons_succ])
            refine headW_done (by kernel_rfl) ?_
            have HN10 := Lib.hid hm10
            have HOW10 := Lib.hid own10
            have HHOQ := Lib.hid hoq
            have HP9 := Lib.hid hp9
            clear hat10 hlt10 own10 hm10 hoq hp9 hq9
            go_wp2_with fail
            go_roundw
            case rel =>
              have hty : ∀ g, TB w9 g 46 → ¬ blkOf Aq = some g := fun g ht e => (ht.ne (HHOQ.out.far' g e).2.2 (by decide)) rfl
              refine ⟨k + 1, _, _, _, by omega, by go_num, rfl, Lib.hid ⟨?_, ⟨_, HOW10.out, fun q hq => ?_⟩, ?_, ?_⟩⟩
              · exact (HX5.out.mod HN9.out (fun e => e)).mod HN10.out (fun e => by have := (HHOQ.out.far' _ e).1; omega)
              · rcases List.mem_append.1 hq with h | h
                · exact ((HQP.out q h).new HN9.out).mod HN10.out hty
                · exact ((HP9.out q h).le (by omega)).mod HN10.out hty
              · rw [HSUM.out]
                omega
              · exact (HM5.out.trans HN9.out).step HN10.out (fun i hi e => by have := (HHOQ.out.far' i e).1; omega)
            case measure => simp [intOf]; omega
        · obtain rfl : xmn = k := by omega
          have hwt : nq ≤ WT := by
            have h := take_sum_le v.mem (fun p => vW d p.2 + (6 * p.1.size + 4)) xmn
            rw [HWM.out] at h
            omega
          have HQ := Lib.hid hoq0
          have HQP := Lib.hid hqp
          clear hoq0 hqp hmany
          by_cases h0 : nq = 0
          · have h0b : ((nq : Int) == 0) = true := by simp; omega
            have hcl := cloneS ps A n c wr (HS.out.new HM.out) (by omega)
            clear h0
            go_wp2_with fail
            refine hcl.mono ?_
            clear hcl
            rintro e w6 ⟨A6, c6, rfl, own6, m6⟩
            have HOW6 := Lib.hid own6
            have HM6 := Lib.hid (HM.out.trans m6)
            clear own6 m6
            go_wp2_with fail
            go_ret
            have ma : New w6 (w6.alloc (.cells #[.slice A6 n c6] 32)) := (Mod.refl _ _).alloc _
            refine ⟨some ⟨w6.heap.size, 0, none⟩, 1, 1, [⟨A6, n, c6⟩], rfl, Sl.of_blk (Blk.new _ _ _) rfl (fun i h j hj => ?_), fun q hq => ?_, by omega, by omega, by omega, HM6.out.trans ma⟩
            · simp only [List.length_cons, List.length_nil] at h
              obtain rfl : i = 0 := by omega
              obtain rfl : j = 0 := by omega
              rfl
            · rw [List.mem_singleton.1 hq]
              exact ⟨ps, (HOW6.out.new ma).sl, by simp only; omega, HOW6.out.cap, HOW6.out.noneC, HPS.out⟩
          · have h0b : ((nq : Int) == 0) = false := by simp; omega
            go_wp2_with fail
            go_ret
            exact ⟨Aq, nq, cq, qs, rfl, HQ.out.sl, fun q hq => (HQP.out q hq).le (by omega), by omega, hwt, HQ.out.cap, HM.out⟩

theorem leaves_v : ∀ d, LvSpec d
  | 0 => fun x v A n c ps w ht => ht.elim
  | d + 1 => leaves_walk d (leaves_v d)

end Go.Proofs.YtpgcbehpknghdaaGreatDoor
