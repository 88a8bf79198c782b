/- The reference: slices.SortFunc of members by name, where only the last one may be out of its place. Conditions: 1 to 12 members. -/
import Derived.Test.YtahofcopedlenaaGreatDoorChgMem
import Derived.Test.YtahofcopedlenaaGreatDoorShelf
import Derived.Test.YtahofcopedlenaaGreatDoorHeld2
import Derived.Deep.RegionHeld3
namespace Go.Proofs.YtahofcopedlenaaGreatDoor
open Go.RowKit
set_option linter.unusedVariables false
set_option linter.unusedSimpArgs false

theorem enters_with2 (args : Array Value) (w : World) : (callFunc 82 args).run Tryz.prog w = .ok (.enter 82 args) w := by
  go_simp
set_option maxHeartbeats 1000000 in
theorem with2_v (a b : MA) (w : World) : Calls Tryz.prog 82 #[a.val, b.val] w fun e w' => e = .returned (.int .i64 (cmpB a.name b.name)) ∧ New w w' := by
  have hsc := fun W => Tryz.strings_Compare a.name b.name W
  have HCB : Hid (cmpB a.name b.name = Lib.compareBytes a.name.data.toList b.name.data.toList) := Lib.hid rfl
  obtain ⟨xm, xk, xf, xn, xw, xla, xln, xlc, xma, xmn, xmc⟩ := a
  obtain ⟨ym, yk, yf, yn, yw, yla, yln, ylc, yma, ymn, ymc⟩ := b
  simp only at hsc HCB
  generalize cmpB xm ym = C at *
  generalize Lib.compareBytes xm.data.toList ym.data.toList = C2 at *
  have hx := Blk.new w 49 #[.string xm, .int .i64 xk, .bool xf, .int .i64 xn, .string xw, .slice xla xln xlc, .slice xma xmn xmc]
  have hm1 : New w (w.alloc (.cells #[.string xm, .int .i64 xk, .bool xf, .int .i64 xn, .string xw, .slice xla xln xlc, .slice xma xmn xmc] 49)) := (Mod.refl _ _).alloc _
  have z1 : (w.alloc (.cells #[.string xm, .int .i64 xk, .bool xf, .int .i64 xn, .string xw, .slice xla xln xlc, .slice xma xmn xmc] 49)).heap.size = w.heap.size + 1 := by simp
  go_enter Tryz.func82, Tryz.ntmps82
  go_upto_region 1 with (fail)
  generalize w.alloc (.cells #[.string xm, .int .i64 xk, .bool xf, .int .i64 xn, .string xw, .slice xla xln xlc, .slice xma xmn xmc] 49) = w1 at *
  have hy := Blk.new w1 49 #[.string ym, .int .i64 yk, .bool yf, .int .i64 yn, .string yw, .slice yla yln ylc, .slice yma ymn ymc]
  have hm2 : New w1 (w1.alloc (.cells #[.string ym, .int .i64 yk, .bool yf, .int .i64 yn, .string yw, .slice yla yln ylc, .slice yma ymn ymc] 49)) := (Mod.refl _ _).alloc _
  generalize w1.alloc (.cells #[.string ym, .int .i64 yk, .bool yf, .int .i64 yn, .string yw, .slice yla yln ylc, .slice yma ymn ymc] 49) = w2 at *
  rw [z1] at hy
  have hxx := hx.mod hm2 (fun e => e)
  have b0 := hxx.cell 0
  have bl := hxx.lt
  have c0 := hy.cell 0
  have cl := hy.lt
  simp only [List.getElem?_toArray, List.getElem?_cons_zero] at b0 c0
  have HM2 := Lib.hid (hm1.trans hm2)
  clear hx hxx hy hm1 hm2 z1
  go_wp2_with fail
  refine (hsc _).mono ?_
  clear hsc
  rintro e w3 ⟨rfl, rfl⟩
  go_wp2_with fail
  go_ret
  exact ⟨ret_int HCB.out.symm, HM2.out⟩

/-- x sunk to the place j -/
def sunk {α : Type} (ms : List α) (x : α) (j : Nat) : List α := ms.take j ++ x :: ms.drop j
theorem sunk_len {α : Type} (ms : List α) (x : α) (j : Nat) : (sunk ms x j).length = ms.length + 1 := by
  unfold sunk
  simp
  omega
theorem sunk_last {α : Type} (ms : List α) (x : α) : sunk ms x ms.length = ms ++ [x] := by
  unfold sunk
  simp
theorem sunk_at {α : Type} (ms : List α) (x : α) {q : Nat} (h : q < ms.length) : (sunk ms x (q + 1))[q]? = some ms[q] ∧ (sunk ms x (q + 1))[q + 1]? = some x := by
  unfold sunk
  constructor
  · rw [List.getElem?_append_left (by simp; omega)]
    simp [h]
  · rw [List.getElem?_append_right (by simp; omega)]
    simp [Nat.min_eq_left (show q + 1 ≤ ms.length by omega)]
theorem sunk_step {α : Type} (ms : List α) (x : α) {q : Nat} (h : q < ms.length) : ((sunk ms x (q + 1)).set (q + 1) ms[q]).set q x = sunk ms x q := by
  unfold sunk
  rw [List.take_succ_eq_append_getElem h, List.drop_eq_getElem_cons h, List.append_assoc, List.set_append_right _ _ (by simp; omega), List.set_append_right _ _ (by simp; omega)]
  simp [Nat.min_eq_left (Nat.le_of_lt h)]
theorem sunk_top {α : Type} (ms : List α) (x : α) {i : Nat} (h : i < ms.length) : (sunk ms x ms.length)[i]? = some ms[i] := by
  rw [sunk_last, List.getElem?_append_left h]
  simp [h]

/-- the members stand in order, x belongs at p -/
structure Place (ms : List MA) (x : MA) (p : Nat) : Prop where
  le : p ≤ ms.length
  srt : ∀ i j (h1 : i < ms.length) (h2 : j < ms.length), i < j → cmpB ms[i].name ms[j].name < 0
  low : ∀ i (h : i < ms.length), i < p → cmpB ms[i].name x.name < 0
  high : ∀ i (h : i < ms.length), p ≤ i → cmpB x.name ms[i].name < 0
/-- where the inner loop may stand -/
def InSt (ms : List MA) (x : MA) (p i j : Nat) (L : List MA) : Prop := (i < ms.length ∧ j = i ∧ L = sunk ms x ms.length) ∨ (i = ms.length ∧ p ≤ j ∧ L = sunk ms x j)
theorem InSt.test {ms : List MA} {x : MA} {p i j : Nat} {L : List MA} (h : InSt ms x p i (j + 1) L) (hP : Place ms x p) (hj : j + 1 ≤ i) (hi : i ≤ ms.length) {a b : MA} (ha : L[j + 1]? = some a) (hb : L[j]? = some b) :
    (cmpB a.name b.name < 0 → i = ms.length ∧ p ≤ j ∧ L = sunk ms x (j + 1) ∧ a = x ∧ ∃ hq : j < ms.length, b = ms[j]) ∧ (¬ cmpB a.name b.name < 0 → (i < ms.length ∧ L = sunk ms x ms.length) ∨ (i = ms.length ∧ p = j + 1 ∧ L = sunk ms x (j + 1))) := by
  rcases h with ⟨h1, h2, h3⟩ | ⟨h1, h2, h3⟩
  · have e1 := sunk_top ms x (i := j + 1) (by omega)
    have e2 := sunk_top ms x (i := j) (by omega)
    rw [h3, e1] at ha
    rw [h3, e2] at hb
    injection ha with ha
    injection hb with hb
    subst ha hb
    have hs := hP.srt j (j + 1) (by omega) (by omega) (by omega)
    have hw := cmpB_swap ms[j].name ms[j + 1].name
    exact ⟨fun q => by omega, fun _ => .inl ⟨h1, h3⟩⟩
  · obtain ⟨e2, e1⟩ := sunk_at ms x (q := j) (by omega)
    rw [h3, e1] at ha
    rw [h3, e2] at hb
    injection ha with ha
    injection hb with hb
    subst ha hb
    by_cases hpj : p ≤ j
    · exact ⟨fun _ => ⟨h1, hpj, h3, rfl, by omega, rfl⟩, fun q => absurd (hP.high j (by omega) hpj) q⟩
    · have hl := hP.low j (by omega) (by omega)
      have hw := cmpB_swap ms[j].name x.name
      exact ⟨fun q => by omega, fun _ => .inr ⟨h1, by omega, h3⟩⟩

set_option maxRecDepth 100000 in
set_option maxHeartbeats 1000000 in
theorem insSort_ma (w : World) (B g n c : Nat) (ms : List MA) (x : MA) (p : Nat) (ho : Own w B 49 7 MA.enc (some ⟨g, 0, none⟩) n c (ms ++ [x])) (hp : Place ms x p) (hn : n ≤ 1000) :
    Calls Tryz.prog 112 #[.slice (some ⟨g, 0, none⟩) n c, .int .i64 0, .int .i64 n, .func (.func 82) #[] #[]] w fun e w' => e = .returned (.tuple #[]) ∧ Own w' B 49 7 MA.enc (some ⟨g, 0, none⟩) n c (sunk ms x p) ∧ Only g w w' := by
  have hl : ms.length + 1 = n := by have := ho.1; simpa using this
  have HO := Lib.hid ho
  have HP := Lib.hid hp
  have HL := Lib.hid hl
  have hcallF := fun a b W => with2_v a b W
  have HCF := Lib.hid hcallF
  have eg := enters_with2
  clear ho hp hl hcallF
  go_enter Tryz.func112, Tryz.ntmps112
  go_wp2_with fail
  go_loopw [8] (fun vi wr => ∃ (i : Nat) (L : List MA), 1 ≤ i ∧ i ≤ n ∧ vi = .int .i64 i ∧ Hid (Own wr B 49 7 MA.enc (some ⟨g, 0, none⟩) n c L) ∧ Hid (Only g w wr) ∧ Hid ((i < n ∧ L = sunk ms x ms.length) ∨ (i = n ∧ L = sunk ms x p))) (fun vi _ => n - (intOf vi).toNat)
  case atStart =>
    refine ⟨1, ms ++ [x], Nat.le_refl _, by have := HL.out; omega, by go_num, HO, Lib.hid (Mod.refl _ _), Lib.hid ?_⟩
    have h1 := HL.out
    rcases Nat.eq_zero_or_pos ms.length with h | h
    · have h2 := HP.out.le
      refine .inr ⟨by omega, ?_⟩
      obtain rfl : p = ms.length := by omega
      rw [sunk_last]
    · exact .inl ⟨by omega, (sunk_last ms x).symm⟩
  case round =>
    rename World => wr
    obtain ⟨i, L, hi1, hin, rfl, HOW, HON, HST⟩ := hrel
    by_cases hlt : i < n
    · have HIL : Hid (L = sunk ms x ms.length) := Lib.hid (by
        rcases HST.out with h | h
        · exact h.2
        · omega)
      clear HST
      have hltz : (i : Int) < (n : Int) := by omega
      go_wp2_with fail
      go_loopw [9] (fun vj wr2 => ∃ (j : Nat) (L2 : List MA), j ≤ i ∧ vj = .int .i64 j ∧ Hid (Own wr2 B 49 7 MA.enc (some ⟨g, 0, none⟩) n c L2) ∧ Hid (Only g w wr2) ∧ Hid (InSt ms x p i j L2)) (fun vj _ => (intOf vj).toNat)
      case atStart =>
        refine ⟨i, L, Nat.le_refl _, rfl, HOW, HON, Lib.hid ?_⟩
        have h1 := HL.out
        by_cases h : i < ms.length
        · exact .inl ⟨h, rfl, HIL.out⟩
        · obtain rfl : i = ms.length := by omega
          exact .inr ⟨rfl, HP.out.le, HIL.out⟩
      case round =>
        rename World => wr2
        clear HOW HON HIL
        obtain ⟨j, L2, hji, rfl, HOW, HON, HIN⟩ := hrel
        by_cases hj0 : 0 < j
        · obtain ⟨j, rfl⟩ : ∃ q, j = q + 1 := ⟨j - 1, by omega⟩
          have hjn : j + 1 < n := by omega
          have hLn : L2.length = n := HOW.out.1
          have hja : j + 1 < L2.length := by omega
          have hjb : j < L2.length := by omega
          obtain ⟨g', o', hA, htb, hc0⟩ := HOW.out.sl.2 (by omega)
          injection hA with hA
          injection hA with hA1 hA2
          subst hA1 hA2
          have hgl := htb.lt
          have hca := fun q (hq : q < 7) => hc0 (j + 1) hja q hq
          have hcb := fun q (hq : q < 7) => hc0 j hjb q hq
          have ha : L2[j + 1]? = some L2[j + 1] := List.getElem?_eq_getElem hja
          have hb : L2[j]? = some L2[j] := List.getElem?_eq_getElem hjb
          have HLN := Lib.hid hLn
          clear hc0 htb hLn
          generalize L2[j + 1] = a at *
          generalize L2[j] = b at *
          have HTEST := Lib.hid (HIN.out.test HP.out hji (by have := HL.out; omega) ha hb)
          have HAB := Lib.hid (And.intro ha hb)
          clear ha hb hja hjb
          obtain ⟨an, ak, af, ai, aw, ala, aln, alc, ama, amn, amc⟩ := a
          obtain ⟨bn, bk, bf, bi, bw, bla, bln, blc, bma, bmn, bmc⟩ := b
          have a0 := hca 0 (by omega)
          have a1 := hca 1 (by omega)
          have a2 := hca 2 (by omega)
          have a3 := hca 3 (by omega)
          have a4 := hca 4 (by omega)
          have a5 := hca 5 (by omega)
          have a6 := hca 6 (by omega)
          have b0 := hcb 0 (by omega)
          have b1 := hcb 1 (by omega)
          have b2 := hcb 2 (by omega)
          have b3 := hcb 3 (by omega)
          have b4 := hcb 4 (by omega)
          have b5 := hcb 5 (by omega)
          have b6 := hcb 6 (by omega)
          simp only [MA.enc, VA.enc, Nat.add_zero, Nat.zero_add] at a0 a1 a2 a3 a4 a5 a6 b0 b1 b2 b3 b4 b5 b6
          clear hca hcb
          have HSX : Hid (∀ W, New wr2 W → (W.cell? ⟨g, (j + 1) * 7, none⟩ = some (.string an) ∧ W.cell? ⟨g, (j + 1) * 7 + 1, none⟩ = some (.int .i64 ak) ∧ W.cell? ⟨g, (j + 1) * 7 + 2, none⟩ = some (.bool af) ∧ W.cell? ⟨g, (j + 1) * 7 + 3, none⟩ = some (.int .i64 ai) ∧ W.cell? ⟨g, (j + 1) * 7 + 4, none⟩ = some (.string aw) ∧ W.cell? ⟨g, (j + 1) * 7 + 5, none⟩ = some (.slice ala aln alc) ∧ W.cell? ⟨g, (j + 1) * 7 + 6, none⟩ = some (.slice ama amn amc) ∧
            W.cell? ⟨g, j * 7, none⟩ = some (.string bn) ∧ W.cell? ⟨g, j * 7 + 1, none⟩ = some (.int .i64 bk) ∧ W.cell? ⟨g, j * 7 + 2, none⟩ = some (.bool bf) ∧ W.cell? ⟨g, j * 7 + 3, none⟩ = some (.int .i64 bi) ∧ W.cell? ⟨g, j * 7 + 4, none⟩ = some (.string bw) ∧ W.cell? ⟨g, j * 7 + 5, none⟩ = some (.slice bla bln blc) ∧ W.cell? ⟨g, j * 7 + 6, none⟩ = some (.slice bma bmn bmc) ∧ g < W.heap.size)) := Lib.hid (fun W hW => by
            have key : ∀ (q : Nat) (v : Value), wr2.cell? ⟨g, q, none⟩ = some v → W.cell? ⟨g, q, none⟩ = some v := fun q v h => (hW.cell (p := ⟨g, q, none⟩) hgl (fun e => e)).trans h
            exact ⟨key _ _ a0, key _ _ a1, key _ _ a2, key _ _ a3, key _ _ a4, key _ _ a5, key _ _ a6, key _ _ b0, key _ _ b1, key _ _ b2, key _ _ b3, key _ _ b4, key _ _ b5, key _ _ b6, Nat.lt_of_lt_of_le hgl hW.size⟩)
          have hwp : IntKind.i64.wrap (j : Int) = (j : Int) := by rw [IntKind.wrap_i64]; omega
          have jz : (j : Int) + 1 < (n : Int) := by omega
          have jz1 : (j : Int) < (n : Int) := by omega
          have p0 : (0 : Int) ≤ (j : Int) + 1 := by omega
          have p1 : (0 : Int) ≤ (j : Int) := by omega
          have e0 : ((j : Int) + 1).toNat = j + 1 := by omega
          have p2 : (0 : Int) < (j : Int) + 1 := by omega
          clear a0 a1 a2 a3 a4 a5 a6 b0 b1 b2 b3 b4 b5 b6
          go_upto_region 4 with (fail)
          refine wp_region_held_drew (S := New wr2) (by kernel_rfl) (Mod.refl _ _).drew (fun hHeld => ?_)
          refine wpAnyH_take (i := 0) (v := ?_) rfl (by kernel_rfl) (by kernel_rfl) (by kernel_rfl) (fun _ _ _ h => h) (Or.inl ⟨by rfl, fun W hSw => ?_⟩) (by assumption) ?_
          rotate_left
          · (have hq := HSX.out W hSw); (try simp only [List.getElem_toArray, List.getElem_cons_zero, List.getElem_cons_succ]); go_simp; any_goals (with_reducible rfl)
          simp only [Act.put, List.getElem_toArray, List.getElem_cons_zero, List.getElem_cons_succ, List.setIfInBounds_toArray, List.set_cons_zero, List.set_cons_succ]
          refine wpAnyH_take (i := 1) (v := ?_) rfl (by kernel_rfl) (by kernel_rfl) (by kernel_rfl) (fun _ _ _ h => h) (Or.inl ⟨by rfl, fun W hSw => ?_⟩) (by assumption) ?_
          rotate_left
          · (have hq := HSX.out W hSw); (try simp only [List.getElem_toArray, List.getElem_cons_zero, List.getElem_cons_succ]); go_simp; any_goals (with_reducible rfl)
          simp only [Act.put, List.getElem_toArray, List.getElem_cons_zero, List.getElem_cons_succ, List.setIfInBounds_toArray, List.set_cons_zero, List.set_cons_succ]
          refine wpAnyH_take (i := 2) (v := ?_) rfl (by kernel_rfl) (by kernel_rfl) (by kernel_rfl) (fun _ _ _ h => h) (Or.inl ⟨by rfl, fun W hSw => ?_⟩) (by assumption) ?_
          rotate_left
          · (have hq := HSX.out W hSw); (try simp only [List.getElem_toArray, List.getElem_cons_zero, List.getElem_cons_succ]); go_simp; any_goals (with_reducible rfl)
          simp only [Act.put, List.getElem_toArray, List.getElem_cons_zero, List.getElem_cons_succ, List.setIfInBounds_toArray, List.set_cons_zero, List.set_cons_succ]
          refine wpAnyH_take (i := 3) (v := ?_) rfl (by kernel_rfl) (by kernel_rfl) (by kernel_rfl) (fun _ _ _ h => h) (Or.inl ⟨by rfl, fun W hSw => ?_⟩) (by assumption) ?_
          rotate_left
          · (have hq := HSX.out W hSw); (try simp only [List.getElem_toArray, List.getElem_cons_zero, List.getElem_cons_succ]); go_simp; any_goals (with_reducible rfl)
          simp only [Act.put, List.getElem_toArray, List.getElem_cons_zero, List.getElem_cons_succ, List.setIfInBounds_toArray, List.set_cons_zero, List.set_cons_succ]
          refine wpAnyH_take (i := 4) (v := ?_) rfl (by kernel_rfl) (by kernel_rfl) (by kernel_rfl) (fun _ _ _ h => h) (Or.inl ⟨by rfl, fun W hSw => ?_⟩) (by assumption) ?_
          rotate_left
          · (have hq := HSX.out W hSw); (try simp only [List.getElem_toArray, List.getElem_cons_zero, List.getElem_cons_succ]); go_simp; any_goals (with_reducible rfl)
          simp only [Act.put, List.getElem_toArray, List.getElem_cons_zero, List.getElem_cons_succ, List.setIfInBounds_toArray, List.set_cons_zero, List.set_cons_succ]
          refine wpAnyH_take (i := 5) (v := ?_) rfl (by kernel_rfl) (by kernel_rfl) (by kernel_rfl) (fun _ _ _ h => h) (Or.inl ⟨by rfl, fun W hSw => ?_⟩) (by assumption) ?_
          rotate_left
          · (have hq := HSX.out W hSw); (try simp only [List.getElem_toArray, List.getElem_cons_zero, List.getElem_cons_succ]); go_simp; any_goals (with_reducible rfl)
          simp only [Act.put, List.getElem_toArray, List.getElem_cons_zero, List.getElem_cons_succ, List.setIfInBounds_toArray, List.set_cons_zero, List.set_cons_succ]
          refine wpAnyH_take (i := 6) (v := ?_) rfl (by kernel_rfl) (by kernel_rfl) (by kernel_rfl) (fun _ _ _ h => h) (Or.inl ⟨by rfl, fun W hSw => ?_⟩) (by assumption) ?_
          rotate_left
          · (have hq := HSX.out W hSw); (try simp only [List.getElem_toArray, List.getElem_cons_zero, List.getElem_cons_succ]); go_simp; any_goals (with_reducible rfl)
          simp only [Act.put, List.getElem_toArray, List.getElem_cons_zero, List.getElem_cons_succ, List.setIfInBounds_toArray, List.set_cons_zero, List.set_cons_succ]
          refine wpAnyH_take (i := 7) (v := ?_) rfl (by kernel_rfl) (by kernel_rfl) (by kernel_rfl) (fun _ _ _ h => h) (Or.inl ⟨by rfl, fun W hSw => ?_⟩) (by assumption) ?_
          rotate_left
          · (have hq := HSX.out W hSw); (try simp only [List.getElem_toArray, List.getElem_cons_zero, List.getElem_cons_succ]); go_simp; any_goals (with_reducible rfl)
          simp only [Act.put, List.getElem_toArray, List.getElem_cons_zero, List.getElem_cons_succ, List.setIfInBounds_toArray, List.set_cons_zero, List.set_cons_succ]
          refine wpAnyH_take (i := 8) (v := ?_) rfl (by kernel_rfl) (by kernel_rfl) (by kernel_rfl) (fun _ _ _ h => h) (Or.inl ⟨by rfl, fun W hSw => ?_⟩) (by assumption) ?_
          rotate_left
          · (have hq := HSX.out W hSw); (try simp only [List.getElem_toArray, List.getElem_cons_zero, List.getElem_cons_succ]); go_simp; any_goals (with_reducible rfl)
          simp only [Act.put, List.getElem_toArray, List.getElem_cons_zero, List.getElem_cons_succ, List.setIfInBounds_toArray, List.set_cons_zero, List.set_cons_succ]
          refine wpAnyH_take (i := 9) (v := ?_) rfl (by kernel_rfl) (by kernel_rfl) (by kernel_rfl) (fun _ _ _ h => h) (Or.inl ⟨by rfl, fun W hSw => ?_⟩) (by assumption) ?_
          rotate_left
          · (have hq := HSX.out W hSw); (try simp only [List.getElem_toArray, List.getElem_cons_zero, List.getElem_cons_succ]); go_simp; any_goals (with_reducible rfl)
          simp only [Act.put, List.getElem_toArray, List.getElem_cons_zero, List.getElem_cons_succ, List.setIfInBounds_toArray, List.set_cons_zero, List.set_cons_succ]
          refine wpAnyH_take (i := 10) (v := ?_) rfl (by kernel_rfl) (by kernel_rfl) (by kernel_rfl) (fun _ _ _ h => h) (Or.inl ⟨by rfl, fun W hSw => ?_⟩) (by assumption) ?_
          rotate_left
          · (have hq := HSX.out W hSw); (try simp only [List.getElem_toArray, List.getElem_cons_zero, List.getElem_cons_succ]); go_simp; any_goals (with_reducible rfl)
          simp only [Act.put, List.getElem_toArray, List.getElem_cons_zero, List.getElem_cons_succ, List.setIfInBounds_toArray, List.set_cons_zero, List.set_cons_succ]
          refine wpAnyH_take (i := 11) (v := ?_) rfl (by kernel_rfl) (by kernel_rfl) (by kernel_rfl) (fun _ _ _ h => h) (Or.inl ⟨by rfl, fun W hSw => ?_⟩) (by assumption) ?_
          rotate_left
          · (have hq := HSX.out W hSw); (try simp only [List.getElem_toArray, List.getElem_cons_zero, List.getElem_cons_succ]); go_simp; any_goals (with_reducible rfl)
          simp only [Act.put, List.getElem_toArray, List.getElem_cons_zero, List.getElem_cons_succ, List.setIfInBounds_toArray, List.set_cons_zero, List.set_cons_succ]
          refine wpAnyH_take (i := 12) (v := ?_) rfl (by kernel_rfl) (by kernel_rfl) (by kernel_rfl) (fun _ _ _ h => h) (Or.inl ⟨by rfl, fun W hSw => ?_⟩) (by assumption) ?_
          rotate_left
          · (have hq := HSX.out W hSw); (try simp only [List.getElem_toArray, List.getElem_cons_zero, List.getElem_cons_succ]); go_simp; any_goals (with_reducible rfl)
          simp only [Act.put, List.getElem_toArray, List.getElem_cons_zero, List.getElem_cons_succ, List.setIfInBounds_toArray, List.set_cons_zero, List.set_cons_succ]
          refine wpAnyH_take (i := 13) (v := ?_) rfl (by kernel_rfl) (by kernel_rfl) (by kernel_rfl) (fun _ _ _ h => h) (Or.inl ⟨by rfl, fun W hSw => ?_⟩) (by assumption) ?_
          rotate_left
          · (have hq := HSX.out W hSw); (try simp only [List.getElem_toArray, List.getElem_cons_zero, List.getElem_cons_succ]); go_simp; any_goals (with_reducible rfl)
          simp only [Act.put, List.getElem_toArray, List.getElem_cons_zero, List.getElem_cons_succ, List.setIfInBounds_toArray, List.set_cons_zero, List.set_cons_succ]
          refine wpAnyH_ready (rs := [14]) (by kernel_rfl) (by simp) ?_
          refine AllReadyH.cons rfl (fun K hK => ?_) AllReadyH.nil
          (try simp only [List.getElem_toArray, List.getElem_cons_zero, List.getElem_cons_succ])
          go_simp
          refine (HCF.out ⟨an, ⟨ak, af, ai, aw, ala, aln, alc, ama, amn, amc⟩⟩ ⟨bn, ⟨bk, bf, bi, bw, bla, bln, blc, bma, bmn, bmc⟩⟩ _).mono ?_
          rintro e w5 ⟨rfl, m5⟩
          have n5 : New wr2 w5 := (Mod.refl _ _).drew.trans m5
          simp only at HTEST
          generalize cmpB an bn = r at *
          go_wp2_with fail
          refine hK.out _ _ n5 (fun hHeld => ?_)
          clear hK K
          (try simp only [Act.put, List.getElem_toArray, List.getElem_cons_zero, List.getElem_cons_succ, List.setIfInBounds_toArray, List.set_cons_zero, List.set_cons_succ])
          have HOW5 := Lib.hid (HOW.out.new n5)
          have HON5 := Lib.hid (HON.out.trans (n5.mono (fun _ _ e => e.elim)))
          by_cases hr : r < 0
          · have hr1 : decide (r < 0) = true := by simpa using hr
            obtain ⟨hil, hpj, hL2, hax, hq, hbq⟩ := HTEST.out.1 hr
            have HAX := Lib.hid hax
            have HBQ := Lib.hid hbq
            have HL2 := Lib.hid hL2
            have HIL := Lib.hid hil
            clear hr hax hbq hL2 hil
            refine wpAnyH_take (i := 15) (v := ?_) rfl (by kernel_rfl) (by kernel_rfl) (by kernel_rfl) (fun _ _ _ h => h) (Or.inl ⟨by rfl, fun W hSw => ?_⟩) (by assumption) ?_
            rotate_left
            · (have hq := HSX.out W hSw); (try simp only [List.getElem_toArray, List.getElem_cons_zero, List.getElem_cons_succ]); go_simp; any_goals (with_reducible rfl)
            simp only [Act.put, List.getElem_toArray, List.getElem_cons_zero, List.getElem_cons_succ, List.setIfInBounds_toArray, List.set_cons_zero, List.set_cons_succ]
            refine wpAnyH_take (i := 16) (v := ?_) rfl (by kernel_rfl) (by kernel_rfl) (by kernel_rfl) (fun _ _ _ h => h) (Or.inl ⟨by rfl, fun W hSw => ?_⟩) (by assumption) ?_
            rotate_left
            · (have hq := HSX.out W hSw); (try simp only [List.getElem_toArray, List.getElem_cons_zero, List.getElem_cons_succ]); go_simp; any_goals (with_reducible rfl)
            simp only [Act.put, List.getElem_toArray, List.getElem_cons_zero, List.getElem_cons_succ, List.setIfInBounds_toArray, List.set_cons_zero, List.set_cons_succ]
            refine wpAnyH_done (by kernel_rfl) ?_ _
            clear hHeld
            have hs5 := HSX.out w5 n5
            obtain ⟨a0, a1, a2, a3, a4, a5, a6, b0, b1, b2, b3, b4, b5, b6, gl⟩ := hs5
            have gf := HOW5.out.frozen
            go_upto_region 6 with (fail)
            have hj1 : j + 1 < L2.length := by rw [HLN.out]; exact hjn
            have own6 := (HOW5.out.set7 hj1 (⟨bn, ⟨bk, bf, bi, bw, bla, bln, blc, bma, bmn, bmc⟩⟩ : MA)).set7 (i := j) (by simp; omega) (⟨an, ⟨ak, af, ai, aw, ala, aln, alc, ama, amn, amc⟩⟩ : MA)
            simp only [MA.enc, VA.enc] at own6
            have HL6 : Hid ((L2.set (j + 1) (⟨bn, ⟨bk, bf, bi, bw, bla, bln, blc, bma, bmn, bmc⟩⟩ : MA)).set j (⟨an, ⟨ak, af, ai, aw, ala, aln, alc, ama, amn, amc⟩⟩ : MA) = sunk ms x j) := Lib.hid (by rw [HL2.out, HAX.out, HBQ.out]; exact sunk_step ms x hq)
            rw [HL6.out] at own6
            have HOW6 := Lib.hid own6
            have o6 : Only g w5 ((((((((((((((w5.setCell ⟨g, (j + 1) * 7, none⟩ (.string bn)).setCell ⟨g, (j + 1) * 7 + 1, none⟩ (.int .i64 bk)).setCell ⟨g, (j + 1) * 7 + 2, none⟩ (.bool bf)).setCell ⟨g, (j + 1) * 7 + 3, none⟩ (.int .i64 bi)).setCell ⟨g, (j + 1) * 7 + 4, none⟩ (.string bw)).setCell ⟨g, (j + 1) * 7 + 5, none⟩ (.slice bla bln blc)).setCell ⟨g, (j + 1) * 7 + 6, none⟩ (.slice bma bmn bmc)).setCell ⟨g, j * 7, none⟩ (.string an)).setCell ⟨g, j * 7 + 1, none⟩ (.int .i64 ak)).setCell ⟨g, j * 7 + 2, none⟩ (.bool af)).setCell ⟨g, j * 7 + 3, none⟩ (.int .i64 ai)).setCell ⟨g, j * 7 + 4, none⟩ (.string aw)).setCell ⟨g, j * 7 + 5, none⟩ (.slice ala aln alc)).setCell ⟨g, j * 7 + 6, none⟩ (.slice ama amn amc)) := by
              with_reducible repeat (first | exact Mod.refl _ _ | refine Only.set ?_ _ _)
            have HO6 := Lib.hid o6
            clear own6 o6 hj1
            go_big_region
            go_wp2_with fail
            go_roundw
            case rel => exact ⟨j, sunk ms x j, by omega, by go_num, Lib.hid (HOW6.out.new (Mod.refl _ _).drew), Lib.hid ((HON5.out.trans HO6.out).drew), Lib.hid (.inr ⟨HIL.out, hpj, rfl⟩)⟩
            case measure => first | (simp [intOf]; done) | (simp [intOf]; omega)
          · have hr1 : decide (r < 0) = false := by simpa using hr
            have HEN := Lib.hid (HTEST.out.2 (by omega))
            clear hr
            refine wpAnyH_take (i := 15) (v := ?_) rfl (by kernel_rfl) (by kernel_rfl) (by kernel_rfl) (fun _ _ _ h => h) (Or.inl ⟨by rfl, fun W hSw => ?_⟩) (by assumption) ?_
            rotate_left
            · (have hq := HSX.out W hSw); (try simp only [List.getElem_toArray, List.getElem_cons_zero, List.getElem_cons_succ]); go_simp; any_goals (with_reducible rfl)
            simp only [Act.put, List.getElem_toArray, List.getElem_cons_zero, List.getElem_cons_succ, List.setIfInBounds_toArray, List.set_cons_zero, List.set_cons_succ]
            refine wpAnyH_take (i := 16) (v := ?_) rfl (by kernel_rfl) (by kernel_rfl) (by kernel_rfl) (fun _ _ _ h => h) (Or.inl ⟨by rfl, fun W hSw => ?_⟩) (by assumption) ?_
            rotate_left
            · (have hq := HSX.out W hSw); (try simp only [List.getElem_toArray, List.getElem_cons_zero, List.getElem_cons_succ]); go_simp; any_goals (with_reducible rfl)
            simp only [Act.put, List.getElem_toArray, List.getElem_cons_zero, List.getElem_cons_succ, List.setIfInBounds_toArray, List.set_cons_zero, List.set_cons_succ]
            refine wpAnyH_done (by kernel_rfl) ?_ _
            clear hHeld
            go_wp2_with fail
            go_roundw
            case rel =>
              refine ⟨i + 1, L2, by omega, by omega, by go_num, HOW5, HON5, Lib.hid ?_⟩
              have h1 := HL.out
              rcases HEN.out with ⟨h2, h3⟩ | ⟨h2, h3, h4⟩
              · exact .inl ⟨by omega, h3⟩
              · exact .inr ⟨by omega, by rw [h3]; exact h4⟩
            case measure => simp [intOf]; omega
        · obtain rfl : j = 0 := by omega
          have HEN : Hid ((i < n - 1 ∧ L2 = sunk ms x ms.length) ∨ (i + 1 = n ∧ L2 = sunk ms x p)) := Lib.hid (by
            have h1 := HL.out
            rcases HIN.out with ⟨h2, h3, h4⟩ | ⟨h2, h3, h4⟩
            · omega
            · obtain rfl : p = 0 := by omega
              exact .inr ⟨by omega, h4⟩)
          have hz0 : decide ((0 : Int) < 0) = false := rfl
          go_upto_region 4 with (fail)
          go_big_region
          go_wp2_with fail
          go_roundw
          case rel =>
            refine ⟨i + 1, L2, by omega, by omega, by go_num, Lib.hid (HOW.out.new (Mod.refl _ _).drew), Lib.hid (HON.out.drew), Lib.hid ?_⟩
            rcases HEN.out with ⟨h2, h3⟩ | ⟨h2, h3⟩
            · exact .inl ⟨by omega, h3⟩
            · exact .inr ⟨by omega, h3⟩
          case measure => simp [intOf]; omega
    · obtain rfl : i = n := by omega
      have HLL : Hid (L = sunk ms x p) := Lib.hid (by
        rcases HST.out with h | h
        · omega
        · exact h.2)
      go_wp2_with fail
      go_end0
      exact ⟨rfl, by rw [← HLL.out]; exact HOW.out, HON.out⟩

set_option maxRecDepth 100000 in
set_option maxHeartbeats 1000000 in
theorem pdq_ma (w : World) (B g n c : Nat) (lim : Int) (ms : List MA) (x : MA) (p : Nat) (ho : Own w B 49 7 MA.enc (some ⟨g, 0, none⟩) n c (ms ++ [x])) (hp : Place ms x p) (hn : n ≤ 12) :
    Calls Tryz.prog 104 #[.slice (some ⟨g, 0, none⟩) n c, .int .i64 0, .int .i64 n, .int .i64 lim, .func (.func 82) #[] #[]] w fun e w' => e = .returned (.tuple #[]) ∧ Own w' B 49 7 MA.enc (some ⟨g, 0, none⟩) n c (sunk ms x p) ∧ Only g w w' := by
  have hi := insSort_ma w B g n c ms x p ho hp (by omega)
  clear ho hp
  have hnz : (n : Int) ≤ 12 := by omega
  have hwr : IntKind.i64.wrap (n : Int) = (n : Int) := by rw [IntKind.wrap_i64]; omega
  go_enter Tryz.func104, Tryz.ntmps104
  go_wp2
  refine wp_loop_rounds 1 ?_
  rw [rounds_succ]
  go_wp2_with fail
  refine hi.mono ?_
  clear hi
  rintro e w2 ⟨rfl, h1, h2⟩
  have H1 := Lib.hid h1
  have H2 := Lib.hid h2
  clear h1 h2
  go_wp2_with fail
  (try simp only [Exit.inBlock, Exit.then])
  refine bodyPost_ret (results_none rfl _ _ _) rfl ?_
  exact ⟨rfl, H1.out, H2.out⟩
set_option maxRecDepth 100000 in
set_option maxHeartbeats 1000000 in
theorem sortFunc_ma (w : World) (B g n c : Nat) (ms : List MA) (x : MA) (p : Nat) (ho : Own w B 49 7 MA.enc (some ⟨g, 0, none⟩) n c (ms ++ [x])) (hp : Place ms x p) (hn : n ≤ 12) :
    Calls Tryz.prog 81 #[.slice (some ⟨g, 0, none⟩) n c, .func (.func 82) #[] #[]] w fun e w' => e = .returned (.tuple #[]) ∧ Own w' B 49 7 MA.enc (some ⟨g, 0, none⟩) n c (sunk ms x p) ∧ Only g w w' := by
  have hi := fun lim => pdq_ma w B g n c lim ms x p ho hp hn
  have hb := Tryz.bits_Len (n : Int) w (by omega) (by omega)
  clear ho hp
  have hwr : IntKind.u64.wrap (n : Int) = (n : Int) := by simp [IntKind.wrap, IntKind.bits, IntKind.signed]; omega
  go_enter Tryz.func81, Tryz.ntmps81
  go_wp2_with fail
  refine hb.mono ?_
  clear hb
  rintro e w2 ⟨rfl, rfl⟩
  go_wp2_with fail
  refine (hi _).mono ?_
  clear hi
  rintro e w3 ⟨rfl, h1, h2⟩
  have H1 := Lib.hid h1
  have H2 := Lib.hid h2
  clear h1 h2
  go_wp2_with fail
  go_end0
  exact ⟨rfl, H1.out, H2.out⟩

end Go.Proofs.YtahofcopedlenaaGreatDoor
