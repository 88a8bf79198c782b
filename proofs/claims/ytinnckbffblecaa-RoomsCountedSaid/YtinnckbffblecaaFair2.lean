/- Fair shares, the whole: the level is looked for by halves, the rest is dealt out; the program and the reference do the same. Conditions: numbers that were checked. -/
import Derived.Test.YtinnckbffblecaaFair
namespace Go.Proofs.Ytinnckbffblecaa
open Go.RowKit

set_option maxHeartbeats 1000000 in
theorem ref_fairAt (xs ys : List Int) (v : Int) (A1 A2 : Option Addr) (n c1 c2 b1 b2 : Nat) (w : World) (h1 : IntSl w A1 n xs) (h2 : IntSl w A2 n ys) (hg : Good xs ys) (hv : 0 ≤ v) (hv2 : v ≤ 1000000000)
    (hb1 : Blk w b1 22 #[.slice A1 n c1]) (hb2 : Blk w b2 22 #[.slice A2 n c2]) :
    Calls Try.prog 43 #[.int .i64 v, .pointer (some ⟨b1, 0, none⟩), .pointer (some ⟨b2, 0, none⟩)] w (RShares w n (shareL xs ys v) (shareL xs ys v).sum) := by
  have l1 := h1.1
  have l2 := h2.1
  have hn := hg.2.1
  have cb1 := hb1.cell 0
  have cb2 := hb2.cell 0
  simp at cb1 cb2
  go_enter Try.func43, Try.ntmps43
  go_wp2_with fail
  go_loopw [6, 7, 8, 9, 12] (fun o s _ _ i wr => ∃ (k : Nat) (A : Option Addr) (c : Nat), k ≤ n ∧ i = .int .i64 k ∧ o = .slice A k c ∧ IntOwn wr w.heap.size A k c (shareL (xs.take k) (ys.take k) v) ∧
    s = .int .i64 (shareL (xs.take k) (ys.take k) v).sum ∧ New w wr) (fun _ _ _ _ i _ => n - (intOf i).toNat)
  case atStart => exact ⟨0, none, 0, Nat.zero_le _, rfl, rfl, Own.nil, rfl, Mod.refl _ _⟩
  case round =>
    obtain ⟨k, A, c, hk, rfl, rfl, hown, rfl, hm⟩ := hrel
    clear cb1 cb2
    by_cases hlt : k < n
    · obtain ⟨g1, o1, rfl, hg1, c1⟩ := IntSl.at (h1.new hm) hlt
      obtain ⟨g2, o2, rfl, hg2, c2⟩ := IntSl.at (h2.new hm) hlt
      have cb2 := (hb2.mod hm (fun h => h)).cell 0
      simp at cb2
      have HS := Lib.hid (shareL_take (a := xs) (b := ys) (k := k) v (by omega) (by omega))
      have hbd := share_bd hg v hv hv2 k (by omega)
      have hbd2 := share_bd hg v hv hv2 (k + 1) (by omega)
      have hx := hg.2.2.1 xs[k] (List.getElem_mem _)
      have hy := hg.2.2.2 (ys[k]'(by omega)) (List.getElem_mem _)
      have hyv := Int.mul_le_mul hy.2 hv2 hv (by omega)
      have hyv0 := Int.mul_nonneg (show 0 ≤ ys[k]'(by omega) by omega) hv
      generalize xs[k] = x at *
      generalize ys[k]'(by omega) = y at *
      rw [HS.out] at hbd2
      simp only [List.sum_append, List.sum_cons, List.sum_nil] at hbd2
      have hq1 : (0 : Int) ≤ k := by omega
      have hq2 : (k : Int) < n := by omega
      have hmn : -9000000000000000000 ≤ min x (y * v) ∧ min x (y * v) ≤ 1000000000 := by omega
      have hzl := hown.1
      generalize hzs : shareL (xs.take k) (ys.take k) v = zs at *
      clear hzs
      have hmsz := hm.size
      go_wp2_with (at_builtin; refine wpList_push rfl _ _ _ rfl 8 Try.underlying22 einfo_int rfl (hown.alloc _) (min x (y * v)) wr.heap.size rfl (Blk.new _ _ _) (fun _ _ => rfl) (by omega) (by omega) (by simp; omega) ?_; intro g cap w1 hown1 hm1 hat hlt1; obtain ⟨g', o', hA', -, c3⟩ := IntSl.at hown1.sl (show k < k + 1 by omega); (injection hA' with hA'; injection hA' with hA1 hA2; subst hA1 hA2); (rw [show (zs ++ [min x (y * v)])[k]'(by simp; omega) = min x (y * v) by simp [hzl]] at c3); (rw [Nat.zero_add] at c3); (have hq3 : (k : Int) < ((k + 1 : Nat) : Int) := by omega))
      have hm2 := (hown.alloc _).push_mod (hm.alloc _) hm1 (Nat.le_refl _)
      refine ⟨⟨k + 1, some ⟨g, 0, none⟩, cap, by omega, by go_num, rfl, by rw [HS.out]; exact hown1, by rw [HS.out]; simp, hm2⟩, by simp [intOf]; omega⟩
    · obtain rfl : k = n := by omega
      go_wp2_with fail
      go_ret2
      rw [List.take_of_length_le (by omega), List.take_of_length_le (by omega)] at *
      exact ⟨A, c, rfl, hown, hm⟩

/-- by halves -/
def srch (p : Int → Bool) : Nat → Int → Int → Int
  | 0, lo, _ => lo
  | f + 1, lo, hi => if 1 < hi - lo then (if p ((lo + hi) / 2) then srch p f ((lo + hi) / 2) hi else srch p f lo ((lo + hi) / 2)) else lo
theorem srch_end (p : Int → Bool) (f : Nat) (lo hi : Int) (h : ¬ 1 < hi - lo) : srch p f lo hi = lo := by
  cases f with
  | zero => rfl
  | succ f => unfold srch; rw [if_neg h]
theorem srch_yes (p : Int → Bool) (f : Nat) (lo hi : Int) (h : 1 < hi - lo) (hf : (hi - lo).toNat ≤ f) (hp : p ((lo + hi) / 2) = true) : ∃ f', (hi - (lo + hi) / 2).toNat ≤ f' ∧ srch p f' ((lo + hi) / 2) hi = srch p f lo hi := by
  obtain ⟨f', rfl⟩ : ∃ f', f = f' + 1 := ⟨f - 1, by omega⟩
  refine ⟨f', by omega, ?_⟩
  conv => rhs; unfold srch
  rw [if_pos h, if_pos hp]
theorem srch_no (p : Int → Bool) (f : Nat) (lo hi : Int) (h : 1 < hi - lo) (hf : (hi - lo).toNat ≤ f) (hp : p ((lo + hi) / 2) = false) : ∃ f', ((lo + hi) / 2 - lo).toNat ≤ f' ∧ srch p f' lo ((lo + hi) / 2) = srch p f lo hi := by
  obtain ⟨f', rfl⟩ : ∃ f', f = f' + 1 := ⟨f - 1, by omega⟩
  refine ⟨f', by omega, ?_⟩
  conv => rhs; unfold srch
  rw [if_pos h, if_neg (by simp [hp])]

/-- the rest, dealt out one by one -/
def tu (most : Int) (xs ys out : List Int) (s : Int) : Nat → List Int × Int
  | 0 => (out, s)
  | k + 1 => let p := tu most xs ys out s k
    let x := min (xs.getD k 0 - p.1.getD k 0) (min (ys.getD k 0) (most - p.2))
    (p.1.set k (p.1.getD k 0 + x), p.2 + x)

def fairLevel (most : Int) (xs ys : List Int) : Int := srch (fun t => decide ((shareL xs ys t).sum ≤ most)) 1000000000 0 1000000000
def fairL (most : Int) (xs ys : List Int) : List Int :=
  if (shareL xs ys 1000000000).sum ≤ most then shareL xs ys 1000000000
  else (tu most xs ys (shareL xs ys (fairLevel most xs ys)) (shareL xs ys (fairLevel most xs ys)).sum xs.length).1

theorem shareL_length {xs ys : List Int} (h : Good xs ys) (v : Int) : (shareL xs ys v).length = xs.length := by simp [shareL, h.1]
theorem shareL_get {xs ys : List Int} (h : Good xs ys) (v : Int) (hv : 0 ≤ v) (i : Nat) (hi : i < xs.length) : 0 ≤ (shareL xs ys v).getD i 0 ∧ (shareL xs ys v).getD i 0 ≤ xs.getD i 0 := by
  have hl := h.1
  have hx := h.2.2.1 xs[i] (List.getElem_mem _)
  have hy := h.2.2.2 (ys[i]'(by omega)) (List.getElem_mem _)
  have hm := Int.mul_nonneg (show 0 ≤ ys[i]'(by omega) by omega) hv
  have e : (shareL xs ys v).getD i 0 = min xs[i] (ys[i]'(by omega) * v) := by
    rw [List.getD_eq_getElem?_getD, List.getElem?_eq_getElem (by rw [shareL_length h]; exact hi)]
    simp [shareL]
  have e2 : xs.getD i 0 = xs[i] := by simp [List.getD_eq_getElem?_getD, hi]
  rw [e, e2]
  omega
theorem share_zero {xs ys : List Int} (h : Good xs ys) : (shareL xs ys 0).sum = 0 := by
  have hx := h.2.2.1
  clear h
  induction xs generalizing ys with
  | nil => simp [shareL]
  | cons x xs ih =>
    cases ys with
    | nil => simp [shareL]
    | cons y ys =>
      have := ih (ys := ys) (fun z hz => hx z (by simp [hz]))
      have := hx x (by simp)
      simp [shareL] at *
      omega

theorem tu_bd {most : Int} {xs ys out : List Int} {s : Int} (h : Good xs ys) (hl : out.length = xs.length) (hs0 : 0 ≤ s) (hs : s ≤ most) (ho : ∀ i, i < xs.length → 0 ≤ out.getD i 0 ∧ out.getD i 0 ≤ xs.getD i 0) (k : Nat) (hk : k ≤ xs.length) :
    (tu most xs ys out s k).1.length = xs.length ∧ 0 ≤ (tu most xs ys out s k).2 ∧ (tu most xs ys out s k).2 ≤ most ∧ ∀ i, k ≤ i → i < xs.length → 0 ≤ (tu most xs ys out s k).1.getD i 0 ∧ (tu most xs ys out s k).1.getD i 0 ≤ xs.getD i 0 := by
  induction k with
  | zero => exact ⟨hl, hs0, hs, fun i _ hi => ho i hi⟩
  | succ k ih =>
    obtain ⟨i1, i2, i3, i4⟩ := ih (by omega)
    have hk4 := i4 k (by omega) (by omega)
    have hy : 1 ≤ ys.getD k 0 := by
      have := h.2.2.2 (ys[k]'(by have := h.1; omega)) (List.getElem_mem _)
      rw [List.getD_eq_getElem?_getD, List.getElem?_eq_getElem (by have := h.1; omega)]
      simp; omega
    simp only [tu]
    refine ⟨by simpa using i1, by omega, by omega, fun i hki hi => ?_⟩
    have := i4 i (by omega) hi
    rw [List.getD_eq_getElem?_getD, List.getElem?_set_ne (by omega), ← List.getD_eq_getElem?_getD]
    exact this

theorem IntOwn.flat (xs : List Int) : xs.flatMap (encL 1 intEnc) = xs.map (Value.int .i64) := by
  induction xs with
  | nil => rfl
  | cons x xs ih => rw [List.flatMap_cons, ih]; rfl
theorem IntOwn.set {w : World} {B g n c : Nat} {xs : List Int} (h : IntOwn w B (some ⟨g, 0, none⟩) n c xs) (j : Nat) (u : Int) : IntOwn (w.setCell ⟨g, j, none⟩ (.int .i64 u)) B (some ⟨g, 0, none⟩) n c (xs.set j u) := by
  refine ⟨by simpa using h.1, ?_⟩
  have h2 := h.2
  rw [IntOwn.flat] at h2 ⊢
  rw [List.map_set]
  exact (h2.stored j _).1

theorem getD_at {xs : List Int} {k : Nat} (h : k < xs.length) : xs[k] = xs.getD k 0 := by simp [List.getD_eq_getElem?_getD, h]

def RFair (w : World) (n : Nat) (zs : List Int) (e : Ending) (w' : World) : Prop := ∃ A c, e = .returned (.tuple #[.slice A n c, .int .i64 0]) ∧ IntOwn w' w.heap.size A n c zs ∧ New w w'
def RInts (w : World) (n : Nat) (zs : List Int) (e : Ending) (w' : World) : Prop := ∃ A c, e = .returned (.slice A n c) ∧ IntOwn w' w.heap.size A n c zs ∧ New w w'

set_option maxHeartbeats 1000000 in
theorem limit_fair_no (most : Int) (xs ys : List Int) (A1 A2 : Option Addr) (n1 c1 n2 c2 : Nat) (w : World) (h1 : IntSl w A1 n1 xs) (h2 : IntSl w A2 n2 ys) (hn1 : n1 ≤ 1000000) (hn2 : n2 ≤ 1000000) (hf : fairFault most xs ys ≠ 0) :
    Calls Try.prog 15 #[.int .i64 most, .slice A1 n1 c1, .slice A2 n2 c2] w fun e w' => e = .returned (.tuple #[.slice none 0 0, .int .i64 (fairFault most xs ys)]) ∧ w = w' := by
  have hb : (fairFault most xs ys != 0) = true := by simpa using hf
  go_enter Try.func15, Try.ntmps15
  go_wp2_with fail
  refine (limit_shareFault most xs ys A1 A2 n1 c1 n2 c2 _ h1 h2 hn1 hn2).mono ?_
  rintro e w1 ⟨rfl, rfl⟩
  go_wp2_with fail
  go_ret2
  exact ⟨rfl, rfl⟩



set_option maxHeartbeats 4000000 in
theorem limit_fair_yes (most : Int) (xs ys : List Int) (A1 A2 : Option Addr) (n c1 c2 : Nat) (w : World) (h1 : IntSl w A1 n xs) (h2 : IntSl w A2 n ys) (hn1 : n ≤ 1000000) (hf : fairFault most xs ys = 0) :
    Calls Try.prog 15 #[.int .i64 most, .slice A1 n c1, .slice A2 n c2] w (RFair w n (fairL most xs ys)) := by
  obtain ⟨hg, hm0, hm1⟩ := Good.of hf
  have HFF := Lib.hid hf
  have l1 := h1.1
  have l2 := h2.1
  have hn := hg.2.1
  clear hf
  go_enter Try.func15, Try.ntmps15
  go_wp2_with fail
  refine (limit_shareFault most xs ys A1 A2 n c1 n c2 _ h1 h2 hn1 hn1).mono ?_
  rintro e w1 ⟨rfl, rfl⟩
  rw [HFF.out]
  go_wp2_with fail
  refine (limit_shares xs ys 1000000000 A1 A2 n c1 c2 _ h1 h2 hg (by omega) (by omega)).mono ?_
  rintro e w1 ⟨A, c, rfl, hown, hn1⟩
  by_cases hall : (shareL xs ys 1000000000).sum ≤ most
  · go_wp2_with fail
    go_ret2
    exact ⟨A, c, rfl, by unfold fairL; rw [if_pos hall]; exact hown, hn1⟩
  · have hall' : ¬ (shareL xs ys 1000000000).sum ≤ most := hall
    go_wp2_with fail
    have hfin : fairL most xs ys = (tu most xs ys (shareL xs ys (fairLevel most xs ys)) (shareL xs ys (fairLevel most xs ys)).sum n).1 := by unfold fairL; rw [if_neg (by omega), l1]
    have HFIN := Lib.hid hfin
    clear hfin hall hown
    go_loopw [11, 12, 13, 14, 15] (fun lo_ hi_ _ _ _ wr => ∃ (lo hi : Int) (f : Nat), lo_ = .int .i64 lo ∧ hi_ = .int .i64 hi ∧ 0 ≤ lo ∧ lo < hi ∧ hi ≤ 1000000000 ∧ (hi - lo).toNat ≤ f ∧
      srch (fun t => decide ((shareL xs ys t).sum ≤ most)) f lo hi = fairLevel most xs ys ∧ (shareL xs ys lo).sum ≤ most ∧ New w wr) (fun lo hi _ _ _ _ => (intOf hi - intOf lo).toNat)
    case atStart => exact ⟨0, 1000000000, 1000000000, rfl, rfl, by omega, by omega, by omega, by omega, rfl, by rw [share_zero hg]; omega, hn1⟩
    case round =>
      obtain ⟨lo, hi, f, rfl, rfl, hlo, hlh, hhi, hff, hsr, hps, hm⟩ := hrel
      have HF := Lib.hid hff
      have HSR := Lib.hid hsr
      have HPS := Lib.hid hps
      clear hff hsr hps
      by_cases hgo : 1 < hi - lo
      · go_wp2_with fail
        refine (limit_shares xs ys ((lo + hi) / 2) A1 A2 n c1 c2 _ (h1.new hm) (h2.new hm) hg (by omega) (by omega)).mono ?_
        rintro e w2 ⟨A, c, rfl, -, hn2⟩
        have hm2 := hm.trans hn2
        by_cases hp : (shareL xs ys ((lo + hi) / 2)).sum ≤ most
        · obtain ⟨f', hf', hsr'⟩ := srch_yes (fun t => decide ((shareL xs ys t).sum ≤ most)) f lo hi hgo HF.out (by simpa using hp)
          have HSR' := Lib.hid hsr'
          clear hsr'
          go_wp2_with fail
          go_roundw
          case rel => exact ⟨(lo + hi) / 2, hi, f', rfl, rfl, by omega, by omega, by omega, hf', HSR'.out.trans HSR.out, hp, hm2⟩
          case measure => simp [intOf]; omega
        · obtain ⟨f', hf', hsr'⟩ := srch_no (fun t => decide ((shareL xs ys t).sum ≤ most)) f lo hi hgo HF.out (by simpa using hp)
          have HSR' := Lib.hid hsr'
          clear hsr'
          go_wp2_with fail
          go_roundw
          case rel => exact ⟨lo, (lo + hi) / 2, f', rfl, rfl, by omega, by omega, by omega, hf', HSR'.out.trans HSR.out, HPS.out, hm2⟩
          case measure => simp [intOf]; omega
      · have hlev : fairLevel most xs ys = lo := by rw [← HSR.out, srch_end _ _ _ _ hgo]
        have HFIN' := Lib.hid (show fairL most xs ys = (tu most xs ys (shareL xs ys lo) (shareL xs ys lo).sum n).1 by rw [HFIN.out, hlev])
        clear hlev HSR HF HFIN
        go_wp2_with fail
        refine (limit_shares xs ys lo A1 A2 n c1 c2 _ (h1.new hm) (h2.new hm) hg (by omega) (by omega)).mono ?_
        rintro e w2 ⟨A, c, rfl, hown, hn2⟩
        have hm2 := hm.trans hn2
        have hbd := share_bd hg lo (by omega) (by omega) n (by omega)
        rw [List.take_of_length_le (by omega), List.take_of_length_le (by omega)] at hbd
        have hps := HPS.out
        have hown := hown.less hm.size
        have HT := Lib.hid (tu_bd (most := most) (out := shareL xs ys lo) hg (shareL_length hg lo) hbd.1 hps (fun i hi => shareL_get hg lo (by omega) i hi))
        go_wp2_with fail
        go_loopw [10, 16, 17, 18, 65] (fun s _ _ _ i wr => ∃ k : Nat, k ≤ n ∧ i = .int .i64 k ∧ s = .int .i64 (tu most xs ys (shareL xs ys lo) (shareL xs ys lo).sum k).2 ∧
          IntOwn wr w.heap.size A n c (tu most xs ys (shareL xs ys lo) (shareL xs ys lo).sum k).1 ∧ New w wr) (fun _ _ _ _ i _ => n - (intOf i).toNat)
        case atStart => exact ⟨0, Nat.zero_le _, rfl, rfl, hown, hm2⟩
        case round =>
          obtain ⟨k, hk, rfl, rfl, hownk, hmk⟩ := hrel
          have hT := HT.out k (by omega)
          by_cases hlt : k < n
          · obtain ⟨g1, o1, rfl, hg1, c1⟩ := IntSl.at (h1.new hmk) hlt
            obtain ⟨g2, o2, rfl, hg2, c2⟩ := IntSl.at (h2.new hmk) hlt
            obtain ⟨g3, rfl, hB3, hg3, hc3⟩ := hownk.form (by omega)
            have hlen3 := hownk.1
            have c3 := hownk.sl.2 (by omega)
            obtain ⟨g3', o3', hA3, -, c3⟩ := c3
            have c3 := c3 k (by omega) 0 (by omega)
            injection hA3 with hA3
            injection hA3 with hA3 hA4
            subst hA3 hA4
            have f3 := hownk.2.frozenAt k
            rw [getD_at (by omega)] at c1 c2 c3
            have hT4 := hT.2.2.2 k (by omega) (by omega)
            have hx := hg.2.2.1 (xs[k]'(by omega)) (List.getElem_mem _)
            have hy := hg.2.2.2 (ys[k]'(by omega)) (List.getElem_mem _)
            rw [getD_at (by omega)] at hx hy
            have hsu : tu most xs ys (shareL xs ys lo) (shareL xs ys lo).sum (k + 1) = ((tu most xs ys (shareL xs ys lo) (shareL xs ys lo).sum k).1.set k ((tu most xs ys (shareL xs ys lo) (shareL xs ys lo).sum k).1.getD k 0 + min (xs.getD k 0 - (tu most xs ys (shareL xs ys lo) (shareL xs ys lo).sum k).1.getD k 0) (min (ys.getD k 0) (most - (tu most xs ys (shareL xs ys lo) (shareL xs ys lo).sum k).2))), (tu most xs ys (shareL xs ys lo) (shareL xs ys lo).sum k).2 + min (xs.getD k 0 - (tu most xs ys (shareL xs ys lo) (shareL xs ys lo).sum k).1.getD k 0) (min (ys.getD k 0) (most - (tu most xs ys (shareL xs ys lo) (shareL xs ys lo).sum k).2))) := rfl
            have HSU := Lib.hid hsu
            clear hsu
            have hT2 := hT.2.1
            have hT3 := hT.2.2.1
            clear hT
            generalize tu most xs ys (shareL xs ys lo) (shareL xs ys lo).sum k = T at *
            generalize xs.getD k 0 = x at *
            generalize ys.getD k 0 = y at *
            simp only [Nat.zero_add, Nat.mul_one, Nat.add_zero, intEnc] at c3
            generalize T.1.getD k 0 = z at *
            have hq1 : (0 : Int) ≤ k := by omega
            have hq2 : (k : Int) < n := by omega
            have e1 : IntKind.i64.wrap (x - z) = x - z := IntWalk.i64_in _ (by omega)
            have e2 : IntKind.i64.wrap (most - T.2) = most - T.2 := IntWalk.i64_in _ (by omega)
            have e3 : (if most - T.2 < (if y < x - z then y else x - z) then most - T.2 else (if y < x - z then y else x - z)) = min (x - z) (min y (most - T.2)) := by omega
            go_wp2_with fail
            go_quiet (fail)
            clear e1 e2 e3
            have hmn : -1000000000000 ≤ min (x - z) (min y (most - T.2)) ∧ min (x - z) (min y (most - T.2)) ≤ 1000000000 := by omega
            go_wp2_with fail
            refine ⟨⟨k + 1, by omega, by go_num, by rw [HSU.out], ?_, ?_⟩, by simp [intOf]; omega⟩
            · rw [HSU.out]
              exact IntOwn.set (hownk.drewN _) k _
            · exact (hmk.drewN _).setCell (p := ⟨g3, k, none⟩) (.inr hB3) _
          · obtain rfl : k = n := by omega
            go_wp2_with fail
            go_ret2
            exact ⟨A, c, rfl, by rw [HFIN'.out]; exact hownk, hmk⟩

end Go.Proofs.Ytinnckbffblecaa
