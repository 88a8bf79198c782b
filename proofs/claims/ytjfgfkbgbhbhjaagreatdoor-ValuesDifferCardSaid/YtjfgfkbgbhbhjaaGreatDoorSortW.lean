/- The reference: slices.SortFunc of members by name, where only the last one may be out of its place: any length (off the kit's own contract). Conditions: at most 100000 members. -/
import Derived.Test.YtjfgfkbgbhbhjaaGreatDoorChgMemGrp
import Derived.Test.YtjfgfkbgbhbhjaaGreatDoorShelf
import Derived.Test.YtjfgfkbgbhbhjaaGreatDoorHeldGrp
import Derived.Deep.RegionHeld3
import Derived.Shelf.SlSortCmp.InsertionK
namespace Go.Proofs.YtjfgfkbgbhbhjaaGreatDoor
open Go.RowKit Go.Shelf Go.Sort
set_option linter.unusedVariables false
set_option linter.unusedSimpArgs false

theorem enters_with2 (args : Array Value) (w : World) : (callFunc 77 args).run Tryz.prog w = .ok (.enter 77 args) w := by
  go_simp
set_option maxHeartbeats 1000000 in
theorem with2_g (a b : MA) (w : World) : Calls Tryz.prog 77 #[a.val, b.val] w fun e w' => e = .returned (.int .i64 (cmpB a.name b.name)) ∧ ∃ q os, w' = grow (w.drewN q) os := by
  have hsc := fun W => Tryz.strings_Compare a.name b.name W
  have HCB : Hid (cmpB a.name b.name = Lib.compareBytes a.name.data.toList b.name.data.toList) := Lib.hid rfl
  obtain ⟨xm, xk, xf, xn, xw, xla, xln, xlc, xma, xmn, xmc⟩ := a
  obtain ⟨ym, yk, yf, yn, yw, yla, yln, ylc, yma, ymn, ymc⟩ := b
  simp only at hsc HCB
  generalize cmpB xm ym = C at *
  generalize Lib.compareBytes xm.data.toList ym.data.toList = C2 at *
  have HG : Hid (∃ q os, (w.alloc (.cells #[.string xm, .int .i64 xk, .bool xf, .int .i64 xn, .string xw, .slice xla xln xlc, .slice xma xmn xmc] 54)).alloc (.cells #[.string ym, .int .i64 yk, .bool yf, .int .i64 yn, .string yw, .slice yla yln ylc, .slice yma ymn ymc] 54) = grow (w.drewN q) os) := Lib.hid ⟨0, _, by rw [alloc_eq_grow, alloc_eq_grow, grow_grow]; rfl⟩
  have hx := Blk.new w 54 #[.string xm, .int .i64 xk, .bool xf, .int .i64 xn, .string xw, .slice xla xln xlc, .slice xma xmn xmc]
  have z1 : (w.alloc (.cells #[.string xm, .int .i64 xk, .bool xf, .int .i64 xn, .string xw, .slice xla xln xlc, .slice xma xmn xmc] 54)).heap.size = w.heap.size + 1 := by simp
  go_enter Tryz.func77, Tryz.ntmps77
  go_upto_region 1 with (fail)
  generalize w.alloc (.cells #[.string xm, .int .i64 xk, .bool xf, .int .i64 xn, .string xw, .slice xla xln xlc, .slice xma xmn xmc] 54) = w1 at *
  have hy := Blk.new w1 54 #[.string ym, .int .i64 yk, .bool yf, .int .i64 yn, .string yw, .slice yla yln ylc, .slice yma ymn ymc]
  have hm2 : New w1 (w1.alloc (.cells #[.string ym, .int .i64 yk, .bool yf, .int .i64 yn, .string yw, .slice yla yln ylc, .slice yma ymn ymc] 54)) := (Mod.refl _ _).alloc _
  generalize w1.alloc (.cells #[.string ym, .int .i64 yk, .bool yf, .int .i64 yn, .string yw, .slice yla yln ylc, .slice yma ymn ymc] 54) = w2 at *
  rw [z1] at hy
  have hxx := hx.mod hm2 (fun e => e)
  have b0 := hxx.cell 0
  have bl := hxx.lt
  have c0 := hy.cell 0
  have cl := hy.lt
  simp only [List.getElem?_toArray, List.getElem?_cons_zero] at b0 c0
  clear hx hxx hy hm2 z1
  go_wp2_with fail
  refine (hsc _).mono ?_
  clear hsc
  rintro e w3 ⟨rfl, rfl⟩
  go_wp2_with fail
  go_ret
  exact ⟨ret_int HCB.out.symm, HG.out⟩
/-- x sunk to the place j -/
def sunk {α : Type} (ms : List α) (x : α) (j : Nat) : List α := ms.take j ++ x :: ms.drop j
theorem sunk_len {α : Type} (ms : List α) (x : α) (j : Nat) : (sunk ms x j).length = ms.length + 1 := by
  unfold sunk
  simp
  omega
/-- the members stand in order, x belongs at p -/
structure Place (ms : List MA) (x : MA) (p : Nat) : Prop where
  le : p ≤ ms.length
  srt : ∀ i j (h1 : i < ms.length) (h2 : j < ms.length), i < j → cmpB ms[i].name ms[j].name < 0
  low : ∀ i (h : i < ms.length), i < p → cmpB ms[i].name x.name < 0
  high : ∀ i (h : i < ms.length), p ≤ i → cmpB x.name ms[i].name < 0

/-- a member's cells in a row -/
abbrev mCells (m : MA) : List Value := encL 7 MA.enc m
theorem mCells_get (m : MA) (j : Nat) (hj : j < 7) : (mCells m)[j]! = MA.enc m j := by
  have : j < (mCells m).length := by rw [encL_length]; exact hj
  rw [getElem!_pos (mCells m) j this]
  simp [encL]
instance inhMA : Inhabited MA := ⟨⟨⟨#[]⟩, nilVA⟩⟩
theorem flatK_eq (d : Array MA) : (flatK mCells 7 d).toList = d.toList.flatMap (encL 7 MA.enc) := by
  apply List.ext_getElem
  · rw [flat_length]; simp
  · intro t h1 h2
    have ht : t < d.size * 7 := by simpa using h1
    have hi : t / 7 < d.size := by omega
    have e1 : (flatK mCells 7 d)[t]! = (mCells d[t / 7]!)[t % 7]! := get_flatK mCells 7 d t ht
    rw [getElem!_pos _ _ (by simpa using ht), mCells_get _ _ (by omega)] at e1
    have e2 := flat_get 7 MA.enc d.toList (t / 7) (by simpa using hi) (t % 7) (by omega)
    rw [show t / 7 * 7 + t % 7 = t by omega, List.getElem?_eq_getElem h2] at e2
    injection e2 with e2
    rw [e2, Array.getElem_toList, e1]
    simp [hi]
theorem holdsK_own {w : World} {B g n c : Nat} {xs : List MA} (h : Own w B 54 7 MA.enc (some ⟨g, 0, none⟩) n c xs) : HoldsK mCells 7 w g 0 xs.toArray := by
  intro t ht
  have ht2 : t < xs.length * 7 := by simpa using ht
  have hi : t / 7 < xs.length := by omega
  obtain ⟨g', o, hA, htb, hc⟩ := h.sl.2 (by have := h.1; omega)
  injection hA with hA
  injection hA with hA1 hA2
  subst hA1 hA2
  refine ⟨?_, h.frozen _⟩
  have h1 := hc (t / 7) hi (t % 7) (by omega)
  rw [show 0 + t / 7 * 7 + t % 7 = 0 + t by omega] at h1
  rw [h1, get_flatK mCells 7 _ t (by simpa using ht2), mCells_get _ _ (by omega)]
  simp [hi]
theorem own_putRowK {w : World} {B g n c q : Nat} {xs ys : List MA} {F : Array Value} (h : Own w B 54 7 MA.enc (some ⟨g, 0, none⟩) n c xs) (hy : ys.length = n) (hF : F.toList = ys.flatMap (encL 7 MA.enc)) :
    Own (putRow id (Sort.ahead w q) g 0 F) B 54 7 MA.enc (some ⟨g, 0, none⟩) n c ys ∧ Only g w (putRow id (Sort.ahead w q) g 0 F) := by
  obtain ⟨cur, hb, hB, hn, hc, hs, ht⟩ := h.row
  have hFs : F.size = n * 7 := by
    have : F.toList.length = n * 7 := by rw [hF, flat_length, hy]
    simpa using this
  have hle : n * 7 ≤ c * 7 := Nat.mul_le_mul_right 7 hn
  unfold Blk at hb
  constructor
  · refine Own.of_row (cur := putCells id 0 F cur) ?_ hB hn hc (by simpa [putCells] using hs) hy ?_
    · show (putRow id (Sort.ahead w q) g 0 F).heap[g]? = _
      simp [putRow, mapBlock, Sort.ahead, Array.getElem?_modify, hb, onCells]
    · rw [← hF]
      apply List.ext_getElem?
      intro j
      rw [List.getElem?_take, Array.getElem?_toList, Array.getElem?_toList]
      by_cases hj : j < n * 7
      · have hjc : j < cur.size := by omega
        rw [if_pos hj]
        simp only [putCells, Array.getElem?_mapIdx, Array.getElem?_eq_getElem hjc, Option.map_some]
        rw [if_pos (by omega)]
        simp [hFs, hj]
      · rw [if_neg hj, Array.getElem?_eq_none (by omega)]
  · refine ⟨rfl, rfl, rfl, by simp [putRow, mapBlock, Sort.ahead], fun k hk hne => ?_⟩
    simp [putRow, mapBlock, Sort.ahead, Array.getElem?_modify, show ¬ g = k from fun e => hne e.symm]
theorem own_sorted {w : World} {B g n c q : Nat} {os : Array Obj} {xs ys : List MA} (d : Array MA) (h : Own w B 54 7 MA.enc (some ⟨g, 0, none⟩) n c xs) (hd : d.toList = ys) (hy : ys.length = n) :
    Own (sortWorldK mCells 7 w g 0 q d os) B 54 7 MA.enc (some ⟨g, 0, none⟩) n c ys ∧ Only g w (sortWorldK mCells 7 w g 0 q d os) := by
  obtain ⟨h1, h2⟩ := own_putRowK (q := q) h hy (F := flatK mCells 7 d) (by rw [flatK_eq, hd])
  have hg : New (putRowK mCells 7 (Sort.ahead w q) g 0 d) (grow (putRowK mCells 7 (Sort.ahead w q) g 0 d) os) := ⟨rfl, rfl, rfl, by simp [grow], fun k hk _ => heap_grow_old _ _ hk⟩
  exact ⟨h1.new hg, h2.trans (hg.mono (fun _ _ e => e.elim))⟩

/-- names decide where members stand -/
theorem sunk_srt {ms : List MA} {x : MA} {p : Nat} (h : Place ms x p) : (sunk ms x p).Pairwise fun a b => cmpB a.name b.name < 0 := by
  unfold sunk
  have hms : ms.Pairwise fun a b => cmpB a.name b.name < 0 := List.pairwise_iff_getElem.2 (fun i j hi hj hij => h.srt i j hi hj hij)
  rw [List.pairwise_append, List.pairwise_cons]
  refine ⟨hms.sublist (List.take_sublist _ _), ⟨fun b hb => ?_, hms.sublist (List.drop_sublist _ _)⟩, fun a ha b hb => ?_⟩
  · obtain ⟨i, hi, rfl⟩ := List.getElem_of_mem hb
    rw [List.getElem_drop]
    exact h.high _ _ (by omega)
  · obtain ⟨i, hi, rfl⟩ := List.getElem_of_mem ha
    rw [List.getElem_take]
    simp only [List.length_take] at hi
    rcases List.mem_cons.1 hb with rfl | hb
    · exact h.low _ _ (by omega)
    · obtain ⟨j, hj, rfl⟩ := List.getElem_of_mem hb
      rw [List.getElem_drop]
      exact h.srt _ _ _ _ (by omega)
theorem sunk_perm (ms : List MA) (x : MA) (p : Nat) : (sunk ms x p).Perm (ms ++ [x]) := by
  unfold sunk
  have h1 : (ms.take p ++ x :: ms.drop p).Perm (x :: (ms.take p ++ ms.drop p)) := List.perm_middle
  rw [List.take_append_drop] at h1
  exact h1.trans (List.perm_append_singleton x ms).symm
theorem sorted_sunk {ms : List MA} {x : MA} {p : Nat} (h : Place ms x p) {l : List MA} (hp : l.Perm (ms ++ [x])) (hs : l.Pairwise fun a b => ¬ cmpB b.name a.name < 0) : l = sunk ms x p := by
  have hs2 := sunk_srt h
  have hpp : l.Perm (sunk ms x p) := hp.trans (sunk_perm ms x p).symm
  have hinj : ∀ a ∈ sunk ms x p, ∀ b ∈ sunk ms x p, cmpB a.name b.name = 0 → a = b := by
    intro a ha b hb e
    obtain ⟨i, hi, rfl⟩ := List.getElem_of_mem ha
    obtain ⟨j, hj, rfl⟩ := List.getElem_of_mem hb
    rcases Nat.lt_trichotomy i j with q | q | q
    · have := List.pairwise_iff_getElem.1 hs2 i j hi hj q
      omega
    · subst q; rfl
    · have := List.pairwise_iff_getElem.1 hs2 j i hj hi q
      rw [cmpB_swap] at this
      omega
  refine List.Perm.eq_of_pairwise (le := fun a b => ¬ cmpB b.name a.name < 0) (fun a b ha hb h1 h2 => ?_) hs (hs2.imp (fun {a b} q => by rw [cmpB_swap]; omega)) hpp
  have ha2 := hpp.mem_iff.1 ha
  refine hinj a ha2 b hb ?_
  rw [cmpB_swap] at h1
  omega
theorem swo_name : SWO (ltOf fun x y : MA => cmpB x.name y.name) where
  irrefl x := by simp [ltOf, cmpB_self]
  trans x y z h1 h2 := by
    simp only [ltOf, decide_eq_true_eq] at *
    exact cmpB_trans h1 h2
  ntrans x y z h1 h2 := by
    simp only [ltOf, decide_eq_false_iff_not] at *
    intro h3
    by_cases e : cmpB z.name y.name < 0
    · exact h1 (cmpB_trans h3 e)
    · have h4 : cmpB y.name z.name = 0 := by
        have := cmpB_swap y.name z.name
        omega
      have h5 := (cmpB_zero _ _).1 h4
      rw [← h5] at h3
      exact h1 h3
set_option maxHeartbeats 1000000 in
theorem sortFunc_ma (w : World) (B g n c : Nat) (ms : List MA) (x : MA) (p : Nat) (ho : Own w B 54 7 MA.enc (some ⟨g, 0, none⟩) n c (ms ++ [x])) (hp : Place ms x p) (hn : n ≤ 100000) :
    Calls Tryz.prog 76 #[.slice (some ⟨g, 0, none⟩) n c, .func (.func 77) #[] #[]] w fun e w' => e = .returned (.tuple #[]) ∧ Own w' B 54 7 MA.enc (some ⟨g, 0, none⟩) n c (sunk ms x p) ∧ Only g w w' := by
  have hl := ho.1
  have hlt : g < w.heap.size := by
    obtain ⟨cur, hb, -⟩ := ho.row
    exact hb.lt
  have h := Tryz.slices_SortFunc_mem 7 (fun w => by kernel_rfl) (fun w => by kernel_rfl) mCells (fun x => encL_length 7 MA.enc x) (fun y v hv => by
    simp only [encL, List.mem_map, List.mem_range] at hv
    obtain ⟨j, hj, rfl⟩ := hv
    exact MA.one y j hj) (fun x y : MA => cmpB x.name y.name) swo_name 77 #[] g 0 c (ms ++ [x]).toArray w enters_with2 (fun m os dk hdk a b => ?_) (holdsK_own ho) hlt (by simp at hl ⊢; omega)
  rotate_left
  · have h2 := with2_g a b (sortWorldK mCells 7 w g 0 m dk os)
    have e1 : ∀ a : MA, Value.agg (mCells a).toArray = a.val := fun a => by
      simp [encL, List.range_succ, List.range_zero, MA.enc, VA.enc]
    rw [e1, e1]
    exact h2
  have hsz : (ms ++ [x]).toArray.size = n := by simpa using hl
  rw [hsz] at h
  refine h.mono ?_
  rintro e w' ⟨rfl, d', q, os, ⟨hps, -, hpp⟩, hso, rfl⟩
  have hdn : d'.size = n := by rw [hps, hsz]
  have e1 : (d'.extract 0 n).toList = d'.toList := by simp; exact List.take_of_length_le (by simp [hdn])
  have e2 : ((ms ++ [x]).toArray.extract 0 n).toList = ms ++ [x] := by simp; exact List.take_of_length_le (by simp at hl ⊢; omega)
  rw [e1, e2] at hpp
  have hd := sorted_sunk hp hpp (List.pairwise_iff_getElem.2 (fun i j hi hj hij => by
    have hi2 : i < d'.size := by simpa using hi
    have hj2 : j < d'.size := by simpa using hj
    have h3 := hso i j (by omega) hij (by omega)
    rw [getElem!_pos d' i hi2, getElem!_pos d' j hj2] at h3
    simpa [ltOf] using h3))
  obtain ⟨h1, h2⟩ := own_sorted (q := q) (os := os) d' ho hd (by rw [sunk_len]; simpa using hl)
  exact ⟨rfl, h1, h2⟩
end Go.Proofs.YtjfgfkbgbhbhjaaGreatDoor
