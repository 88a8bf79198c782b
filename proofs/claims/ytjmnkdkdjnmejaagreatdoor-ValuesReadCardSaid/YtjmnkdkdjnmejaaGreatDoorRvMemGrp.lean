/- Several texts in one. (1) Reading values: what is open, in memory: the program's stack of boxes, each with its rows and its map of names. No program is walked. No conditions. (2) Reading values: slices.SortFunc of members by name, any length, with the program's comparison and with the reference's (off the kit's own contract). Printed by mkrvsort.py out of XSortW. Conditions: at most 1000000 members. (3) Reading values: members in the order of their names. No program is walked. No conditions. -/
import Derived.Test.YtjmnkdkdjnmejaaGreatDoorRvLaw
import Derived.Test.YtjmnkdkdjnmejaaGreatDoorVal1Grp
import Derived.Test.YtjmnkdkdjnmejaaGreatDoorMapsGrp
import Derived.Test.YtjmnkdkdjnmejaaGreatDoorVal8Grp
import Derived.Test.YtjmnkdkdjnmejaaGreatDoorShelf
import Derived.Test.YtjmnkdkdjnmejaaGreatDoorHeldGrp
import Derived.Deep.RegionHeld3
import Derived.Shelf.SlSortCmp.InsertionK

namespace Go.Proofs.YtjmnkdkdjnmejaaGreatDoor
open Go.RowKit
set_option linter.unusedVariables false
set_option linter.unusedSimpArgs false

/-- an open box in memory -/
structure OF where
  b : Nat
  la : Option Addr
  ln : Nat
  lc : Nat
  ma : Option Addr
  mn : Nat
  mc : Nat
  name : ByteArray
  mp : Option Nat
def OF.va (o : OF) (m : Bool) : VA := ⟨if m then 5 else 4, false, 0, ⟨#[]⟩, o.la, o.ln, o.lc, o.ma, o.mn, o.mc⟩
def OF.cells (o : OF) (m : Bool) : Array Value := #[.int .i64 (if m then 5 else 4), .bool false, .int .i64 0, .string ⟨#[]⟩, .slice o.la o.ln o.lc, .slice o.ma o.mn o.mc, .string o.name, .map o.mp]
def OF.own (o : OF) : List Nat := o.b :: ((blkOf o.la).toList ++ (blkOf o.ma).toList ++ o.mp.toList)
def ownL (os : List OF) : List Nat := os.flatMap OF.own
def seenF (l : List ByteArray) : ByteArray → Value := fun n => .bool (l.any fun a => decide (a = n))
/-- the names that a box has seen -/
def RFr.seen (f : RFr) (pend : Bool) : List ByteArray := f.mems.map (·.1) ++ if pend then [f.name] else []
/-- trees, one for each value -/
def Kids1 (w : World) (G : Nat → Prop) (d : Nat) (xs : List VA) (vs : List VT) : Prop := xs.length = vs.length ∧ ∀ i (h : i < xs.length) (h' : i < vs.length), Tree w G d xs[i] vs[i]
def KidsM (w : World) (G : Nat → Prop) (d : Nat) (ms : List MA) (ps : List (ByteArray × VT)) : Prop := ms.length = ps.length ∧ ∀ i (h : i < ms.length) (h' : i < ps.length), ms[i].name = ps[i].1 ∧ Tree w G d ms[i].v ps[i].2
structure FrameAt (w : World) (B d : Nat) (G : Nat → Prop) (pend : Bool) (f : RFr) (o : OF) : Prop where
  blk : Blk w o.b 88 (o.cells f.mem)
  hB : B ≤ o.b
  its : ∃ xs, Own w B 30 6 VA.enc o.la o.ln o.lc xs ∧ Kids1 w G d xs f.items
  mes : ∃ ms, Own w B 60 7 MA.enc o.ma o.mn o.mc ms ∧ KidsM w G d ms f.mems
  map : if f.mem then ∃ g, o.mp = some g ∧ B ≤ g ∧ FMap strKeys w g (.bool false) (seenF (f.seen pend)) ∧ (f.seen pend).Nodup else o.mp = none
  nm : f.mem = true → pend = true → o.name = f.name
def Frs (w : World) (B d : Nat) (G : Nat → Prop) : Bool → List RFr → List OF → Prop
  | _, [], [] => True
  | pend, f :: r, o :: q => FrameAt w B d G pend f o ∧ Frs w B d G true r q
  | _, _, _ => False
section
variable {w w' : World} {B d : Nat} {G G' S : Nat → Prop} {pend : Bool} {f : RFr} {o : OF}
theorem Kids1.mod {xs : List VA} {vs : List VT} (h : Kids1 w G d xs vs) (hm : Mod S w w') (hs : ∀ g, G g → (TB w g 30 ∨ TB w g 60) → ¬ S g) : Kids1 w' G d xs vs := ⟨h.1, fun i hi hi' => Tree.mod hm hs _ _ _ (h.2 i hi hi')⟩
theorem KidsM.mod {ms : List MA} {ps : List (ByteArray × VT)} (h : KidsM w G d ms ps) (hm : Mod S w w') (hs : ∀ g, G g → (TB w g 30 ∨ TB w g 60) → ¬ S g) : KidsM w' G d ms ps := ⟨h.1, fun i hi hi' => ⟨(h.2 i hi hi').1, Tree.mod hm hs _ _ _ (h.2 i hi hi').2⟩⟩
theorem Kids1.imp {xs : List VA} {vs : List VT} (h : Kids1 w G d xs vs) (hG : ∀ g, G g → g < w.heap.size → G' g) : Kids1 w G' d xs vs := ⟨h.1, fun i hi hi' => Tree.imp hG _ _ _ (h.2 i hi hi')⟩
theorem KidsM.imp {ms : List MA} {ps : List (ByteArray × VT)} (h : KidsM w G d ms ps) (hG : ∀ g, G g → g < w.heap.size → G' g) : KidsM w G' d ms ps := ⟨h.1, fun i hi hi' => ⟨(h.2 i hi hi').1, Tree.imp hG _ _ _ (h.2 i hi hi').2⟩⟩
theorem Kids1.upto {xs : List VA} {vs : List VT} (h : Kids1 w G d xs vs) {d' : Nat} (hd : d ≤ d') : Kids1 w G d' xs vs := ⟨h.1, fun i hi hi' => Tree.upto hd (h.2 i hi hi')⟩
theorem KidsM.upto {ms : List MA} {ps : List (ByteArray × VT)} (h : KidsM w G d ms ps) {d' : Nat} (hd : d ≤ d') : KidsM w G d' ms ps := ⟨h.1, fun i hi hi' => ⟨(h.2 i hi hi').1, Tree.upto hd (h.2 i hi hi').2⟩⟩
theorem Kids1.push {xs : List VA} {vs : List VT} (h : Kids1 w G d xs vs) {x : VA} {v : VT} (hx : Tree w G d x v) : Kids1 w G d (xs ++ [x]) (vs ++ [v]) := by
  refine ⟨by simp [h.1], fun i hi hi' => ?_⟩
  have hl := h.1
  by_cases hc : i < xs.length
  · rw [List.getElem_append_left hc, List.getElem_append_left (by omega)]
    exact h.2 i hc (by omega)
  · simp only [List.length_append, List.length_cons, List.length_nil] at hi
    obtain rfl : i = xs.length := by omega
    simp only [List.getElem_append_right (Nat.le_refl xs.length), Nat.sub_self, lgz]
    rw [List.getElem_append_right (by omega)]
    simpa [hl] using hx
theorem KidsM.push {ms : List MA} {ps : List (ByteArray × VT)} (h : KidsM w G d ms ps) {n : ByteArray} {x : VA} {v : VT} (hx : Tree w G d x v) : KidsM w G d (ms ++ [⟨n, x⟩]) (ps ++ [(n, v)]) := by
  refine ⟨by simp [h.1], fun i hi hi' => ?_⟩
  have hl := h.1
  by_cases hc : i < ms.length
  · rw [List.getElem_append_left hc, List.getElem_append_left (by omega)]
    exact h.2 i hc (by omega)
  · simp only [List.length_append, List.length_cons, List.length_nil] at hi
    obtain rfl : i = ms.length := by omega
    rw [List.getElem_append_right (Nat.le_refl ms.length), List.getElem_append_right (by omega)]
    simp only [hl, Nat.sub_self, lgz]
    exact ⟨trivial, hx⟩
theorem FrameAt.mod (h : FrameAt w B d G pend f o) (hm : Mod S w w') (hs : ∀ g ∈ o.own, ¬ S g) (ht : ∀ g, G g → (TB w g 30 ∨ TB w g 60) → ¬ S g) : FrameAt w' B d G pend f o := by
  obtain ⟨xs, h1, h2⟩ := h.its
  obtain ⟨ms, h3, h4⟩ := h.mes
  refine ⟨h.blk.mod hm (hs _ (by simp [OF.own])), h.hB, ⟨xs, h1.mod hm (fun g hg => hs g (by simp [OF.own, hg])), h2.mod hm ht⟩, ⟨ms, h3.mod hm (fun g hg => hs g (by simp [OF.own, hg])), h4.mod hm ht⟩, ?_, h.nm⟩
  have h5 := h.map
  split
  · rename_i hc
    rw [if_pos hc] at h5
    obtain ⟨g, e1, e2, e3, e4⟩ := h5
    exact ⟨g, e1, e2, e3.mod hm (hs g (by simp [OF.own, e1])), e4⟩
  · rename_i hc
    rwa [if_neg hc] at h5
theorem FrameAt.imp (h : FrameAt w B d G pend f o) (hG : ∀ g, G g → g < w.heap.size → G' g) : FrameAt w B d G' pend f o := by
  obtain ⟨xs, h1, h2⟩ := h.its
  obtain ⟨ms, h3, h4⟩ := h.mes
  exact ⟨h.blk, h.hB, ⟨xs, h1, h2.imp hG⟩, ⟨ms, h3, h4.imp hG⟩, h.map, h.nm⟩
theorem FrameAt.upto (h : FrameAt w B d G pend f o) {d' : Nat} (hd : d ≤ d') : FrameAt w B d' G pend f o := by
  obtain ⟨xs, h1, h2⟩ := h.its
  obtain ⟨ms, h3, h4⟩ := h.mes
  exact ⟨h.blk, h.hB, ⟨xs, h1, h2.upto hd⟩, ⟨ms, h3, h4.upto hd⟩, h.map, h.nm⟩
theorem Frs.mod (hm : Mod S w w') (ht : ∀ g, G g → (TB w g 30 ∨ TB w g 60) → ¬ S g) : ∀ (pend : Bool) (st : List RFr) (os : List OF), (∀ g ∈ ownL os, ¬ S g) → Frs w B d G pend st os → Frs w' B d G pend st os
  | _, [], [], _, h => h
  | pend, f :: r, o :: q, hs, h => ⟨h.1.mod hm (fun g hg => hs g (by simp [ownL, hg])) ht, Frs.mod hm ht true r q (fun g hg => hs g (by simp only [ownL, List.flatMap_cons, List.mem_append]; exact .inr hg)) h.2⟩
  | _, [], _ :: _, _, h => h.elim
  | _, _ :: _, [], _, h => h.elim
theorem Frs.imp (hG : ∀ g, G g → g < w.heap.size → G' g) : ∀ (pend : Bool) (st : List RFr) (os : List OF), Frs w B d G pend st os → Frs w B d G' pend st os
  | _, [], [], h => h
  | _, f :: r, o :: q, h => ⟨h.1.imp hG, Frs.imp hG true r q h.2⟩
  | _, [], _ :: _, h => h.elim
  | _, _ :: _, [], h => h.elim
theorem Frs.upto {d' : Nat} (hd : d ≤ d') : ∀ (pend : Bool) (st : List RFr) (os : List OF), Frs w B d G pend st os → Frs w B d' G pend st os
  | _, [], [], h => h
  | _, f :: r, o :: q, h => ⟨h.1.upto hd, Frs.upto hd true r q h.2⟩
  | _, [], _ :: _, h => h.elim
  | _, _ :: _, [], h => h.elim
theorem Frs.len : ∀ (pend : Bool) (st : List RFr) (os : List OF), Frs w B d G pend st os → st.length = os.length
  | _, [], [], h => rfl
  | _, f :: r, o :: q, h => by simp [Frs.len true r q h.2]
  | _, [], _ :: _, h => h.elim
  | _, _ :: _, [], h => h.elim
end

/-- the reader's own cells -/
structure RV where
  i : Nat
  sk : Option Addr
  sn : Nat
  sc : Nat
  begins : Bool
  done : Bool
  out : VA
  bad : Bool
  pl : Int
def RV.cells (s : ByteArray) (r : RV) : Array Value := #[.string s, .int .i64 (r.i : Int), .slice r.sk r.sn r.sc, .bool r.begins, .bool r.done, .int .i64 r.out.kind, .bool r.out.flag, .int .i64 r.out.num, .string r.out.words, .slice r.out.la r.out.ln r.out.lc, .slice r.out.ma r.out.mn r.out.mc, .bool r.bad, .int .i64 r.pl]
def ptrE (g : Nat) : Nat → Value := fun _ => .pointer (some ⟨g, 0, none⟩)
def notIn (B : Nat) (L : List Nat) : Nat → Prop := fun g => B ≤ g ∧ g ∉ L
/-- the reader and all that is open -/
structure RdAt (w : World) (B b : Nat) (s : ByteArray) (r : RV) (pend : Bool) (st : List RFr) (os : List OF) : Prop where
  rd : Blk w b 49 (r.cells s)
  hB : B ≤ b
  sk : Own w B 89 1 ptrE r.sk r.sn r.sc (os.reverse.map (·.b))
  fr : Frs w B r.i (notIn B (ownL os)) pend st os
  nd : (ownL os).Nodup
  hi : r.i ≤ s.size
/-- what a step may turn: blocks from B on -/
def From (B : Nat) : Nat → Prop := fun g => B ≤ g
end Go.Proofs.YtjmnkdkdjnmejaaGreatDoor

namespace Go.Proofs.YtjmnkdkdjnmejaaGreatDoor
open Go.RowKit Go.Shelf Go.Sort
set_option linter.unusedVariables false
set_option linter.unusedSimpArgs false

theorem enters_end1 (args : Array Value) (w : World) : (callFunc 71 args).run Tryz.prog w = .ok (.enter 71 args) w := by
  go_simp
set_option maxHeartbeats 1000000 in
theorem end1_g (a b : MA) (w : World) : Calls Tryz.prog 71 #[a.val, b.val] w fun e w' => e = .returned (.int .i64 (cmpB a.name b.name)) ∧ ∃ q os, w' = grow (w.drewN q) os := by
  have hsc := fun W => Tryz.strings_Compare a.name b.name W
  have HCB : Hid (cmpB a.name b.name = Lib.compareBytes a.name.data.toList b.name.data.toList) := hId rfl
  obtain ⟨xm, xk, xf, xn, xw, xla, xln, xlc, xma, xmn, xmc⟩ := a
  obtain ⟨ym, yk, yf, yn, yw, yla, yln, ylc, yma, ymn, ymc⟩ := b
  simp only at hsc HCB
  generalize cmpB xm ym = C at *
  generalize Lib.compareBytes xm.data.toList ym.data.toList = C2 at *
  have HG : Hid (∃ q os, (w.alloc (.cells #[.string xm, .int .i64 xk, .bool xf, .int .i64 xn, .string xw, .slice xla xln xlc, .slice xma xmn xmc] 60)).alloc (.cells #[.string ym, .int .i64 yk, .bool yf, .int .i64 yn, .string yw, .slice yla yln ylc, .slice yma ymn ymc] 60) = grow (w.drewN q) os) := hId ⟨0, _, by rw [alloc_eq_grow, alloc_eq_grow, grow_grow]; rfl⟩
  have hx := Blk.new w 60 #[.string xm, .int .i64 xk, .bool xf, .int .i64 xn, .string xw, .slice xla xln xlc, .slice xma xmn xmc]
  have z1 : (w.alloc (.cells #[.string xm, .int .i64 xk, .bool xf, .int .i64 xn, .string xw, .slice xla xln xlc, .slice xma xmn xmc] 60)).heap.size = w.heap.size + 1 := by simp
  go_enter Tryz.func71, Tryz.ntmps71
  go_upto_region 1 with (fail)
  generalize w.alloc (.cells #[.string xm, .int .i64 xk, .bool xf, .int .i64 xn, .string xw, .slice xla xln xlc, .slice xma xmn xmc] 60) = w1 at *
  have hy := Blk.new w1 60 #[.string ym, .int .i64 yk, .bool yf, .int .i64 yn, .string yw, .slice yla yln ylc, .slice yma ymn ymc]
  have hm2 : New w1 (w1.alloc (.cells #[.string ym, .int .i64 yk, .bool yf, .int .i64 yn, .string yw, .slice yla yln ylc, .slice yma ymn ymc] 60)) := (Mod.refl _ _).alloc _
  generalize w1.alloc (.cells #[.string ym, .int .i64 yk, .bool yf, .int .i64 yn, .string yw, .slice yla yln ylc, .slice yma ymn ymc] 60) = w2 at *
  rw [z1] at hy
  have hxx := hx.mod hm2 (fun e => e)
  have b0 := hxx.cell 0
  have bl := hxx.lt
  have c0 := hy.cell 0
  have cl := hy.lt
  simp only [lqt, lqz] at b0 c0
  clear hx hxx hy hm2 z1
  go_wp2_with fail
  refine (hsc _).mono ?_
  clear hsc
  rintro e w3 ⟨rfl, rfl⟩
  go_wp2_with fail
  go_ret
  exact ⟨ret_int HCB.out.symm, HG.out⟩
theorem enters_val3 (args : Array Value) (w : World) : (callFunc 46 args).run Tryz.prog w = .ok (.enter 46 args) w := by
  go_simp
set_option maxHeartbeats 1000000 in
theorem val3_g (a b : MA) (w : World) : Calls Tryz.prog 46 #[a.val, b.val] w fun e w' => e = .returned (.int .i64 (cmpB a.name b.name)) ∧ ∃ q os, w' = grow (w.drewN q) os := by
  have hsc := fun W => Tryz.strings_Compare a.name b.name W
  have HCB : Hid (cmpB a.name b.name = Lib.compareBytes a.name.data.toList b.name.data.toList) := hId rfl
  obtain ⟨xm, xk, xf, xn, xw, xla, xln, xlc, xma, xmn, xmc⟩ := a
  obtain ⟨ym, yk, yf, yn, yw, yla, yln, ylc, yma, ymn, ymc⟩ := b
  simp only at hsc HCB
  generalize cmpB xm ym = C at *
  generalize Lib.compareBytes xm.data.toList ym.data.toList = C2 at *
  have HG : Hid (∃ q os, (w.alloc (.cells #[.string xm, .int .i64 xk, .bool xf, .int .i64 xn, .string xw, .slice xla xln xlc, .slice xma xmn xmc] 60)).alloc (.cells #[.string ym, .int .i64 yk, .bool yf, .int .i64 yn, .string yw, .slice yla yln ylc, .slice yma ymn ymc] 60) = grow (w.drewN q) os) := hId ⟨0, _, by rw [alloc_eq_grow, alloc_eq_grow, grow_grow]; rfl⟩
  have hx := Blk.new w 60 #[.string xm, .int .i64 xk, .bool xf, .int .i64 xn, .string xw, .slice xla xln xlc, .slice xma xmn xmc]
  have z1 : (w.alloc (.cells #[.string xm, .int .i64 xk, .bool xf, .int .i64 xn, .string xw, .slice xla xln xlc, .slice xma xmn xmc] 60)).heap.size = w.heap.size + 1 := by simp
  go_enter Tryz.func46, Tryz.ntmps46
  go_upto_region 1 with (fail)
  generalize w.alloc (.cells #[.string xm, .int .i64 xk, .bool xf, .int .i64 xn, .string xw, .slice xla xln xlc, .slice xma xmn xmc] 60) = w1 at *
  have hy := Blk.new w1 60 #[.string ym, .int .i64 yk, .bool yf, .int .i64 yn, .string yw, .slice yla yln ylc, .slice yma ymn ymc]
  have hm2 : New w1 (w1.alloc (.cells #[.string ym, .int .i64 yk, .bool yf, .int .i64 yn, .string yw, .slice yla yln ylc, .slice yma ymn ymc] 60)) := (Mod.refl _ _).alloc _
  generalize w1.alloc (.cells #[.string ym, .int .i64 yk, .bool yf, .int .i64 yn, .string yw, .slice yla yln ylc, .slice yma ymn ymc] 60) = w2 at *
  rw [z1] at hy
  have hxx := hx.mod hm2 (fun e => e)
  have b0 := hxx.cell 0
  have bl := hxx.lt
  have c0 := hy.cell 0
  have cl := hy.lt
  simp only [lqt, lqz] at b0 c0
  clear hx hxx hy hm2 z1
  go_wp2_with fail
  refine (hsc _).mono ?_
  clear hsc
  rintro e w3 ⟨rfl, rfl⟩
  go_wp2_with fail
  go_ret
  exact ⟨ret_int HCB.out.symm, HG.out⟩
def VA.zero : VA := ⟨0, false, 0, ⟨#[]⟩, none, 0, 0, none, 0, 0⟩
abbrev mCells (m : MA) : List Value := encL 7 MA.enc m
theorem mCells_get (m : MA) (j : Nat) (hj : j < 7) : (mCells m)[j]! = MA.enc m j := by
  have : j < (mCells m).length := by rw [encL_length]; exact hj
  rw [getElem!_pos (mCells m) j this]
  simp [encL]
instance inhMA : Inhabited MA := ⟨⟨⟨#[]⟩, VA.zero⟩⟩
theorem flatK_eq (d : Array MA) : (flatK mCells 7 d).toList = d.toList.flatMap (encL 7 MA.enc) := by
  apply List.ext_getElem
  · rw [flat_length]; simp
  · intro t h1 h2
    have ht : t < d.size * 7 := by simpa using h1
    have hi : t / 7 < d.size := by omega
    have e1 : (flatK mCells 7 d)[t]! = (mCells d[t / 7]!)[t % 7]! := get_flatK mCells 7 d t ht
    rw [getElem!_pos _ _ (by simpa using ht), mCells_get _ _ (by omega)] at e1
    have e2 := flat_get 7 MA.enc d.toList (t / 7) (by simpa using hi) (t % 7) (by omega)
    rw [show t / 7 * 7 + t % 7 = t by omega, List.getElem?_eq_getElem h2] at e2
    injection e2 with e2
    rw [e2, Array.getElem_toList, e1]
    simp [hi]
theorem holdsK_own {w : World} {B g n c : Nat} {xs : List MA} (h : Own w B 60 7 MA.enc (some ⟨g, 0, none⟩) n c xs) : HoldsK mCells 7 w g 0 xs.toArray := by
  intro t ht
  have ht2 : t < xs.length * 7 := by simpa using ht
  have hi : t / 7 < xs.length := by omega
  obtain ⟨g', o, hA, htb, hc⟩ := h.sl.2 (by have := h.1; omega)
  injection hA with hA
  injection hA with hA1 hA2
  subst hA1 hA2
  refine ⟨?_, h.frozen _⟩
  have h1 := hc (t / 7) hi (t % 7) (by omega)
  rw [show 0 + t / 7 * 7 + t % 7 = 0 + t by omega] at h1
  rw [h1, get_flatK mCells 7 _ t (by simpa using ht2), mCells_get _ _ (by omega)]
  simp [hi]
theorem own_putRowK {w : World} {B g n c q : Nat} {xs ys : List MA} {F : Array Value} (h : Own w B 60 7 MA.enc (some ⟨g, 0, none⟩) n c xs) (hy : ys.length = n) (hF : F.toList = ys.flatMap (encL 7 MA.enc)) :
    Own (putRow id (Sort.ahead w q) g 0 F) B 60 7 MA.enc (some ⟨g, 0, none⟩) n c ys ∧ Only g w (putRow id (Sort.ahead w q) g 0 F) := by
  obtain ⟨cur, hb, hB, hn, hc, hs, ht⟩ := h.row
  have hFs : F.size = n * 7 := by
    have : F.toList.length = n * 7 := by rw [hF, flat_length, hy]
    simpa using this
  have hle : n * 7 ≤ c * 7 := Nat.mul_le_mul_right 7 hn
  unfold Blk at hb
  constructor
  · refine Own.of_row (cur := putCells id 0 F cur) ?_ hB hn hc (by simpa [putCells] using hs) hy ?_
    · show (putRow id (Sort.ahead w q) g 0 F).heap[g]? = _
      simp [putRow, mapBlock, Sort.ahead, Array.getElem?_modify, hb, onCells]
    · rw [← hF]
      apply List.ext_getElem?
      intro j
      rw [List.getElem?_take, Array.getElem?_toList, Array.getElem?_toList]
      by_cases hj : j < n * 7
      · have hjc : j < cur.size := by omega
        rw [if_pos hj]
        simp only [putCells, Array.getElem?_mapIdx, Array.getElem?_eq_getElem hjc, Option.map_some]
        rw [if_pos (by omega)]
        simp [hFs, hj]
      · rw [if_neg hj, Array.getElem?_eq_none (by omega)]
  · refine ⟨rfl, rfl, rfl, by simp [putRow, mapBlock, Sort.ahead], fun k hk hne => ?_⟩
    simp [putRow, mapBlock, Sort.ahead, Array.getElem?_modify, show ¬ g = k from fun e => hne e.symm]
theorem own_sorted {w : World} {B g n c q : Nat} {os : Array Obj} {xs ys : List MA} (d : Array MA) (h : Own w B 60 7 MA.enc (some ⟨g, 0, none⟩) n c xs) (hd : d.toList = ys) (hy : ys.length = n) :
    Own (sortWorldK mCells 7 w g 0 q d os) B 60 7 MA.enc (some ⟨g, 0, none⟩) n c ys ∧ Only g w (sortWorldK mCells 7 w g 0 q d os) := by
  obtain ⟨h1, h2⟩ := own_putRowK (q := q) h hy (F := flatK mCells 7 d) (by rw [flatK_eq, hd])
  have hg : New (putRowK mCells 7 (Sort.ahead w q) g 0 d) (grow (putRowK mCells 7 (Sort.ahead w q) g 0 d) os) := ⟨rfl, rfl, rfl, by simp [grow], fun k hk _ => heap_grow_old _ _ hk⟩
  exact ⟨h1.new hg, h2.trans (hg.mono (fun _ _ e => e.elim))⟩

theorem swo_name : SWO (ltOf fun x y : MA => cmpB x.name y.name) where
  irrefl x := by simp [ltOf, cmpB_self]
  trans x y z h1 h2 := by
    simp only [ltOf, decide_eq_true_eq] at *
    exact cmpB_trans h1 h2
  ntrans x y z h1 h2 := by
    simp only [ltOf, decide_eq_false_iff_not] at *
    intro h3
    by_cases e : cmpB z.name y.name < 0
    · exact h1 (cmpB_trans h3 e)
    · have h4 : cmpB y.name z.name = 0 := by
        have := cmpB_swap y.name z.name
        omega
      have h5 := (cmpB_zero _ _).1 h4
      rw [← h5] at h3
      exact h1 h3

set_option maxHeartbeats 1000000 in
theorem sort_end1 (w : World) (B g n c : Nat) (ms : List MA) (ho : Own w B 60 7 MA.enc (some ⟨g, 0, none⟩) n c ms) (hn : n ≤ 1000000) :
    Calls Tryz.prog 45 #[.slice (some ⟨g, 0, none⟩) n c, .func (.func 71) #[] #[]] w fun e w' => e = .returned (.tuple #[]) ∧ (∃ ys : List MA, ys.Perm ms ∧ (ys.Pairwise fun a b => ¬ cmpB b.name a.name < 0) ∧ Own w' B 60 7 MA.enc (some ⟨g, 0, none⟩) n c ys) ∧ Only g w w' := by
  have hl := ho.1
  have hlt : g < w.heap.size := by
    obtain ⟨cur, hb, -⟩ := ho.row
    exact hb.lt
  have h := Tryz.slices_SortFunc_mem 7 (fun w => by kernel_rfl) (fun w => by kernel_rfl) mCells (fun x => encL_length 7 MA.enc x) (fun y v hv => by
    simp only [encL, List.mem_map, List.mem_range] at hv
    obtain ⟨j, hj, rfl⟩ := hv
    exact MA.one y j hj) (fun x y : MA => cmpB x.name y.name) swo_name 71 #[] g 0 c ms.toArray w enters_end1 (fun m os dk hdk a b => ?_) (holdsK_own ho) hlt (by simp at hl ⊢; omega)
  rotate_left
  · have h2 := end1_g a b (sortWorldK mCells 7 w g 0 m dk os)
    have e1 : ∀ a : MA, Value.agg (mCells a).toArray = a.val := fun a => by
      simp [encL, List.range_succ, List.range_zero, MA.enc, VA.enc]
    rw [e1, e1]
    exact h2
  have hsz : ms.toArray.size = n := by simpa using hl
  rw [hsz] at h
  refine h.mono ?_
  rintro e w' ⟨rfl, d', q, os, ⟨hps, -, hpp⟩, hso, rfl⟩
  have hdn : d'.size = n := by rw [hps, hsz]
  have e1 : (d'.extract 0 n).toList = d'.toList := by simp; exact List.take_of_length_le (by simp [hdn])
  have e2 : (ms.toArray.extract 0 n).toList = ms := by simp; exact List.take_of_length_le (by omega)
  rw [e1, e2] at hpp
  obtain ⟨h1, h2⟩ := own_sorted (q := q) (os := os) d' ho rfl (by simpa using hdn)
  refine ⟨rfl, ⟨d'.toList, hpp, List.pairwise_iff_getElem.2 (fun i j hi hj hij => ?_), h1⟩, h2⟩
  have hi2 : i < d'.size := by simpa using hi
  have hj2 : j < d'.size := by simpa using hj
  have h3 := hso i j (by omega) hij (by omega)
  rw [getElem!_pos d' i hi2, getElem!_pos d' j hj2] at h3
  simpa [ltOf] using h3
set_option maxHeartbeats 1000000 in
theorem sort_val3 (w : World) (B g n c : Nat) (ms : List MA) (ho : Own w B 60 7 MA.enc (some ⟨g, 0, none⟩) n c ms) (hn : n ≤ 1000000) :
    Calls Tryz.prog 45 #[.slice (some ⟨g, 0, none⟩) n c, .func (.func 46) #[] #[]] w fun e w' => e = .returned (.tuple #[]) ∧ (∃ ys : List MA, ys.Perm ms ∧ (ys.Pairwise fun a b => ¬ cmpB b.name a.name < 0) ∧ Own w' B 60 7 MA.enc (some ⟨g, 0, none⟩) n c ys) ∧ Only g w w' := by
  have hl := ho.1
  have hlt : g < w.heap.size := by
    obtain ⟨cur, hb, -⟩ := ho.row
    exact hb.lt
  have h := Tryz.slices_SortFunc_mem 7 (fun w => by kernel_rfl) (fun w => by kernel_rfl) mCells (fun x => encL_length 7 MA.enc x) (fun y v hv => by
    simp only [encL, List.mem_map, List.mem_range] at hv
    obtain ⟨j, hj, rfl⟩ := hv
    exact MA.one y j hj) (fun x y : MA => cmpB x.name y.name) swo_name 46 #[] g 0 c ms.toArray w enters_val3 (fun m os dk hdk a b => ?_) (holdsK_own ho) hlt (by simp at hl ⊢; omega)
  rotate_left
  · have h2 := val3_g a b (sortWorldK mCells 7 w g 0 m dk os)
    have e1 : ∀ a : MA, Value.agg (mCells a).toArray = a.val := fun a => by
      simp [encL, List.range_succ, List.range_zero, MA.enc, VA.enc]
    rw [e1, e1]
    exact h2
  have hsz : ms.toArray.size = n := by simpa using hl
  rw [hsz] at h
  refine h.mono ?_
  rintro e w' ⟨rfl, d', q, os, ⟨hps, -, hpp⟩, hso, rfl⟩
  have hdn : d'.size = n := by rw [hps, hsz]
  have e1 : (d'.extract 0 n).toList = d'.toList := by simp; exact List.take_of_length_le (by simp [hdn])
  have e2 : (ms.toArray.extract 0 n).toList = ms := by simp; exact List.take_of_length_le (by omega)
  rw [e1, e2] at hpp
  obtain ⟨h1, h2⟩ := own_sorted (q := q) (os := os) d' ho rfl (by simpa using hdn)
  refine ⟨rfl, ⟨d'.toList, hpp, List.pairwise_iff_getElem.2 (fun i j hi hj hij => ?_), h1⟩, h2⟩
  have hi2 : i < d'.size := by simpa using hi
  have hj2 : j < d'.size := by simpa using hj
  have h3 := hso i j (by omega) hij (by omega)
  rw [getElem!_pos d' i hi2, getElem!_pos d' j hj2] at h3
  simpa [ltOf] using h3

theorem perm_lift {α β : Type} (f : α → β) {l m : List β} (h : l.Perm m) : ∀ Z : List α, m = Z.map f → ∃ Z' : List α, Z'.Perm Z ∧ l = Z'.map f := by
  induction h with
  | nil =>
    intro Z hZ
    have : Z = [] := by cases Z with
      | nil => rfl
      | cons a b => simp at hZ
    exact ⟨[], by rw [this], rfl⟩
  | cons x h ih =>
    intro Z hZ
    cases Z with
    | nil => simp at hZ
    | cons z Z2 =>
      simp only [List.map_cons, List.cons.injEq] at hZ
      obtain ⟨Z', h1, h2⟩ := ih Z2 hZ.2
      exact ⟨z :: Z', h1.cons z, by simp [hZ.1, h2]⟩
  | swap x y l =>
    intro Z hZ
    cases Z with
    | nil => simp at hZ
    | cons z1 Z1 =>
      cases Z1 with
      | nil => simp at hZ
      | cons z2 Z2 =>
        simp only [List.map_cons, List.cons.injEq] at hZ
        exact ⟨z2 :: z1 :: Z2, List.Perm.swap _ _ _, by simp [hZ.1, hZ.2.1, hZ.2.2]⟩
  | trans h1 h2 ih1 ih2 =>
    intro Z hZ
    obtain ⟨Z2, e1, e2⟩ := ih2 Z hZ
    obtain ⟨Z1, e3, e4⟩ := ih1 Z2 e2
    exact ⟨Z1, e3.trans e1, e4⟩
def leP (a b : ByteArray × VT) : Prop := ¬ cmpB b.1 a.1 < 0
theorem leP_trans {a b c : ByteArray × VT} (h1 : leP a b) (h2 : leP b c) : leP a c := by
  have h := swo_name.ntrans ⟨c.1, ⟨0, false, 0, ⟨#[]⟩, none, 0, 0, none, 0, 0⟩⟩ ⟨b.1, ⟨0, false, 0, ⟨#[]⟩, none, 0, 0, none, 0, 0⟩⟩ ⟨a.1, ⟨0, false, 0, ⟨#[]⟩, none, 0, 0, none, 0, 0⟩⟩
  simp only [ltOf, decide_eq_false_iff_not] at h
  exact h h2 h1
theorem srtP_sorted (l : List (ByteArray × VT)) : (srtP l).Pairwise leP := by
  have h := List.pairwise_mergeSort (le := fun a b : ByteArray × VT => !decide (cmpB b.1 a.1 < 0)) (fun a b c h1 h2 => by
    simp only [Bool.not_eq_true', decide_eq_false_iff_not] at *
    exact leP_trans h1 h2) (fun a b => by
    simp only [Bool.or_eq_true, Bool.not_eq_true', decide_eq_false_iff_not]
    have := cmpB_swap a.1 b.1
    omega) l
  refine h.imp fun {a b} q => ?_
  simpa [leP] using q
/-- a sorted row of members reads as the members sorted -/
theorem KidsM.sorted {w : World} {G : Nat → Prop} {d : Nat} {ms ys : List MA} {ps : List (ByteArray × VT)} (h : KidsM w G d ms ps) (hnd : (ps.map (·.1)).Nodup) (hp : ys.Perm ms) (hs : ys.Pairwise fun a b => ¬ cmpB b.name a.name < 0) : KidsM w G d ys (srtP ps) := by
  obtain ⟨hl, hk⟩ := h
  have hZ1 : (ms.zip ps).map (·.1) = ms := List.map_fst_zip (by omega)
  have hZ2 : (ms.zip ps).map (·.2) = ps := List.map_snd_zip (by omega)
  have hZ : ∀ z ∈ ms.zip ps, z.1.name = z.2.1 ∧ Tree w G d z.1.v z.2.2 := by
    intro z hz
    obtain ⟨i, hi, rfl⟩ := List.getElem_of_mem hz
    simp only [List.length_zip] at hi
    simp only [List.getElem_zip]
    exact hk i (by omega) (by omega)
  obtain ⟨Z', h1, h2⟩ := perm_lift (fun z : MA × (ByteArray × VT) => z.1) hp (ms.zip ps) hZ1.symm
  have hq : (Z'.map (·.2)).Perm ps := by
    have := h1.map (fun z : MA × (ByteArray × VT) => z.2)
    rwa [hZ2] at this
  have hZ' : ∀ z ∈ Z', z.1.name = z.2.1 ∧ Tree w G d z.1.v z.2.2 := fun z hz => hZ z (h1.mem_iff.1 hz)
  have hsq : (Z'.map (·.2)).Pairwise leP := by
    rw [h2] at hs
    rw [List.pairwise_map] at hs ⊢
    refine List.Pairwise.imp_of_mem (fun {a b} ha hb q => ?_) hs
    unfold leP
    rw [← (hZ' a ha).1, ← (hZ' b hb).1]
    exact q
  have heq : Z'.map (·.2) = srtP ps := by
    have hinj : ∀ a ∈ ps, ∀ b ∈ ps, a.1 = b.1 → a = b := by
      intro a ha b hb hab
      obtain ⟨i, hi, rfl⟩ := List.getElem_of_mem ha
      obtain ⟨j, hj, rfl⟩ := List.getElem_of_mem hb
      have h3 : (ps.map (·.1))[i]'(by simpa using hi) = (ps.map (·.1))[j]'(by simpa using hj) := by simpa using hab
      have := (List.getElem_inj hnd).1 h3
      subst this
      rfl
    refine List.Perm.eq_of_pairwise (le := leP) (fun a b ha hb h3 h4 => ?_) hsq (srtP_sorted ps) (hq.trans (srtP_perm ps).symm)
    refine hinj a (hq.mem_iff.1 ha) b ((srtP_perm ps).mem_iff.1 hb) ?_
    have := cmpB_swap a.1 b.1
    unfold leP at h3 h4
    exact (cmpB_zero _ _).1 (by omega)
  refine ⟨?_, fun i hi hi' => ?_⟩
  · rw [← heq, h2]
    simp
  · subst h2
    have hi2 : i < Z'.length := by simpa using hi
    have e : (srtP ps)[i] = (Z'[i]).2 := by
      have : (Z'.map (·.2))[i]'(by simpa using hi2) = (srtP ps)[i] := by simp only [heq]
      rw [← this]
      simp
    have e2 : (Z'.map fun z : MA × (ByteArray × VT) => z.1)[i] = (Z'[i]).1 := by simp
    rw [e, e2]
    exact hZ' _ (List.getElem_mem hi2)
end Go.Proofs.YtjmnkdkdjnmejaaGreatDoor
