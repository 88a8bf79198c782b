/- slices.Insert of one value, of one member, into a row that the call owns. (printed by mkins.py) Conditions: at most 100000 of them. -/
import Derived.Test.YtjfgfkbgbhbhjaaGreatDoorVal1Grp
import Derived.Test.YtjfgfkbgbhbhjaaGreatDoorRowGrp
import Derived.Lib.Overlaps
import Derived.Lib.AppendZerosOnto
import Derived.Lib.JoinLaws
import Derived.Laws.Externs
import Derived.Shelf.RegionOpenPlain
namespace Go.Proofs.YtjfgfkbgbhbhjaaGreatDoor
open Go.RowKit
set_option linter.unusedVariables false
set_option linter.unusedSimpArgs false

theorem wpList_copy_by {P : Program} {w w' : World} {ops : Array Oper} {rest : List Oper} {o : Oper} {a : Act} {Q : Exit → Act → World → Prop} (hgd : o.guard = none) (s x : Operand) (t t2 : TypeId)
    (ho : o.op = .call { callee := .builtin .copy, args := #[s, x], argTypes := #[t, t2] }) {v1 v2 v : Value} (hs : a.eval s = v1) (hx : a.eval x = v2) (hr : ∀ ty, (Builtin.copy_ #[t, t2] ty #[v1, v2]).run P w = .ok v w')
    (h : wpList P ops Q rest (a.put o.dst v) w') : wpList P ops Q (o :: rest) a w := by
  refine wpList_plain hgd fun K hK => ?_
  unfold Oper.wp execOp
  simp only [ho, resolve, invoke, builtin, Sem.run_bind, Sem.run_pure, Result.andThen_ok, List.map_toArray, List.map_cons, List.map_nil, hs, hx, hr]
  exact hK _ _ h
theorem step_copy_by {P : Program} {w w' : World} {ops : Array Oper} {o : Oper} {a : Act} {K : Act → World → Prop} {Q : Exit → Act → World → Prop} {E : Prop} (hg : o.guard = none) (s x : Operand) (t t2 : TypeId)
    (ho : o.op = .call { callee := .builtin .copy, args := #[s, x], argTypes := #[t, t2] }) {v1 v2 v : Value} (hs : a.eval s = v1) (hx : a.eval x = v2) (hr : ∀ ty, (Builtin.copy_ #[t, t2] ty #[v1, v2]).run P w = .ok v w')
    (hK : K (a.put o.dst v) w') : if Region.wanted o (yielded ops a.tmps) = true then Oper.wp P o a w K Q else E := by
  have hw : Region.wanted o (yielded ops a.tmps) = true := by simp [Region.wanted, hg]
  rw [if_pos hw]
  unfold Oper.wp execOp
  simp only [ho, resolve, invoke, builtin, Sem.run_bind, Sem.run_pure, Result.andThen_ok, List.map_toArray, List.map_cons, List.map_nil, hs, hx, hr]
  exact hK

/-- copy of elements of whatever size: all is read ahead of the first store -/
theorem run_copy_row2 {P : Program} (w : World) (dT sT ty elem : TypeId) {sz : Nat} (g o dLen dCap : Nat) (a : Addr) (sLen sCap : Nat) (cur : Array Value) (t : TypeId) (cs : List Value) (m : Nat)
    (hu : P.underlying dT = some (.slice elem)) (hs : (P.info? elem).map (·.size) = some sz) (hm : Nat.min sLen dLen = m)
    (hg : Blk w g t cur) (hn : cs.length = m * sz)
    (hsrc : ∀ j v, cs[j]? = some v → w.cell? (a.add j) = some v) (hfit : o + cs.length ≤ cur.size) (h1 : ∀ v ∈ cs, v.oneCell' = true) :
    (Builtin.copy_ #[dT, sT] ty #[.slice (some ⟨g, o, none⟩) dLen dCap, .slice (some a) sLen sCap]).run P w =
      .ok (goInt m) (w.setRow g (cur.toList.take o ++ cs ++ cur.toList.drop (o + cs.length)).toArray) := by
  have hl := run_loadCells_list (P := P) w a cs hsrc
  have hst := run_storeCells_at P g o t cs 0 cur w hg (by simpa using hfit) h1
  cases hq : P.info? elem with
  | none => simp [hq] at hs
  | some i =>
    have hi : i.size = sz := by simpa [hq] using hs
    rw [hn] at hl
    simp [Builtin.copy_, run_underlying hu, Builtin.lenOf, Builtin.firstCells, sizeOf, typeInfo, hq, hi, hm, hl, hst]

theorem add_lit' (g o j : Nat) : (⟨g, o, none⟩ : Addr).add j = ⟨g, o + j, none⟩ := by unfold Addr.add; split <;> simp_all
theorem size_ma : (Tryz.prog.info? 54).map (·.size) = some 7 := by kernel_rfl
def RIns_ma (w : World) (B : Nat) (A : Option Addr) (xs : List MA) (e : Ending) (w' : World) : Prop :=
  ∃ g c, e = .returned (.slice (some ⟨g, 0, none⟩) xs.length c) ∧ Own w' B 54 7 MA.enc (some ⟨g, 0, none⟩) xs.length c xs ∧ Mod (fun k => blkOf A = some k) w w' ∧ (blkOf A = some g ∨ w.heap.size ≤ g)

set_option maxHeartbeats 1000000 in
/-- at the end -/
theorem insert_end_ma (w : World) (B : Nat) (A : Option Addr) (n c : Nat) (ps : List MA) (x : MA) (vb : Nat) (hs : Own w B 54 7 MA.enc A n c ps) (hb : Blk w vb 54 (encL 7 MA.enc x).toArray) (hB : B ≤ w.heap.size) (hn : n ≤ 100000) :
    Calls Tryz.prog 66 #[.slice A n c, .int .i64 n, .slice (some ⟨vb, 0, none⟩) 1 1] w (RIns_ma w B A (ps ++ [x])) := by
  obtain ⟨i, z, hi0, hz, hsz, hby, hzs, h0⟩ := einfo_mem
  have hlen := hs.1
  obtain ⟨g, cap, w', hr, hown', hg, hat, hlt⟩ := run_append_lies (P := Tryz.prog) w 27 0 B 54 i z 7 104 (Tryz.underlying27) hi0 hz hsz hby hzs h0 _ n _ hs.2 ⟨vb, 0, none⟩ 1 1 (encL 7 MA.enc x) (by rw [encL_length]) (by
    have := World.news_of_block hb
    simpa using this) (by
    intro u hu
    simp only [encL, List.mem_map, List.mem_range] at hu
    obtain ⟨j, hj, rfl⟩ := hu
    exact MA.one x j hj) (by omega) (by unfold maxLen; omega) (by omega) hB _ rfl
  have hrun : ∀ ty, (Builtin.append_ #[27, 27] ty #[.slice A n c, .slice (some ⟨vb, 0, none⟩) 1 1]).run Tryz.prog w = .ok (.slice (some ⟨g, 0, none⟩) (n + 1) cap) w' := fun ty => by
    exact hr
  rw [ownBlock_eq] at hg hat
  have hpost : RIns_ma w B A (ps ++ [x]) (.returned (.slice (some ⟨g, 0, none⟩) (n + 1) cap)) w' := by
    refine ⟨g, cap, by simp [hlen], ?_, (Mod.refl (fun k => blkOf A = some k) w).grown hg (fun k e => .inl e), by rcases hat with h | h; (· exact .inl h); exact .inr (by omega)⟩
    refine ⟨rfl, ?_⟩
    simpa [hlen, List.flatMap_append] using hown'
  have HP := Lib.hid hpost
  have hcn : n ≤ c := by
    rcases hs.2.2 with ⟨hv, hn0⟩ | ⟨g', cap', cur, hv, hBg, hh, hc1, hc2, hsz', _⟩
    · omega
    · injection hv with _ _ h3; omega
  have hAn : A = none → n = 0 ∧ c = 0 := fun e => by
    rcases hs.blk with ⟨_, h1, h2⟩ | ⟨g', h1, _⟩
    · exact ⟨h1, h2⟩
    · rw [e] at h1; cases h1
  clear hr hpost hg hat hown' hi0 hz hsz hby hzs h0 hs hb hlen hlt
  go_enter Tryz.func66, Tryz.ntmps66
  cases A with
  | none =>
    obtain ⟨rfl, rfl⟩ := hAn rfl
    clear hAn
    go_wp2_with (at_builtin; refine wpList_append_by2 rfl _ _ 27 27 rfl rfl rfl hrun ?_)
    go_ret
    exact HP.out
  | some a =>
    clear hAn
    obtain ⟨ab, ao, asp⟩ := a
    go_wp2_with (at_builtin; refine wpList_append_by2 rfl _ _ 27 27 rfl rfl rfl hrun ?_)
    all_goals (go_ret; exact HP.out)

theorem run_overlaps_ma (w : World) (vb g o lb cb : Nat) (csv csg : Array Value) (hv : Blk w vb 54 csv) (hg : Blk w g 54 csg) (hne : vb ≠ g) (h0 : csg.size ≠ 0) :
    (callFunc 90 #[.slice (some ⟨vb, 0, none⟩) 1 1, .slice (some ⟨g, o, none⟩) lb cb]).run Tryz.prog w = .ok (.value (.bool false)) w := by
  unfold Blk at hv hg
  rw [run_callFunc_extern Tryz.func90 (by kernel_rfl) (by kernel_rfl) (by kernel_rfl) (e := Extern.SlicesOverlaps.overlaps #[27, 27] #[4]) (by kernel_rfl),
    Lib.run_overlaps_apart w 27 4 54 (Tryz.underlying27) 7 (fun w => by kernel_rfl) ⟨vb, 0, none⟩ ⟨g, o, none⟩ 1 1 lb cb hne 54 54 csv.size csg.size (by simp [World.shape?, hv]) (by simp [World.shape?, hg]) h0 (by simp [World.frozen?, hv]) (by simp [World.frozen?, hv])]
  rfl

/-- what stands in a row from element i on -/
theorem row_from_ma {cur : Array Value} {ps : List MA} {n : Nat} (i : Nat) (ht : cur.toList.take (n * 7) = ps.flatMap (encL 7 MA.enc)) : ∀ j v, ((ps.drop i).flatMap (encL 7 MA.enc))[j]? = some v → cur[i * 7 + j]? = some v := by
  intro j v hj
  rw [take_drop_flat, ← ht, List.getElem?_drop, List.getElem?_take] at hj
  split at hj
  · simpa using hj
  · cases hj
theorem cells_one_ma (xs : List MA) : ∀ v ∈ xs.flatMap (encL 7 MA.enc), v.oneCell' = true := by
  intro u hu
  simp only [List.mem_flatMap, encL, List.mem_map, List.mem_range] at hu
  obtain ⟨x, _, j, hj, rfl⟩ := hu
  exact MA.one x j hj
/-- the row behind both copies -/
theorem row_ins_ma {cur : List Value} {ps : List MA} {n i : Nat} (x : MA) (hl : ps.length = n) (hi : i ≤ n) (hfit : (n + 1) * 7 ≤ cur.length) (ht : cur.take (n * 7) = ps.flatMap (encL 7 MA.enc)) (c1 c2 : List Value)
    (h1 : c1 = cur.take ((i + 1) * 7) ++ (ps.drop i).flatMap (encL 7 MA.enc) ++ cur.drop ((i + 1) * 7 + ((ps.drop i).flatMap (encL 7 MA.enc)).length))
    (h2 : c2 = c1.take (i * 7) ++ encL 7 MA.enc x ++ c1.drop (i * 7 + (encL 7 MA.enc x).length)) :
    c2.length = cur.length ∧ c2.take ((n + 1) * 7) = (ps.take i ++ x :: ps.drop i).flatMap (encL 7 MA.enc) := by
  have hd : ((ps.drop i).flatMap (encL 7 MA.enc)).length = (n - i) * 7 := by rw [flat_length, List.length_drop, hl]
  have e1 : cur.take (i * 7) = (ps.take i).flatMap (encL 7 MA.enc) := by
    rw [flat_take, ← ht, List.take_take, Nat.min_eq_left (by omega)]
  have hx : (encL 7 MA.enc x).length = 7 := encL_length _ _ _
  have hc1 : c1.take (i * 7) = (ps.take i).flatMap (encL 7 MA.enc) := by
    rw [h1, List.append_assoc, List.take_append_of_le_length (by simp; omega), List.take_take, Nat.min_eq_left (by omega), e1]
  have hc1d : c1.drop (i * 7 + 7) = (ps.drop i).flatMap (encL 7 MA.enc) ++ cur.drop ((n + 1) * 7) := by
    rw [h1, List.append_assoc, List.drop_append, List.drop_of_length_le (by simp; omega), List.nil_append, List.length_take, Nat.min_eq_left (by omega), show i * 7 + 7 - (i + 1) * 7 = 0 by omega, List.drop_zero, hd]
    congr 2; omega
  rw [hx] at h2
  rw [hc1, hc1d] at h2
  refine ⟨?_, ?_⟩
  · rw [h2]
    simp only [List.length_append, flat_length, List.length_take, List.length_drop, hx, hl]
    omega
  · rw [h2, List.flatMap_append, List.flatMap_cons, List.append_assoc, ← List.append_assoc, ← List.append_assoc, List.take_append_of_le_length (by simp only [List.length_append, flat_length, List.length_take, List.length_drop, hx, hl]; omega)]
    rw [List.take_of_length_le (by simp only [List.length_append, flat_length, List.length_take, List.length_drop, hx, hl]; omega)]
    simp [List.append_assoc]

set_option maxRecDepth 100000 in
set_option maxHeartbeats 2000000 in
/-- further ahead, where there is room -/
theorem insert_shift_ma (w : World) (B g n c i : Nat) (ps : List MA) (x : MA) (vb : Nat) (hs : Own w B 54 7 MA.enc (some ⟨g, 0, none⟩) n c ps) (hb : Blk w vb 54 (encL 7 MA.enc x).toArray) (hne : vb ≠ g) (hi : i < n) (hroom : n + 1 ≤ c) (hn : n ≤ 100000) :
    Calls Tryz.prog 66 #[.slice (some ⟨g, 0, none⟩) n c, .int .i64 i, .slice (some ⟨vb, 0, none⟩) 1 1] w (RIns_ma w B (some ⟨g, 0, none⟩) (ps.take i ++ x :: ps.drop i)) := by
  obtain ⟨cur, hbk, hBg, hnc, hcm, hcs, hct⟩ := hs.row
  have hlen := hs.1
  have hcl : cur.toList.length = c * 7 := by simpa using hcs
  have hd : ((ps.drop i).flatMap (encL 7 MA.enc)).length = (n - i) * 7 := by rw [flat_length, List.length_drop, hlen]
  have hx2 : (encL 7 MA.enc x).length = 7 := encL_length _ _ _
  obtain ⟨c1, hc1⟩ : ∃ c1 : Array Value, c1 = (cur.toList.take ((i + 1) * 7) ++ (ps.drop i).flatMap (encL 7 MA.enc) ++ cur.toList.drop ((i + 1) * 7 + ((ps.drop i).flatMap (encL 7 MA.enc)).length)).toArray := ⟨_, rfl⟩
  obtain ⟨c2, hc2⟩ : ∃ c2 : Array Value, c2 = (c1.toList.take (i * 7) ++ encL 7 MA.enc x ++ c1.toList.drop (i * 7 + (encL 7 MA.enc x).length)).toArray := ⟨_, rfl⟩
  have hrow := row_ins_ma (i := i) x hlen (by omega) (by rw [hcl]; omega) hct c1.toList c2.toList (by rw [hc1]) (by rw [hc2])
  have hc1s : c1.size = c * 7 := by
    rw [hc1]; simp only [List.size_toArray, List.length_append, List.length_take, List.length_drop, hd, hcl]; omega
  have hcp1 : ∀ ty dc sc, (Builtin.copy_ #[27, 27] ty #[.slice (some ⟨g, (i + 1) * 7, none⟩) (n + 1 - (i + 1)) dc, .slice (some ⟨g, i * 7, none⟩) (n + 1 - i) sc]).run Tryz.prog w.drew = .ok (goInt ((n - i : Nat))) (w.drew.setRow g c1) := fun ty dc sc => by
    rw [hc1]
    exact run_copy_row2 w.drew _ _ ty 54 g ((i + 1) * 7) _ dc ⟨g, i * 7, none⟩ _ sc cur 54 _ (n - i) (Tryz.underlying27) size_ma (by simp only [Nat.min_def]; split <;> omega) (by exact hbk) hd
      (fun j v hj => by rw [add_lit']; exact (hbk.cell (i * 7 + j)).trans (row_from_ma i hct j v hj)) (by rw [hd, hcs]; omega) (cells_one_ma _)
  have hb1 : Blk (w.drew.setRow g c1) g 54 c1 := Blk.setRow (w := w.drew) hbk
  have hm1 : Only g w (w.drew.setRow g c1) := ((Mod.refl (fun k => k = g) w).drew).setRow (.inl rfl)
  have hv1 := hb.mod hm1 hne
  have hcp2 : ∀ ty dc, (Builtin.copy_ #[27, 27] ty #[.slice (some ⟨g, i * 7, none⟩) (n + 1 - i) dc, .slice (some ⟨vb, 0, none⟩) 1 1]).run Tryz.prog (w.drew.setRow g c1) = .ok (goInt ((1 : Nat))) ((w.drew.setRow g c1).setRow g c2) := fun ty dc => by
    rw [hc2]
    exact run_copy_row2 (w.drew.setRow g c1) _ _ ty 54 g (i * 7) _ dc ⟨vb, 0, none⟩ 1 1 c1 54 _ 1 (Tryz.underlying27) size_ma (by simp only [Nat.min_def]; split <;> omega) hb1 (by rw [hx2])
      (fun j v hj => by
        rw [add_lit', Nat.zero_add, hv1.cell]
        simpa using hj) (by rw [hx2, hc1s]; omega) (fun v hv => cells_one_ma [x] v (by simpa using hv))
  have hpost : RIns_ma w B (some ⟨g, 0, none⟩) (ps.take i ++ x :: ps.drop i) (.returned (.slice (some ⟨g, 0, none⟩) (n + 1) c)) ((w.drew.setRow g c1).setRow g c2) := by
    have hl2 : (ps.take i ++ x :: ps.drop i).length = n + 1 := by simp; omega
    refine ⟨g, c, by rw [hl2], ?_, ?_, .inl rfl⟩
    · rw [hl2]
      exact Own.of_row (Blk.setRow hb1) hBg hroom hcm (by have := hrow.1; simp at this; omega) hl2 hrow.2
    · exact (hm1.setRow (.inl rfl)).mono (fun k _ e => by subst e; rfl)
  have HP := Lib.hid hpost
  have hov := fun o lb cb => run_overlaps_ma w vb g o lb cb _ cur hb hbk hne (by rw [hcs]; omega)
  generalize w.drew.setRow g c1 = W1 at *
  generalize W1.setRow g c2 = W2 at *
  have hz2 : ¬ ((i : Int) = (n : Int)) := by omega
  have hz2' : ((i : Int) == (n : Int)) = false := by simpa using hz2
  have hw1 : IntKind.i64.wrap ((i : Int) + (1 : Int)) = (i : Int) + (1 : Int) := by rw [IntKind.wrap_i64]; omega
  have hbb1 : (0 : Int) ≤ (i : Int) + (1 : Int) := by omega
  have hin : i ≤ n := by omega
  have htn : ((i : Int) + (1 : Int)).toNat = i + 1 := by omega
  have hb2 : ¬ (c = i + 1) := by omega
  have hb3 : (i : Int) ≤ (n : Int) + (1 : Int) := by omega
  have hb4 : ¬ (c = i) := by omega
  have hc63 : c ≤ 9223372036854775807 := by unfold maxLen at hcm; omega
  have mixed : Tryz.prog.follows .mixedOrders = true := by kernel_rfl
  clear hpost hrow hc1s hc1 hc2 hcl hd hx2 hlen hs hb hbk hBg hcs hct hm1 hv1 hb1
  go_enter Tryz.func66, Tryz.ntmps66
  go_wp2_with (simp only [hov])
  go_region_law_o (refine step_copy_by rfl _ _ 27 27 rfl (by simp [Act.eval, Act.put]; rfl) (by simp [Act.eval, Act.put]; rfl) (fun ty => hcp1 ty _ _) ?_)
  go_wp2_with (refine wpList_copy_by rfl _ _ 27 27 rfl rfl rfl (fun ty => hcp2 ty _) ?_)
  go_ret
  exact HP.out

/-- the row behind both copies into a new row -/
theorem row_ins2_ma {R : List Value} {ps : List MA} {n i : Nat} (x : MA) (hl : ps.length = n) (hi : i ≤ n) (hfit : (n + 1) * 7 ≤ R.length) (ht : R.take (i * 7) = (ps.take i).flatMap (encL 7 MA.enc)) (r1 r2 : List Value)
    (h1 : r1 = R.take (i * 7) ++ encL 7 MA.enc x ++ R.drop (i * 7 + (encL 7 MA.enc x).length))
    (h2 : r2 = r1.take ((i + 1) * 7) ++ (ps.drop i).flatMap (encL 7 MA.enc) ++ r1.drop ((i + 1) * 7 + ((ps.drop i).flatMap (encL 7 MA.enc)).length)) :
    r1.length = R.length ∧ r2.length = R.length ∧ r2.take ((n + 1) * 7) = (ps.take i ++ x :: ps.drop i).flatMap (encL 7 MA.enc) := by
  have hd : ((ps.drop i).flatMap (encL 7 MA.enc)).length = (n - i) * 7 := by rw [flat_length, List.length_drop, hl]
  have hx : (encL 7 MA.enc x).length = 7 := encL_length _ _ _
  have hli : ((ps.take i).flatMap (encL 7 MA.enc)).length = i * 7 := by rw [flat_length, List.length_take, Nat.min_eq_left (by omega)]
  have l1 : r1.length = R.length := by rw [h1]; simp only [List.length_append, List.length_take, List.length_drop, hx]; omega
  have e1 : r1.take ((i + 1) * 7) = (ps.take i).flatMap (encL 7 MA.enc) ++ encL 7 MA.enc x := by
    rw [h1, ht, List.take_append_of_le_length (by rw [List.length_append, hli, hx]; omega), List.take_of_length_le (by rw [List.length_append, hli, hx]; omega)]
  refine ⟨l1, ?_, ?_⟩
  · rw [h2]; simp only [List.length_append, List.length_take, List.length_drop, hd, l1]; omega
  · rw [h2, e1, List.take_append_of_le_length (by simp only [List.length_append, hli, hx, hd]; omega), List.take_of_length_le (by simp only [List.length_append, hli, hx, hd]; omega), List.flatMap_append, List.flatMap_cons, List.append_assoc]

set_option maxRecDepth 100000 in
set_option maxHeartbeats 2000000 in
/-- further ahead, where there is no room: a new row -/
theorem insert_grow_ma (w : World) (B g n c i : Nat) (ps : List MA) (x : MA) (vb : Nat) (hs : Own w B 54 7 MA.enc (some ⟨g, 0, none⟩) n c ps) (hb : Blk w vb 54 (encL 7 MA.enc x).toArray) (hB : B ≤ w.heap.size) (hi : i < n) (hroom : c < n + 1) (hn : n ≤ 100000) :
    Calls Tryz.prog 66 #[.slice (some ⟨g, 0, none⟩) n c, .int .i64 i, .slice (some ⟨vb, 0, none⟩) 1 1] w (RIns_ma w B (some ⟨g, 0, none⟩) (ps.take i ++ x :: ps.drop i)) := by
  obtain ⟨cur, hbk, hBg, hnc, hcm, hcs, hct⟩ := hs.row
  have hlen := hs.1
  have hgl := hbk.lt
  have hvl := hb.lt
  obtain ⟨i0, z, hi0, hz, hsz, hby, hzs, h0⟩ := einfo_mem
  have hkk : (n : Int) + 1 - (i : Int) = ((n + 1 - i : Nat) : Int) := by omega
  have hik : i + (n + 1 - i) = n + 1 := by omega
  have hd : ((ps.drop i).flatMap (encL 7 MA.enc)).length = (n - i) * 7 := by rw [flat_length, List.length_drop, hlen]
  have hx2 : (encL 7 MA.enc x).length = 7 := encL_length _ _ _
  have hli : ((ps.take i).flatMap (encL 7 MA.enc)).length = i * 7 := by rw [flat_length, List.length_take, Nat.min_eq_left (by omega)]
  have hold : (Builtin.firstCells i0.size i (.slice (some ⟨g, 0, none⟩) i c)).run Tryz.prog w.drew = .ok ((ps.take i).flatMap (encL 7 MA.enc)).toArray w.drew := by
    rw [hsz]
    refine run_firstCells_some w.drew 7 i ⟨g, 0, none⟩ i c _ hli (fun j v hj => ?_)
    rw [add_lit', Nat.zero_add]
    refine (hbk.cell j).trans ?_
    rw [flat_take, List.getElem?_take] at hj
    split at hj
    · rw [← hct, List.getElem?_take] at hj
      split at hj
      · simpa using hj
      · cases hj
    · cases hj
  have hrz : ∀ ty, (Builtin.append_ #[27, 3] ty #[.slice (some ⟨g, 0, none⟩) i c, .int .i64 ((n : Int) + 1 - (i : Int))]).run Tryz.prog w =
      .ok (.slice (some ⟨w.heap.size, 0, none⟩) (n + 1) (grownCap w (n + 1) c 54)) (w.drew.alloc (.cells (((ps.take i).flatMap (encL 7 MA.enc)).toArray ++ Builtin.zeroCells z.cells (n + 1 - i) ++ Builtin.zeroCells z.cells (grownCap w (n + 1) c 54 - (n + 1))) 54)) := fun ty => by
    have h := Lib.run_append_grow_zeros w 27 3 ty 54 i0 _ .i64 .i64 (Tryz.underlying27) Tryz.underlying3 hi0 hz (some ⟨g, 0, none⟩) i c _ hold (n + 1 - i) (by omega) (by omega) (by omega) (by omega) (by rw [hby]; omega) (by rw [hby, hik]; exact growslice_fits hroom (by omega))
    rw [hik] at h
    rw [hkk]
    exact h
  have hGn : n + 1 ≤ grownCap w (n + 1) c 54 := grownCap_ge w _ _ _
  have hGm := grownCap_le_maxLen w (n + 1) c 54 (by unfold maxLen; omega)
  generalize grownCap w (n + 1) c 54 = G at *
  obtain ⟨R, hR⟩ : ∃ R : Array Value, R = ((ps.take i).flatMap (encL 7 MA.enc)).toArray ++ Builtin.zeroCells z.cells (n + 1 - i) ++ Builtin.zeroCells z.cells (G - (n + 1)) := ⟨_, rfl⟩
  rw [← hR] at hrz
  have hRs : R.size = G * 7 := by
    rw [hR]; simp only [Array.size_append, List.size_toArray, hli, Builtin.zeroCells, Array.size_map, Array.size_range, hzs]; omega
  have hRl : R.toList.length = G * 7 := by simpa using hRs
  have hRt : R.toList.take (i * 7) = (ps.take i).flatMap (encL 7 MA.enc) := by
    rw [hR]
    simp only [Array.toList_append, List.append_assoc]
    rw [List.take_append_of_le_length (by rw [hli]; omega), List.take_of_length_le (by rw [hli]; omega)]
  clear hR hold hz hby h0 hzs hi0 hsz
  obtain ⟨r1, hr1⟩ : ∃ r1 : Array Value, r1 = (R.toList.take (i * 7) ++ encL 7 MA.enc x ++ R.toList.drop (i * 7 + (encL 7 MA.enc x).length)).toArray := ⟨_, rfl⟩
  obtain ⟨r2, hr2⟩ : ∃ r2 : Array Value, r2 = (r1.toList.take ((i + 1) * 7) ++ (ps.drop i).flatMap (encL 7 MA.enc) ++ r1.toList.drop ((i + 1) * 7 + ((ps.drop i).flatMap (encL 7 MA.enc)).length)).toArray := ⟨_, rfl⟩
  obtain ⟨q1, q2, q3⟩ := row_ins2_ma (i := i) x hlen (by omega) (by rw [hRl]; omega) hRt r1.toList r2.toList (by rw [hr1]) (by rw [hr2])
  have hr1s : r1.size = G * 7 := by have := q1; rw [hRl] at this; simpa using this
  have hr2s : r2.size = G * 7 := by have := q2; rw [hRl] at this; simpa using this
  have bN : Blk (w.drew.alloc (.cells R 54)) w.heap.size 54 R := Blk.new' (w := w.drew) _ _ rfl
  have m1 : New w (w.drew.alloc (.cells R 54)) := ((Mod.refl _ w).drew).alloc _
  have bg1 := hbk.mod m1 (fun e => e)
  have bv1 := hb.mod m1 (fun e => e)
  have hz1 := m1.size
  generalize w.drew.alloc (.cells R 54) = W1 at *
  have hcpA : ∀ ty dc, (Builtin.copy_ #[27, 27] ty #[.slice (some ⟨w.heap.size, i * 7, none⟩) (n + 1 - i) dc, .slice (some ⟨vb, 0, none⟩) 1 1]).run Tryz.prog W1 = .ok (goInt ((1 : Nat))) (W1.setRow w.heap.size r1) := fun ty dc => by
    rw [hr1]
    exact run_copy_row2 W1 _ _ ty 54 w.heap.size (i * 7) _ dc ⟨vb, 0, none⟩ 1 1 R 54 _ 1 (Tryz.underlying27) size_ma (by simp only [Nat.min_def]; split <;> omega) bN (by rw [hx2])
      (fun j v hj => by
        rw [add_lit', Nat.zero_add, bv1.cell]
        simpa using hj) (by rw [hx2, hRs]; omega) (fun v hv => cells_one_ma [x] v (by simpa using hv))
  have b2 : Blk (W1.setRow w.heap.size r1) w.heap.size 54 r1 := Blk.setRow bN
  have m2 : New w (W1.setRow w.heap.size r1) := m1.setRow (.inr (Nat.le_refl _))
  have bg2 := hbk.mod m2 (fun e => e)
  generalize W1.setRow w.heap.size r1 = W2 at *
  have hcpB : ∀ ty dc sc, (Builtin.copy_ #[27, 27] ty #[.slice (some ⟨w.heap.size, (i + 1) * 7, none⟩) (n + 1 - (i + 1)) dc, .slice (some ⟨g, i * 7, none⟩) (n - i) sc]).run Tryz.prog W2.drew = .ok (goInt ((n - i : Nat))) (W2.drew.setRow w.heap.size r2) := fun ty dc sc => by
    rw [hr2]
    exact run_copy_row2 W2.drew _ _ ty 54 w.heap.size ((i + 1) * 7) _ dc ⟨g, i * 7, none⟩ _ sc r1 54 _ (n - i) (Tryz.underlying27) size_ma (by simp only [Nat.min_def]; split <;> omega) (by exact b2) hd
      (fun j v hj => by rw [add_lit']; exact (bg2.cell (i * 7 + j)).trans (row_from_ma i hct j v hj)) (by rw [hd, hr1s]; omega) (cells_one_ma _)
  have b3 : Blk (W2.drew.setRow w.heap.size r2) w.heap.size 54 r2 := Blk.setRow (w := W2.drew) b2
  have m3 : New w (W2.drew.setRow w.heap.size r2) := (m2.drew).setRow (.inr (Nat.le_refl _))
  have hpost : RIns_ma w B (some ⟨g, 0, none⟩) (ps.take i ++ x :: ps.drop i) (.returned (.slice (some ⟨w.heap.size, 0, none⟩) (n + 1) G)) (W2.drew.setRow w.heap.size r2) := by
    have hl2 : (ps.take i ++ x :: ps.drop i).length = n + 1 := by simp; omega
    refine ⟨w.heap.size, G, by rw [hl2], ?_, m3.mono (fun _ _ e => e.elim), .inr (Nat.le_refl _)⟩
    rw [hl2]
    exact Own.of_row b3 hB hGn hGm hr2s hl2 q3
  have HP := Lib.hid hpost
  generalize W2.drew.setRow w.heap.size r2 = W3 at *
  have hz2 : ¬ ((i : Int) = (n : Int)) := by omega
  have hz2' : ((i : Int) == (n : Int)) = false := by simpa using hz2
  have hw1 : IntKind.i64.wrap ((i : Int) + (1 : Int)) = (i : Int) + (1 : Int) := by rw [IntKind.wrap_i64]; omega
  have hbb1 : (0 : Int) ≤ (i : Int) + (1 : Int) := by omega
  have hin : i ≤ n := by omega
  have htn : ((i : Int) + (1 : Int)).toNat = i + 1 := by omega
  have hb2 : ¬ (G = i + 1) := by omega
  have hb3 : (i : Int) ≤ (n : Int) := by omega
  have hb4 : ¬ (G = i) := by omega
  have hb5 : ¬ (c = i) := by omega
  have hG63 : G ≤ 9223372036854775807 := by unfold maxLen at hGm; omega
  have hc63 : c ≤ 9223372036854775807 := by unfold maxLen at hcm; omega
  have hz3 : (c : Int) < (n : Int) + 1 := by omega
  have mixed : Tryz.prog.follows .mixedOrders = true := by kernel_rfl
  clear hpost q1 q2 q3 hr1s hr2s hr1 hr2 hRs hRl hRt hli hd hx2 hlen hs hb hbk hBg hcs hct m1 m2 m3 bN bg1 bv1 b2 bg2 b3 hkk hik hgl hvl hz1
  go_enter Tryz.func66, Tryz.ntmps66
  go_wp2_with (first | (at_builtin; refine wpList_append_by2 rfl _ _ 27 3 rfl rfl rfl hrz ?_) | (refine wpList_copy_by rfl _ _ 27 27 rfl rfl rfl (fun ty => hcpA ty _) ?_))
  go_region_law_o (refine step_copy_by rfl _ _ 27 27 rfl (by simp [Act.eval, Act.put]; rfl) (by simp [Act.eval, Act.put]; rfl) (fun ty => hcpB ty _ _) ?_)
  go_wp2_with fail
  go_ret
  exact HP.out

theorem insert_ma (w : World) (B : Nat) (A : Option Addr) (n c i : Nat) (ps : List MA) (x : MA) (vb : Nat) (hs : Own w B 54 7 MA.enc A n c ps) (hb : Blk w vb 54 (encL 7 MA.enc x).toArray) (hne : blkOf A ≠ some vb) (hB : B ≤ w.heap.size) (hi : i ≤ n) (hn : n ≤ 100000) :
    Calls Tryz.prog 66 #[.slice A n c, .int .i64 i, .slice (some ⟨vb, 0, none⟩) 1 1] w (RIns_ma w B A (ps.take i ++ x :: ps.drop i)) := by
  have hlen := hs.1
  by_cases e : i = n
  · subst e
    have h := insert_end_ma w B A i c ps x vb hs hb hB hn
    rw [List.take_of_length_le (by omega), List.drop_of_length_le (by omega)]
    exact h
  · obtain ⟨g, rfl, _, _, hnc, _⟩ := hs.form (by omega)
    by_cases hr : n + 1 ≤ c
    · exact insert_shift_ma w B g n c i ps x vb hs hb (fun e => hne (by rw [e]; rfl)) (by omega) hr hn
    · exact insert_grow_ma w B g n c i ps x vb hs hb hB (by omega) (by omega) hn


end Go.Proofs.YtjfgfkbgbhbhjaaGreatDoor
