/- The program's player of visits: the gateways' stocks. Conditions: right limits, modest numbers. -/
import Derived.Test.YtinnckbffblecaaGreatSpread2
namespace Go.Proofs.YtinnckbffblecaaGreat
open Go.RowKit Go.MapKept
set_option linter.unusedVariables false
set_option linter.unusedSimpArgs false

theorem MapOf.nodup' {κ : Type} {K : Keys κ} {w : World} {b : Nat} {m : List (κ × Value)} (h : MapOf K w b m) : (m.map (·.1)).Nodup := by
  obtain ⟨es, clock, _, hs, he⟩ := h; exact MapOf.nodup hs he
theorem gmap_keys (gl : List (ByteArray × Nat)) : (gmap gl).map (·.1) = gl.map (·.1) := by simp [gmap, Function.comp_def]
theorem gmap_get (gl : List (ByteArray × Nat)) (g : ByteArray) : (aget (gmap gl) g = none ∧ g ∉ gl.map (·.1)) ∨ ∃ b, (g, b) ∈ gl ∧ aget (gmap gl) g = some (.pointer (some ⟨b, 0, none⟩)) := by
  unfold aget gmap
  induction gl with
  | nil => exact .inl ⟨rfl, by simp⟩
  | cons x gl ih =>
    simp only [List.map_cons, List.find?_cons]
    by_cases e : x.1 = g
    · right
      refine ⟨x.2, by rw [← e]; simp, ?_⟩
      simp [e]
    · simp only [e, decide_false]
      rcases ih with ⟨h1, h2⟩ | ⟨b, h1, h2⟩
      · left; refine ⟨h1, ?_⟩; simp only [List.mem_cons, not_or]; exact ⟨fun h => e h.symm, h2⟩
      · right; exact ⟨b, List.mem_cons_of_mem _ h1, h2⟩

section
variable {w w' : World} {B gs gc mc gm : Nat} {gl : List (ByteArray × Nat)} {A : Option Addr} {c : Nat} {ob : List Nat} {l : Lim} {batch D : Int} {p : PSt}
theorem SpAt.keys (h : SpAt w B gs gc mc gm gl A c ob l batch D p) : (gl.map (·.1)).Nodup := by rw [← gmap_keys]; exact h.gmp.nodup'
/-- a gateway's block is none of the others -/
theorem SpAt.apart (h : SpAt w B gs gc mc gm gl A c ob l batch D p) {gb : Nat} (hb : TB w gb 134) : gs ≠ gb ∧ gc ≠ gb ∧ mc ≠ gb ∧ gm ≠ gb ∧ (∀ (i b : Nat) (o : Ord), ob[i]? = some b → p.os[i]? = some o → b ≠ gb) ∧ ∀ g, blkOf A = some g → g ≠ gb :=
  ⟨h.blk.tb.ne hb (by decide), h.cen.1.tb.ne hb (by decide), fun e => (h.cen.2.ne_blk hb) e.symm, fun e => (h.gmp.ne_blk hb) e.symm, fun i b o h1 h2 => (h.ord i b o h1 h2).tb.ne hb (by decide), fun g e => by
    rcases h.own.blk with ⟨hA, _⟩ | ⟨g', hA, _, ht⟩
    · rw [hA] at e; cases e
    · rw [hA] at e; injection e with e; subst e; exact ht.ne hb (by decide)⟩
theorem SpAt.setGate (h : SpAt w B gs gc mc gm gl A c ob l batch D p) {gate : ByteArray} {gb : Nat} (hg : (gate, gb) ∈ gl) {W S : Int} (hb : Blk w' gb 134 #[.int .i64 W, .int .i64 S]) (ho : Only gb w w') :
    SpAt w' B gs gc mc gm gl A c ob l batch D { p with win := upd p.win gate W, stk := upd p.stk gate S } := by
  obtain ⟨n1, n2, n3, n4, n5, n6⟩ := h.apart (h.gat _ hg).tb
  refine ⟨h.blk.mod ho n1, ⟨h.cen.1.mod ho n2, h.cen.2.mod ho n3⟩, h.gmp.mod ho n4, h.gnd, ?_, ?_, h.own.mod ho n6, h.ond, fun i b o h1 h2 => (h.ord i b o h1 h2).mod ho (n5 i b o h1 h2), h.ne, h.bs, h.bc, h.bm, h.bg, h.bgl, h.bob⟩
  · intro x hx
    by_cases e : x.1 = gate
    · have hxe : x = (gate, gb) := nodup_inj h.keys hx hg e
      subst hxe
      simp only [upd_same]
      exact hb
    · simp only [upd_ne _ _ e]
      refine (h.gat x hx).mod ho (fun e2 => e ?_)
      exact congrArg Prod.fst (nodup_inj h.gnd hx hg e2)
  · intro g hg2
    have e : g ≠ gate := fun e => hg2 (List.mem_map.2 ⟨_, hg, e.symm⟩)
    simp only [upd_ne _ _ e]
    exact h.gno g hg2
theorem SpAt.addGate (h : SpAt w B gs gc mc gm gl A c ob l batch D p) {gate : ByteArray} (hn : gate ∉ gl.map (·.1)) {gb : Nat} (hb : Blk w gb 134 #[.int .i64 0, .int .i64 0]) (hnew : ∀ x ∈ gl, x.2 ≠ gb) (hB : B ≤ gb) (hm : MapOf strKeys w' gm (aput (gmap gl) gate (.pointer (some ⟨gb, 0, none⟩)))) (ho : Only gm w w') :
    SpAt w' B gs gc mc gm (gl ++ [(gate, gb)]) A c ob l batch D p := by
  have hput : aput (gmap gl) gate (.pointer (some ⟨gb, 0, none⟩)) = gmap (gl ++ [(gate, gb)]) := by
    rcases gmap_get gl gate with ⟨h1, _⟩ | ⟨b, h1, _⟩
    · unfold aput; rw [h1]; simp [gmap]
    · exact absurd (List.mem_map.2 ⟨_, h1, rfl⟩) hn
  rw [hput] at hm
  have hz := h.gno gate hn
  refine ⟨h.blk.mod ho (h.gmp.ne_blk h.blk.tb), ⟨h.cen.1.mod ho (h.gmp.ne_blk h.cen.1.tb), h.cen.2.mod ho h.ne⟩, hm, ?_, ?_, ?_, h.own.mod ho (fun g e => ?_), h.ond, fun i b o h1 h2 => (h.ord i b o h1 h2).mod ho (h.gmp.ne_blk (h.ord i b o h1 h2).tb), h.ne, h.bs, h.bc, h.bm, h.bg, ?_, h.bob⟩
  · rw [List.map_append, List.nodup_append]
    refine ⟨h.gnd, by simp, ?_⟩
    intro a ha b hb2 e
    simp at hb2
    subst hb2
    obtain ⟨x, hx, hxe⟩ := List.mem_map.1 ha
    exact hnew x hx (hxe.trans e)
  · intro x hx
    rcases List.mem_append.1 hx with hx | hx
    · exact (h.gat x hx).mod ho (h.gmp.ne_blk (h.gat x hx).tb)
    · simp at hx
      subst hx
      simp only [hz.1, hz.2]
      exact hb.mod ho (h.gmp.ne_blk hb.tb)
  · intro g hg
    refine h.gno g (fun h2 => hg ?_)
    rw [List.map_append]
    exact List.mem_append_left _ h2
  · rcases h.own.blk with ⟨hA, _⟩ | ⟨g', hA, _, ht⟩
    · rw [hA] at e; cases e
    · rw [hA] at e; injection e with e; subst e; exact h.gmp.ne_blk ht
  · intro x hx
    rcases List.mem_append.1 hx with hx | hx
    · exact h.bgl x hx
    · simp at hx; subst hx; exact hB
end

theorem zero_gate (w : World) : (zeroValue 131).run Tryz.prog w = .ok (.pointer none) w := by kernel_rfl
theorem look_gate {w : World} {gm : Nat} {gl : List (ByteArray × Nat)} (h : MapOf strKeys w gm (gmap gl)) (gate : ByteArray) :
    (Instr.lookup 84 (.map (some gm)) (.string gate) false).run Tryz.prog w = .ok ((aget (gmap gl) gate).getD (.pointer none)) w :=
  run_lookup (K := strKeys) Tryz.underlying84 Tryz.underlying9 (zero_gate w) h gate

def RStock (w : World) (B gs gc mc gm : Nat) (A : Option Addr) (c : Nat) (ob : List Nat) (l : Lim) (batch D : Int) (p : PSt) (gate : ByteArray) (e : Ending) (w' : World) : Prop :=
  ∃ gb gl', e = .returned (.pointer (some ⟨gb, 0, none⟩)) ∧ (gate, gb) ∈ gl' ∧ SpAt w' B gs gc mc gm gl' A c ob l batch D p ∧ Mod (Far w B gateT) w w'

set_option maxRecDepth 100000 in
set_option maxHeartbeats 2000000 in
theorem spread_stock (w : World) (B gs gc mc gm : Nat) (gl : List (ByteArray × Nat)) (A : Option Addr) (c : Nat) (ob : List Nat) (l : Lim) (batch D : Int) (p : PSt) (h : SpAt w B gs gc mc gm gl A c ob l batch D p) (hl : WLim l)
    (gate : ByteArray) (t : Int) (ht0 : 0 ≤ t) (ht1 : t ≤ 1000000000000) :
    Calls Tryz.prog 73 #[.pointer (some ⟨gs, 0, none⟩), .string gate, .int .i64 t] w (RStock w B gs gc mc gm A c ob l batch D (stockP l p gate t) gate) := by
  have hlk := fun w h => @look_gate w gm gl h gate
  have s0 := h.blk.cell 0
  have s3 := h.blk.cell 3
  have hgs := h.blk.lt
  have hbs := h.bs
  have hper1 := hl.per.1
  have hper2 := hl.per.2
  simp at s0 s3
  have hk := hlk w h.gmp
  clear hlk
  rcases gmap_get gl gate with ⟨hget, hno⟩ | ⟨gb, hin, hget⟩
  · rw [hget] at hk
    simp only [Option.getD_none] at hk
    have hgl : ∀ x ∈ gl, x.2 < w.heap.size := fun x hx => (h.gat x hx).lt
    have h1 := h.new ((Mod.refl (fun _ => False) w).alloc (.cells #[.int .i64 0, .int .i64 0] 134))
    have HH1 := Lib.hid h1
    have HNO := Lib.hid hno
    have HGL := Lib.hid hgl
    have hmp := h1.gmp
    clear h h1 hno hget hgl
    go_enter Tryz.func73, Tryz.ntmps73
    go_upto_region 5 with (at_mapUpdate; refine wpList_mapPut (K := strKeys) rfl _ _ _ _ rfl Tryz.underlying84 Tryz.underlying9 rfl hmp gate rfl _ rfl ?_; intro w2 hmap2 ho2 hz2)
    have hsp := HH1.out.addGate HNO.out (Blk.new _ _ _) (fun x hx => by have := HGL.out x hx; omega) (by omega) hmap2 ho2
    have hm2 : Mod (Far w B gateT) w w2 := Far.trans (Far.new ((Mod.refl (fun _ => False) w).alloc (.cells #[.int .i64 0, .int .i64 0] 134))) (Far.only (Far.of_map HH1.out.gmp HH1.out.bg) ho2)
    have hgm : (gate, w.heap.size) ∈ gl ++ [(gate, w.heap.size)] := by simp
    clear hmap2 ho2 hk s0 s3 hmp
    have hw3 := (hsp).gat _ hgm
    have z0 := hw3.cell 0
    have z1 := hw3.cell 1
    have zf0 := hw3.frozen 0
    have zf1 := hw3.frozen 1
    have y0 := (hsp).blk.cell 0
    have yc := (hsp).cen.1.cell 3
    simp at z0 z1 y0 yc
    have HSP := Lib.hid hsp
    have HW3 := Lib.hid hw3
    by_cases hwin : t / l.per = p.win gate
    · have hpe : stockP l p gate t = p := by unfold stockP; rw [if_pos hwin]
      rw [← hwin] at z0
      have HPE := Lib.hid hpe
      clear hpe hwin hw3
      go_wp2_with fail
      go_ret
      exact ⟨_, _, rfl, hgm, by rw [HPE.out]; exact HSP.out, hm2⟩
    · have hwin' : (t / l.per != p.win gate) = true := by simpa using hwin
      have hpe : stockP l p gate t = { p with win := upd p.win gate (t / l.per), stk := upd p.stk gate 0 } := by unfold stockP; rw [if_neg hwin]
      have HPE := Lib.hid hpe
      clear hpe hw3
      have hbl := HSP.out.bgl _ hgm
      go_wp2_with fail
      go_ret
      refine ⟨_, _, rfl, hgm, ?_, ?_⟩
      · rw [HPE.out]
        refine HSP.out.setGate hgm ?_ ?_
        · simpa using (HW3.out.set 0 (.int .i64 (t / l.per))).set 1 (.int .i64 0)
        · refine Mod.setCell (Mod.setCell (Mod.refl _ _) (.inl ?_) _) (.inl ?_) _ <;> rfl
      · exact Far.trans hm2 (Far.only (Far.of_tb (HSP.out.gat _ hgm).tb hbl (by simp)) (by refine Mod.setCell (Mod.setCell (Mod.refl _ _) (.inl ?_) _) (.inl ?_) _ <;> rfl))
  · rw [hget] at hk
    simp only [Option.getD_some] at hk
    have hm2 : Mod (Far w B gateT) w w := Mod.refl _ _
    clear hget
    go_enter Tryz.func73, Tryz.ntmps73
    have hw3 := (h).gat _ hin
    have z0 := hw3.cell 0
    have z1 := hw3.cell 1
    have zf0 := hw3.frozen 0
    have zf1 := hw3.frozen 1
    have y0 := (h).blk.cell 0
    have yc := (h).cen.1.cell 3
    simp at z0 z1 y0 yc
    have HSP := Lib.hid h
    have HW3 := Lib.hid hw3
    by_cases hwin : t / l.per = p.win gate
    · have hpe : stockP l p gate t = p := by unfold stockP; rw [if_pos hwin]
      rw [← hwin] at z0
      have HPE := Lib.hid hpe
      clear hpe hwin hw3
      go_wp2_with fail
      go_ret
      exact ⟨_, _, rfl, hin, by rw [HPE.out]; exact HSP.out, hm2⟩
    · have hwin' : (t / l.per != p.win gate) = true := by simpa using hwin
      have hpe : stockP l p gate t = { p with win := upd p.win gate (t / l.per), stk := upd p.stk gate 0 } := by unfold stockP; rw [if_neg hwin]
      have HPE := Lib.hid hpe
      clear hpe hw3
      have hbl := HSP.out.bgl _ hin
      go_wp2_with fail
      go_ret
      refine ⟨_, _, rfl, hin, ?_, ?_⟩
      · rw [HPE.out]
        refine HSP.out.setGate hin ?_ ?_
        · simpa using (HW3.out.set 0 (.int .i64 (t / l.per))).set 1 (.int .i64 0)
        · refine Mod.setCell (Mod.setCell (Mod.refl _ _) (.inl ?_) _) (.inl ?_) _ <;> rfl
      · exact Far.trans hm2 (Far.only (Far.of_tb (HSP.out.gat _ hin).tb hbl (by simp)) (by refine Mod.setCell (Mod.setCell (Mod.refl _ _) (.inl ?_) _) (.inl ?_) _ <;> rfl))

set_option maxHeartbeats 1000000 in
theorem gate_take (w : World) (B gs gc mc gm : Nat) (gl : List (ByteArray × Nat)) (A : Option Addr) (c : Nat) (ob : List Nat) (l : Lim) (batch D : Int) (p : PSt) (h : SpAt w B gs gc mc gm gl A c ob l batch D p)
    (gate : ByteArray) (gb : Nat) (hg : (gate, gb) ∈ gl) (cost : Int) (hc : 1 ≤ cost ∧ cost ≤ 1000000000) (hs0 : 0 ≤ p.stk gate) (hs1 : p.stk gate ≤ 1000000000000000) :
    Calls Tryz.prog 74 #[.pointer (some ⟨gb, 0, none⟩), .int .i64 cost] w fun e w' => e = .returned (.bool (takeP p gate cost).1) ∧ SpAt w' B gs gc mc gm gl A c ob l batch D (takeP p gate cost).2 ∧ Mod (Far w B gateT) w w' := by
  have hb := h.gat _ hg
  have c1 := hb.cell 1
  have f1 := hb.frozen 1
  have hbl := h.bgl _ hg
  have hHH := Lib.hid h
  have hHB := Lib.hid hb
  simp at c1
  obtain ⟨k1, k2⟩ := hc
  clear h hb
  by_cases hle : cost ≤ p.stk gate
  · have hlt : ¬ p.stk gate < cost := by omega
    have HT : Hid (takeP p gate cost = (true, addP p gate (-cost))) := Lib.hid (by unfold takeP; rw [if_pos hle])
    go_enter Tryz.func74, Tryz.ntmps74
    go_wp2_with fail
    go_ret
    refine ⟨by rw [HT.out]; rfl, ?_, Far.only (Far.of_tb hHB.out.tb hbl (by simp)) (Only.cell1 _ _ _ _)⟩
    rw [HT.out]
    have := hHH.out.setGate hg (W := p.win gate) (S := p.stk gate - cost) (by simpa using hHB.out.set 1 (.int .i64 (p.stk gate - cost))) ((Mod.refl (fun k => k = gb) _).setCell (.inl rfl) _)
    rw [upd_self] at this
    exact this
  · have hlt : p.stk gate < cost := by omega
    have HT : Hid (takeP p gate cost = (false, p)) := Lib.hid (by unfold takeP; rw [if_neg hle])
    go_enter Tryz.func74, Tryz.ntmps74
    go_wp2_with fail
    go_ret
    exact ⟨by rw [HT.out]; rfl, by rw [HT.out]; exact hHH.out, Mod.refl _ _⟩

end Go.Proofs.YtinnckbffblecaaGreat
