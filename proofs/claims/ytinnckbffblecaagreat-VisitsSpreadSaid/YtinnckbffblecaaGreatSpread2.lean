/- The program's player of visits in memory, and which order comes first. Conditions: right limits, orders with modest numbers. -/
import Derived.Test.YtinnckbffblecaaGreatSpread1
namespace Go.Proofs.YtinnckbffblecaaGreat
open Go.RowKit Go.MapKept
set_option linter.unusedVariables false
set_option linter.unusedSimpArgs false

abbrev ptrEnc (b : Nat) : Nat → Value := fun _ => .pointer (some ⟨b, 0, none⟩)
def gmap (gl : List (ByteArray × Nat)) : List (ByteArray × Value) := gl.map fun x => (x.1, .pointer (some ⟨x.2, 0, none⟩))
theorem einfo_ptr : EInfo Tryz.prog 128 1 8 := EInfo.of (z := .pointer none) (by kernel_rfl) rfl (by decide)

/-- the player's memory -/
structure SpAt (w : World) (B gs gc mc gm : Nat) (gl : List (ByteArray × Nat)) (A : Option Addr) (c : Nat) (ob : List Nat) (l : Lim) (batch D : Int) (p : PSt) : Prop where
  blk : Blk w gs 87 #[.pointer (some ⟨gc, 0, none⟩), .int .i64 batch, .int .i64 D, .map (some gm), .slice A p.os.length c]
  cen : CenterAt w gc mc l p.cs
  gmp : MapOf strKeys w gm (gmap gl)
  gnd : (gl.map (·.2)).Nodup
  gat : ∀ x ∈ gl, Blk w x.2 134 #[.int .i64 (p.win x.1), .int .i64 (p.stk x.1)]
  gno : ∀ g, g ∉ gl.map (·.1) → p.win g = 0 ∧ p.stk g = 0
  own : Own w B 128 1 ptrEnc A p.os.length c ob
  ond : ob.Nodup
  ord : ∀ (i b : Nat) (o : Ord), ob[i]? = some b → p.os[i]? = some o → OrdAt w b o
  ne : mc ≠ gm
  bs : B ≤ gs
  bc : B ≤ gc
  bm : B ≤ mc
  bg : B ≤ gm
  bgl : ∀ x ∈ gl, B ≤ x.2
  bob : ∀ b ∈ ob, B ≤ b

section
variable {w w' : World} {B gs gc mc gm : Nat} {gl : List (ByteArray × Nat)} {A : Option Addr} {c : Nat} {ob : List Nat} {l : Lim} {batch D : Int} {p : PSt}
theorem SpAt.len (h : SpAt w B gs gc mc gm gl A c ob l batch D p) : ob.length = p.os.length := h.own.1
theorem SpAt.new (h : SpAt w B gs gc mc gm gl A c ob l batch D p) (hm : New w w') : SpAt w' B gs gc mc gm gl A c ob l batch D p :=
  ⟨h.blk.mod hm (fun x => x), ⟨h.cen.1.mod hm (fun x => x), h.cen.2.mod hm (fun x => x)⟩, h.gmp.mod hm (fun x => x), h.gnd, fun x hx => (h.gat x hx).mod hm (fun x => x), h.gno, h.own.new hm, h.ond, fun i b o h1 h2 => (h.ord i b o h1 h2).mod hm (fun x => x),
    h.ne, h.bs, h.bc, h.bm, h.bg, h.bgl, h.bob⟩
/-- turns below B are nothing to the player -/
theorem SpAt.mod {S : Nat → Prop} (h : SpAt w B gs gc mc gm gl A c ob l batch D p) (hm : Mod S w w') (hS : ∀ i, S i → i < B) : SpAt w' B gs gc mc gm gl A c ob l batch D p :=
  ⟨h.blk.mod hm (fun x => by have := hS _ x; have := h.bs; omega), ⟨h.cen.1.mod hm (fun x => by have := hS _ x; have := h.bc; omega), h.cen.2.mod hm (fun x => by have := hS _ x; have := h.bm; omega)⟩,
    h.gmp.mod hm (fun x => by have := hS _ x; have := h.bg; omega), h.gnd, fun x hx => (h.gat x hx).mod hm (fun y => by have := hS _ y; have := h.bgl x hx; omega), h.gno,
    h.own.mod hm (fun g e x => by have := hS _ x; have := (h.own.far g e).1; omega), h.ond,
    fun i b o h1 h2 => (h.ord i b o h1 h2).mod hm (fun y => by have := hS _ y; have := h.bob b (List.mem_of_getElem? h1); omega),
    h.ne, h.bs, h.bc, h.bm, h.bg, h.bgl, h.bob⟩
end

/-- what may turn: from B on, and no row of a type beside ts -/
def Far (w : World) (B : Nat) (ts : List TypeId) (k : Nat) : Prop := B ≤ k ∧ ∀ t, TB w k t → t ∈ ts
section
variable {w w1 w2 w' : World} {B k g : Nat} {t t' : TypeId} {ts ts' : List TypeId} {cs : Array Value}
theorem TB.uniq (h : TB w g t) (h' : TB w g t') : t = t' := Classical.byContradiction fun e => h.ne h' e rfl
theorem Far.of_tb (h : TB w k t) (hB : B ≤ k) (ht : t ∈ ts) : Far w B ts k := ⟨hB, fun t' h' => by rw [← h.uniq h']; exact ht⟩
theorem Far.of_map {κ : Type} {K : Keys κ} {m : List (κ × Value)} (h : MapOf K w k m) (hB : B ≤ k) : Far w B ts k := ⟨hB, fun t' h' => absurd rfl (h.ne_blk h')⟩
theorem Far.trans (h : Mod (Far w B ts) w w1) (h1 : Mod (Far w1 B ts) w1 w2) : Mod (Far w B ts) w w2 :=
  h.step h1 (fun i hi f => ⟨f.1, fun t ht => Classical.byContradiction fun hn => hn (f.2 t (ht.mod h (fun f' => hn (f'.2 t ht))))⟩)
theorem Far.only (hf : Far w B ts k) (h : Only k w w') : Mod (Far w B ts) w w' := h.mono (fun i _ e => by subst e; exact hf)
theorem Far.blk (h : Mod (Far w B ts) w w') (hb : Blk w g t cs) (ht : t ∉ ts) : Blk w' g t cs := hb.mod h (fun f => ht (f.2 t hb.tb))
theorem Far.new (h : New w w') : Mod (Far w B ts) w w' := h.mono (fun _ _ e => e.elim)
theorem Far.mono (h : Mod (Far w B ts) w w') (hs : ∀ t ∈ ts, t ∈ ts') : Mod (Far w B ts') w w' := Mod.mono h (fun i hi f => ⟨f.1, fun t ht => hs t (f.2 t ht)⟩)
theorem Far.less {B' : Nat} (h : Mod (Far w B ts) w w') (hB : w.heap.size ≤ B) : New w w' := Mod.mono h (fun i hi f => by have := f.1; omega)
end
theorem Only.cell1 (w : World) (g i : Nat) (u : Value) : Only g w (w.setCell ⟨g, i, none⟩ u) := Mod.setCell (S := fun k => k = g) (p := ⟨g, i, none⟩) (Mod.refl _ _) (.inl rfl) u
theorem Only.cell2 (w : World) (g i j : Nat) (u v : Value) : Only g w ((w.setCell ⟨g, i, none⟩ u).setCell ⟨g, j, none⟩ v) := Mod.setCell (S := fun k => k = g) (p := ⟨g, j, none⟩) (Only.cell1 w g i u) (.inl rfl) v
abbrev gateT : List TypeId := [134]
abbrev spT : List TypeId := [87, 127, 134, 128, 138]

def ptrOf (ob : List Nat) (r : Option Nat) : Option Addr := r.bind fun j => ob[j]?.map fun b => ⟨b, 0, none⟩

theorem pickN_none {T : Int} {es : List Ev} {k : Nat} {e : Ev} (hk : es[k]? = some e) (h : e.at_ ≤ T) (hn : pickN T es k = none) : pickN T es (k + 1) = some k := by
  rw [pickN, hk]; simp only [if_pos h, hn]
theorem pickN_late {T : Int} {es : List Ev} {k : Nat} {e : Ev} (hk : es[k]? = some e) (h : ¬ e.at_ ≤ T) : pickN T es (k + 1) = pickN T es k := by
  rw [pickN, hk]; simp only [if_neg h]
theorem pickN_lt {T : Int} {es : List Ev} {k j : Nat} {e f : Ev} (hk : es[k]? = some e) (h : e.at_ ≤ T) (hn : pickN T es k = some j) (hj : es[j]? = some f) : pickN T es (k + 1) = if evCmp e f < 0 then some k else some j := by
  rw [pickN, hk]; simp only [if_pos h, hn, hj, Option.getD_some]

set_option maxRecDepth 100000 in
set_option maxHeartbeats 2000000 in
theorem spread_first (w : World) (B gs gc mc gm : Nat) (gl : List (ByteArray × Nat)) (A : Option Addr) (c : Nat) (ob : List Nat) (l : Lim) (batch D : Int) (p : PSt) (h : SpAt w B gs gc mc gm gl A c ob l batch D p)
    (hD : 0 ≤ D ∧ D ≤ 8640000000) (hm : ∀ o ∈ p.os, o.Mild) (hn : p.os.length ≤ 1000000) (T : Int) :
    Calls Tryz.prog 71 #[.pointer (some ⟨gs, 0, none⟩), .int .i64 T] w fun e w' => e = .returned (.pointer (ptrOf ob (pick T (p.os.map (Ord.ev D))))) ∧ New w w' := by
  have s4 := h.blk.cell 4
  simp at s4
  have hlen := h.len
  have HM := Lib.hid hm
  have HH := Lib.hid h
  generalize hes : p.os.map (Ord.ev D) = es
  have hesl : es.length = p.os.length := by rw [← hes]; simp
  have HES := Lib.hid hes
  clear h hm hes
  go_enter Tryz.func71, Tryz.ntmps71
  go_wp2_with fail
  go_loopw [5, 7, 13] (fun t _ i wr => ∃ k : Nat, k ≤ p.os.length ∧ i = .int .i64 k ∧ New w wr ∧ t = .pointer (ptrOf ob (pickN T es k))) (fun _ _ i _ => p.os.length - (intOf i).toNat)
  case atStart => exact ⟨0, Nat.zero_le _, rfl, Mod.refl _ _, rfl⟩
  case round =>
    rename_i wr
    obtain ⟨k, hk, rfl, hm, rfl⟩ := hrel
    by_cases hlt : k < p.os.length
    · have hh := HH.out.new hm
      obtain ⟨g, o, rfl, hg, hc⟩ := hh.own.sl.2 (by omega)
      have ck : wr.cell? ⟨g, o + k, none⟩ = some (.pointer (some ⟨ob[k]'(by omega), 0, none⟩)) := by simpa using hc k (by omega) 0 (by omega)
      have hbk : ob[k]? = some (ob[k]'(by omega)) := by simp
      have hok : p.os[k]? = some (p.os[k]) := by simp
      have hek : es[k]? = some (p.os[k].ev D) := by rw [← HES.out, List.getElem?_map, hok]; rfl
      have hmild := HM.out _ (List.getElem_mem hlt)
      have hord := hh.ord k _ _ hbk hok
      have hb1 : (0 : Int) ≤ k := by omega
      have hb2 : (k : Int) < p.os.length := by omega
      have HEK := Lib.hid hek
      have hpt : ptrOf ob (some k) = some ⟨ob[k]'(by omega), 0, none⟩ := by simp [ptrOf, hbk]
      have HPT := Lib.hid hpt
      have hsp := pickN_spec T es k (by omega)
      clear hc hbk hok hek hpt
      generalize hob : ob[k]'(by omega) = b at *
      generalize hoo : p.os[k] = oo at *
      clear hob hoo
      have hnx := spread_next gs b _ _ _ _ D oo wr hh.blk hord hD hmild.1
      by_cases hT : oo.next D ≤ T
      · rcases hsp with ⟨hpn, -⟩ | ⟨j, f, hpn, hj, hjf, -⟩
        · have hpk := pickN_none HEK.out hT hpn
          have HPK := Lib.hid hpk
          have hpz : ptrOf ob none = none := rfl
          rw [hpn, hpz]
          clear hpn hpk hpz
          go_wp2_with (go_at_call 88; refine hnx.mono ?_; clear hnx; rintro e w1 ⟨rfl, q, rfl⟩)
          refine ⟨⟨k + 1, by omega, by go_num, hm.drewN _, by rw [HPK.out, HPT.out]⟩, by simp [intOf]; omega⟩
        · have hpk := pickN_lt HEK.out hT hpn hjf
          have HPK := Lib.hid hpk
          have hbj : ob[j]? = some (ob[j]'(by omega)) := by simp
          have hoj : p.os[j]? = some (p.os[j]) := by rw [List.getElem?_eq_getElem (by omega)]
          have hf : f = p.os[j].ev D := by
            rw [← HES.out, List.getElem?_map, hoj] at hjf; injection hjf with hjf; exact hjf.symm
          subst hf
          have hordj := hh.ord j _ _ hbj hoj
          have hmj := HM.out p.os[j] (List.getElem_mem _)
          have hptj : ptrOf ob (some j) = some ⟨ob[j]'(by omega), 0, none⟩ := by simp [ptrOf, hbj]
          have HPJ := Lib.hid hptj
          rw [hpn, hptj]
          clear hpn hpk hbj hoj hjf hptj
          generalize hob : ob[j]'(by omega) = bj at *
          generalize hoo : p.os[j] = oj at *
          clear hob hoo
          have hcm := fun q : Nat => spread_compare gs b bj _ _ _ _ D oo oj (wr.drewN q) hh.blk hord hordj hD hmild.1 hmj.1
          have HCM := Lib.hid hcm
          clear hcm
          generalize hv : evCmp (oo.ev D) (oj.ev D) = cv at *
          clear hv
          by_cases hcv : cv < 0
          · have hk2 := HPK.out
            rw [if_pos hcv] at hk2
            have HK2 := Lib.hid hk2
            clear hk2
            go_wp2_with (first | (go_at_call 88; refine hnx.mono ?_; clear hnx; rintro e w1 ⟨rfl, q, rfl⟩) | (go_at_call 89; with_reducible refine (HCM.out _).mono ?_; rintro e w1 ⟨rfl, hm1⟩))
            refine ⟨⟨k + 1, by omega, by go_num, (hm.drewN _).trans hm1, by rw [HK2.out, HPT.out]⟩, by simp [intOf]; omega⟩
          · have hk2 := HPK.out
            rw [if_neg hcv] at hk2
            have HK2 := Lib.hid hk2
            clear hk2
            go_wp2_with (first | (go_at_call 88; refine hnx.mono ?_; clear hnx; rintro e w1 ⟨rfl, q, rfl⟩) | (go_at_call 89; with_reducible refine (HCM.out _).mono ?_; rintro e w1 ⟨rfl, hm1⟩))
            refine ⟨⟨k + 1, by omega, by go_num, (hm.drewN _).trans hm1, by rw [HK2.out, HPJ.out]⟩, by simp [intOf]; omega⟩
      · have hpk := pickN_late HEK.out hT
        have HPK := Lib.hid hpk
        clear hpk hsp
        generalize hpp : ptrOf ob (pickN T es k) = pp at *
        have HPP := Lib.hid hpp
        clear hpp
        go_wp2_with (go_at_call 88; refine hnx.mono ?_; clear hnx; rintro e w1 ⟨rfl, q, rfl⟩)
        refine ⟨⟨k + 1, by omega, by go_num, hm.drewN _, by rw [HPK.out, HPP.out]⟩, by simp [intOf]; omega⟩
    · obtain rfl : k = p.os.length := by omega
      go_wp2_with fail
      go_ret
      exact ⟨by rw [pick, hesl]; rfl, hm⟩

end Go.Proofs.YtinnckbffblecaaGreat
