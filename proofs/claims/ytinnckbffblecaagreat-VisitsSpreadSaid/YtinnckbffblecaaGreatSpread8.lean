/- Spread: all visits. Conditions: slices that can be read. -/
import Derived.Test.YtinnckbffblecaaGreatSpread7
namespace Go.Proofs.YtinnckbffblecaaGreat
open Go.RowKit Go.MapKept
set_option linter.unusedVariables false
set_option linter.unusedSimpArgs false

section
variable {w w' : World} {B gs gc mc gm : Nat} {gl : List (ByteArray × Nat)} {A : Option Addr} {c : Nat} {ob : List Nat} {l : Lim} {batch D : Int} {p : PSt}
/-- turns in rows of other types are nothing to the player -/
theorem SpAt.modT {S : Nat → Prop} (h : SpAt w B gs gc mc gm gl A c ob l batch D p) (hm : Mod S w w') (hS : ∀ i, S i → ∃ t, TB w i t ∧ t ∉ spT) : SpAt w' B gs gc mc gm gl A c ob l batch D p := by
  have n1 : ∀ {b : Nat} {t : TypeId}, TB w b t → t ∈ spT → ¬ S b := fun hb ht e => by
    obtain ⟨t', ht', hn⟩ := hS _ e
    rw [hb.uniq ht'] at ht
    exact hn ht
  have n2 : ∀ {b : Nat} {m : List (ByteArray × Value)}, MapOf strKeys w b m → ¬ S b := fun hb e => by
    obtain ⟨t', ht', hn⟩ := hS _ e
    exact hb.ne_blk ht' rfl
  refine ⟨h.blk.mod hm (n1 h.blk.tb (by simp)), ⟨h.cen.1.mod hm (n1 h.cen.1.tb (by simp)), h.cen.2.mod hm (n2 h.cen.2)⟩, h.gmp.mod hm (n2 h.gmp), h.gnd, fun x hx => (h.gat x hx).mod hm (n1 (h.gat x hx).tb (by simp)), h.gno, h.own.mod hm (fun g e => ?_), h.ond, fun i b o h1 h2 => (h.ord i b o h1 h2).mod hm (n1 (h.ord i b o h1 h2).tb (by simp)), h.ne, h.bs, h.bc, h.bm, h.bg, h.bgl, h.bob⟩
  rcases h.own.blk with ⟨hA, _⟩ | ⟨g', hA, _, hg⟩
  · rw [hA] at e; cases e
  · rw [hA] at e; injection e with e; subst e; exact n1 hg (by simp)
end

def gatesM (vs : List VisD) : Nat → List (ByteArray × Value)
  | 0 => []
  | k + 1 => match vs[k]? with
    | none => gatesM vs k
    | some v => aput (gatesM vs k) v.gate (.bool true)
theorem gatesM_succ {vs : List VisD} {k : Nat} {v : VisD} (h : vs[k]? = some v) : gatesM vs (k + 1) = aput (gatesM vs k) v.gate (.bool true) := by rw [gatesM, h]
def inR (n a b : Int) : Bool := decide (a ≤ n) && decide (n ≤ b)
def spreadF (l : Lim) (batch D : Int) (vs : List VisD) : Int :=
  if winF l ≠ 0 then winF l else if !inR batch 1 1000000000 || !inR D 0 8640000000 then 1 else if visitsFault vs ≠ 0 then visitsFault vs else if 50 < (gatesM vs vs.length).length then 12 else 0

abbrev boolEnc (x : Bool) : Nat → Value := fun _ => .bool x
theorem einfo_bool : EInfo Tryz.prog 4 1 1 := EInfo.of (z := .bool false) (by kernel_rfl) rfl (by decide)
abbrev BoolOwn (w : World) (B : Nat) (A : Option Addr) (n c : Nat) (xs : List Bool) : Prop := Own w B 4 1 boolEnc A n c xs

def RSpread (w : World) (l : Lim) (batch D : Int) (vs : List VisD) (e : Ending) (w' : World) : Prop :=
  ((spreadF l batch D vs ≠ 0 ∧ e = .returned (.tuple #[.slice none 0 0, .int .i64 (spreadF l batch D vs)])) ∨ (spreadF l batch D vs = 0 ∧ ∃ A c, e = .returned (.tuple #[.slice A vs.length c, .int .i64 0]) ∧ BoolOwn w' w.heap.size A vs.length c (outP l batch D vs vs.length))) ∧ New w w'

def SpreadArgs (w : World) (l : Lim) (vs : List VisD) (A : Option Addr) (n : Nat) : Prop := VisRows w A n vs ∧ n ≤ 100000 ∧ (∀ a ∈ vs, a.gate.size ≤ maxLen) ∧ l.key.size ≤ maxLen

set_option maxRecDepth 100000 in
set_option maxHeartbeats 2000000 in
theorem limit_Spread (w : World) (l : Lim) (batch D : Int) (vs : List VisD) (A : Option Addr) (n c : Nat) (h : SpreadArgs w l vs A n) :
    Calls Tryz.prog 12 #[l.val, .int .i64 batch, .int .i64 D, .slice A n c] w (RSpread w l batch D vs) := by
  obtain ⟨hv, hn, hsz, hks⟩ := h
  have hlen := hv.1
  have hA1 := (Mod.refl (fun _ => False) w).alloc (.cells #[.string l.key, .int .i64 l.kind, .int .i64 l.most, .int .i64 l.per, .int .i64 l.burst] 28)
  have hx1 := Blk.new w 28 #[.string l.key, .int .i64 l.kind, .int .i64 l.most, .int .i64 l.per, .int .i64 l.burst]
  have HV := Lib.hid hv
  have HX := Lib.hid hx1
  have HSZ := Lib.hid hsz
  have HLN := Lib.hid hlen
  have hzx : w.heap.size < (w.alloc (.cells #[.string l.key, .int .i64 l.kind, .int .i64 l.most, .int .i64 l.per, .int .i64 l.burst] 28)).heap.size := by simp
  unfold Lim.val
  clear hv hx1 hsz hlen
  go_enter Tryz.func12, Tryz.ntmps12
  go_upto_region 1 with (fail)
  generalize hxb : w.heap.size = xb at *
  have HXB := Lib.hid hxb
  clear hxb
  generalize w.alloc (.cells #[.string l.key, .int .i64 l.kind, .int .i64 l.most, .int .i64 l.per, .int .i64 l.burst] 28) = w1 at *
  have y0 := HX.out.cell 0
  have y1 := HX.out.cell 1
  have y2 := HX.out.cell 2
  have y3 := HX.out.cell 3
  have y4 := HX.out.cell 4
  simp at y0 y1 y2 y3 y4
  have hwf := limit_windowFault l w1 hks
  unfold Lim.val at hwf
  go_wp2_with fail
  refine hwf.mono ?_
  clear hwf
  rintro e w2 ⟨rfl, hm2⟩
  have hm2w : New w w2 := hA1.trans hm2
  by_cases hf1 : winF l = 0
  case neg =>
    have hf1' : (winF l != 0) = true := by simpa using hf1
    have HF : Hid (spreadF l batch D vs = winF l) := Lib.hid (by unfold spreadF; rw [if_pos hf1])
    have HF1 := Lib.hid hf1
    clear hf1
    go_wp2_with fail
    go_ret2
    exact ⟨.inl ⟨by rw [HF.out]; exact HF1.out, by rw [HF.out]; rfl⟩, hm2w⟩
  case pos =>
  have hwl := WLim.of_fault hf1
  have HF1 := Lib.hid hf1
  rw [hf1]
  clear hf1
  have hob := outside_any batch 1 1000000000
  have hod := outside_any D 0 8640000000
  have e1 : (decide (1 ≤ batch) && decide (batch ≤ 1000000000)) = inR batch 1 1000000000 := rfl
  have e2 : (decide (0 ≤ D) && decide (D ≤ 8640000000)) = inR D 0 8640000000 := rfl
  rw [e1] at hob
  rw [e2] at hod
  have HOB := Lib.hid hob
  have HOD := Lib.hid hod
  clear e1 e2 hob hod
  cases hib : inR batch 1 1000000000 with
  | false =>
    have HF : Hid (spreadF l batch D vs = 1) := Lib.hid (by unfold spreadF; rw [if_neg (by simp [HF1.out]), hib]; rfl)
    have hob := HOB.out
    rw [hib] at hob
    clear hib HOB
    go_wp2_with (first | (go_at_call 42; refine (hob _).mono ?_; clear hob; rintro e w3 ⟨rfl, rfl⟩))
    go_ret2
    exact ⟨.inl ⟨by rw [HF.out]; decide, by rw [HF.out]; rfl⟩, hm2w⟩
  | true =>
  cases hid : inR D 0 8640000000 with
  | false =>
    have HF : Hid (spreadF l batch D vs = 1) := Lib.hid (by unfold spreadF; rw [if_neg (by simp [HF1.out]), hib, hid]; rfl)
    have hob := HOB.out
    have hod := HOD.out
    rw [hib] at hob
    rw [hid] at hod
    clear hib hid HOB HOD
    go_wp2_with (first | (go_at_call 42; with_reducible refine (hob _).mono ?_; clear hob; rintro e w3 ⟨rfl, rfl⟩) | (go_at_call 42; with_reducible refine (hod _).mono ?_; clear hod; rintro e w3 ⟨rfl, rfl⟩))
    go_ret2
    exact ⟨.inl ⟨by rw [HF.out]; decide, by rw [HF.out]; rfl⟩, hm2w⟩
  | true =>
  have hob := HOB.out
  have hod := HOD.out
  rw [hib] at hob
  rw [hid] at hod
  have hbt : 1 ≤ batch ∧ batch ≤ 1000000000 := by unfold inR at hib; simpa using hib
  have hDt : 0 ≤ D ∧ D ≤ 8640000000 := by unfold inR at hid; simpa using hid
  have hcv := limit_checkVisits vs A n c w2 (HV.out.new hm2w) (by omega) HSZ.out
  have HIB := Lib.hid hib
  have HID := Lib.hid hid
  clear hib hid HOB HOD
  go_upto_region 6 with (first | (go_at_call 42; with_reducible refine (hob _).mono ?_; clear hob; rintro e w3 ⟨rfl, rfl⟩) | (go_at_call 42; with_reducible refine (hod _).mono ?_; clear hod; rintro e w3 ⟨rfl, rfl⟩))
  go_wp2_with fail
  refine hcv.mono ?_
  clear hcv
  rintro e w3 ⟨rfl, hm3⟩
  have hm3w : New w w3 := hm2w.trans hm3
  by_cases hf2 : visitsFault vs = 0
  case neg =>
    have hf2' : (visitsFault vs != 0) = true := by simpa using hf2
    have HF : Hid (spreadF l batch D vs = visitsFault vs) := Lib.hid (by unfold spreadF; rw [if_neg (by simp [HF1.out]), HIB.out, HID.out]; simp [hf2])
    have HF2 := Lib.hid hf2
    clear hf2
    go_wp2_with fail
    go_ret2
    exact ⟨.inl ⟨by rw [HF.out]; exact HF2.out, by rw [HF.out]; rfl⟩, hm3w⟩
  case pos =>
  have HF2 := Lib.hid hf2
  rw [hf2]
  clear hf2
  have hmm := @run_makeMap Tryz.prog
  have hzz := hm2.size
  have hzz3 := hm3.size
  go_wp2_with fail
  have hmp0 : MapOf strKeys (w3.alloc (.map #[] 0)) w3.heap.size [] := MapOf.made (heap_alloc_new w3 _)
  have hn10 : New w1 (w3.alloc (.map #[] 0)) := (hm2.trans hm3).alloc _
  generalize hgm : w3.heap.size = gm at *
  generalize w3.alloc (.map #[] 0) = w4 at *
  go_loopw [14, 38] (fun _ i wr => ∃ k : Nat, k ≤ n ∧ i = .int .i64 k ∧ Hid (MapOf strKeys wr gm (gatesM vs k)) ∧ New w1 wr) (fun _ i _ => n - (intOf i).toNat)
  case atStart => exact ⟨0, Nat.zero_le _, rfl, Lib.hid hmp0, hn10⟩
  case round =>
    rename World => wr
    obtain ⟨k, hk, rfl, HMP, hnw⟩ := hrel
    have hlen := HLN.out
    by_cases hlt : k < n
    · obtain ⟨g, o, hA, hg, hc⟩ := (HV.out.new (hA1.trans hnw)).2 (by omega)
      subst hA
      have hgl := hg.lt
      have hx : vs[k]? = some vs[k] := by simp
      have c0 := hc k (by omega) 0 (by omega)
      have c1 := hc k (by omega) 1 (by omega)
      have c2 := hc k (by omega) 2 (by omega)
      simp only [VisD.enc, Nat.add_zero] at c0 c1 c2
      have HG := Lib.hid (gatesM_succ hx)
      have hb1 : (0 : Int) ≤ k := by omega
      have hb2 : (k : Int) < n := by omega
      have hmpn := fun o : Obj => HMP.out.mod ((Mod.refl (fun _ => False) wr).alloc o) (fun e => e)
      generalize vs[k] = v at *
      clear hc hx
      go_wp2_with (at_mapUpdate; refine wpList_mapPut (K := strKeys) rfl _ _ _ _ rfl Tryz.underlying80 Tryz.underlying9 rfl (hmpn _) v.gate rfl _ rfl ?_; intro w5 hmap5 ho5 hz5; clear hmpn)
      refine ⟨⟨k + 1, by omega, by go_num, Lib.hid (by rw [HG.out]; exact hmap5), ?_⟩, by simp [intOf]; omega⟩
      exact (hnw.alloc _).step ho5 (fun i hi e => by omega)
    · obtain rfl : k = n := by omega
      have hnw2 : New w wr := hA1.trans hnw
      have hlnm : ∀ ty, (Builtin.len_ #[80] ty #[.map (some gm)]).run Tryz.prog wr = .ok (.int .i64 ((gatesM vs k).length : Int)) wr := fun ty => run_len_map (K := strKeys) (P := Tryz.prog) 80 ty Tryz.underlying80 HMP.out
      by_cases hf3 : 50 < (gatesM vs k).length
      · have hf3' : (50 : Int) < ((gatesM vs k).length : Int) := by omega
        have HF : Hid (spreadF l batch D vs = 12) := Lib.hid (by unfold spreadF; rw [if_neg (by simp [HF1.out]), HIB.out, HID.out, hlen]; simp [HF2.out, hf3])
        go_wp2_with fail
        go_ret2
        exact ⟨.inl ⟨by rw [HF.out]; decide, by rw [HF.out]; rfl⟩, hnw2⟩
      · have hf3' : ¬ (50 : Int) < ((gatesM vs k).length : Int) := by omega
        have HF : Hid (spreadF l batch D vs = 0) := Lib.hid (by unfold spreadF; rw [if_neg (by simp [HF1.out]), HIB.out, HID.out, hlen]; simp [HF2.out, hf3])
        have hx5 := HX.out.mod hnw (fun e => e)
        have v0 := hx5.cell 0
        have v1 := hx5.cell 1
        have v2 := hx5.cell 2
        have v3 := hx5.cell 3
        have v4 := hx5.cell 4
        simp at v0 v1 v2 v3 v4
        have hnc := limit_newCenter l wr
        unfold Lim.val at hnc
        clear y0 y1 y2 y3 y4 hx5
        go_wp2_with (go_at_call 43; refine hnc.mono ?_; clear hnc; rintro e w6 ⟨gc, mb, rfl, hcen, hgc, hmb, hn6⟩)
        obtain ⟨hvl, hvall⟩ := visits_ok HF2.out
        have HVA := Lib.hid hvall
        have hsp0 : SpAt ((w6.alloc (.map #[] 0)).alloc (.cells #[.pointer (some ⟨gc, 0, none⟩), .int .i64 batch, .int .i64 D, .map (some w6.heap.size), .slice none 0 0] 87)) wr.heap.size (w6.heap.size + 1) gc mb w6.heap.size [] none 0 [] l batch D (stP l batch D vs 0) := by
          have hA := ((Mod.refl (fun _ => False) w6).alloc (.map #[] 0)).alloc (.cells #[.pointer (some ⟨gc, 0, none⟩), .int .i64 batch, .int .i64 D, .map (some w6.heap.size), .slice none 0 0] 87)
          have l1 := hcen.2.lt
          have l2 := hn6.size
          refine ⟨Blk.new' _ _ (by simp), ⟨hcen.1.mod hA (fun e => e), hcen.2.mod hA (fun e => e)⟩, ?_, by simp, by simp, fun _ _ => ⟨rfl, rfl⟩, Own.nil, by simp, by simp, by omega, by omega, hgc, hmb, by omega, by simp, by simp⟩
          exact MapOf.mod (S := fun _ => False) (MapOf.made (heap_alloc_new w6 _)) ((Mod.refl (fun _ => False) _).alloc _) (fun h => h)
        have hn7 : New w1 ((w6.alloc (.map #[] 0)).alloc (.cells #[.pointer (some ⟨gc, 0, none⟩), .int .i64 batch, .int .i64 D, .map (some w6.heap.size), .slice none 0 0] 87)) := ((hnw.trans hn6).alloc _).alloc _
        have hBr : w1.heap.size ≤ wr.heap.size := hnw.size
        have hn7s : wr.heap.size ≤ ((w6.alloc (.map #[] 0)).alloc (.cells #[.pointer (some ⟨gc, 0, none⟩), .int .i64 batch, .int .i64 D, .map (some w6.heap.size), .slice none 0 0] 87)).heap.size := by have := hn6.size; simp; omega
        have hA1s := hA1.size
        generalize (w6.alloc (.map #[] 0)).alloc (.cells #[.pointer (some ⟨gc, 0, none⟩), .int .i64 batch, .int .i64 D, .map (some w6.heap.size), .slice none 0 0] 87) = w7 at *
        generalize w6.heap.size + 1 = gs at *
        generalize w6.heap.size = gm2 at *
        generalize wr.heap.size = B at *
        clear v0 v1 v2 v3 v4 hlnm hcen hvall
        go_loopw [16, 18, 58] (fun t _ i wq => ∃ (j c2 : Nat) (A2 : Option Addr) (mc : Nat) (gl : List (ByteArray × Nat)) (A' : Option Addr) (c' : Nat) (ob : List Nat), j ≤ k ∧ i = .int .i64 j ∧ t = .slice A2 j c2 ∧ Hid (SpAt wq B gs gc mc gm2 gl A' c' ob l batch D (stP l batch D vs j)) ∧ Hid (BoolOwn wq w1.heap.size A2 j c2 (outP l batch D vs j)) ∧ New w1 wq ∧ B ≤ wq.heap.size) (fun _ _ i _ => k - (intOf i).toNat)
        case atStart => exact ⟨0, 0, none, mb, [], none, 0, [], Nat.zero_le _, rfl, rfl, Lib.hid hsp0, Lib.hid Own.nil, hn7, hn7s⟩
        case round =>
          rename World => wq
          obtain ⟨j, c2, A2, mc, gl, A', c', ob, hj, rfl, rfl, HSP, HOW, hnq, hBq⟩ := hrel
          by_cases hlt2 : j < k
          · obtain ⟨g, o, hA, hg, hc⟩ := (HV.out.new (hA1.trans hnq)).2 (by omega)
            subst hA
            have hgl := hg.lt
            have hx : vs[j]? = some vs[j] := by simp
            have c0 := hc j (by omega) 0 (by omega)
            have c1 := hc j (by omega) 1 (by omega)
            have c2' := hc j (by omega) 2 (by omega)
            simp only [VisD.enc, Nat.add_zero] at c0 c1 c2'
            have HOS := Lib.hid (outP_succ (l := l) (batch := batch) (D := D) hx)
            have HSS := Lib.hid (stP_succ (l := l) (batch := batch) (D := D) hx)
            obtain ⟨a1, a2, a3, a4, a5⟩ := HVA.out j (by omega)
            obtain ⟨_, _, hsim⟩ := sims hwl hDt.1 hbt HF2.out j (by omega)
            have hvis := fun cs : Array Value => spread_visit (wq.alloc (.cells cs 76)) B gs gc mc gm2 gl A' c' ob l batch D _ (HSP.out.new ((Mod.refl _ wq).alloc _)) hwl hDt hbt vs[j] ⟨a1, a2⟩ a4 (by simp; omega) _ j (by omega) _ hsim a5
            have hb1 : (0 : Int) ≤ j := by omega
            have hb2 : (j : Int) < k := by omega
            unfold VisD.val at hvis
            generalize vs[j] = v at *
            clear hc hx hsim a3 a5
            generalize hvp : visitP l batch D (stP l batch D vs j) v = vp at *
            have HVP := Lib.hid hvp
            clear hvp
            have hownA := fun o : Obj => HOW.out.alloc o
            have hfarA : ∀ {w' w'' : World} {xs : List Bool}, BoolOwn w' w1.heap.size A2 j c2 xs → Mod (Far w' B spT) w' w'' → BoolOwn w'' w1.heap.size A2 j c2 xs := fun ho hm => ho.mod hm (fun g' e f => by
              rcases ho.blk with ⟨hA, _⟩ | ⟨g2, hA, _, ht⟩
              · rw [hA] at e; cases e
              · rw [hA] at e; injection e with e; subst e; exact absurd (f.2 _ ht) (by decide))
            have HFA := @Lib.hid _ @hfarA
            have HOA := Lib.hid hownA
            clear hfarA hownA
            go_wp2_with (first | (go_at_call 44; refine (hvis _).mono ?_; clear hvis; rintro e w8 ⟨mc8, gl8, A8, c8, ob8, rfl, hsp8, hm8⟩; have hown8 := HFA.out (HOA.out _) hm8; have hs8 := hm8.size; simp at hs8; have HSP8 := Lib.hid hsp8; clear hsp8) | (at_builtin; refine wpList_push rfl _ _ _ rfl 1 Tryz.underlying35 einfo_bool rfl (hown8.alloc _) vp.1 w8.heap.size rfl (Blk.new _ _ _) (fun _ _ => rfl) (by omega) (by omega) (by simp; omega) ?_; intro g9 cap9 w9 hown9 hm9 hat9 hlt9))
            have hA2 : ∀ i, blkOf A2 = some i → TB (w8.alloc (.cells #[.bool vp.1] 4)) i 4 ∧ w1.heap.size ≤ i := fun i e => by
              rcases (hown8.alloc (.cells #[.bool vp.1] 4)).blk with ⟨hA, _⟩ | ⟨g2, hA, hB2, ht⟩
              · rw [hA] at e; cases e
              · rw [hA] at e; injection e with e; subst e; exact ⟨ht, hB2⟩
            refine ⟨⟨j + 1, cap9, some ⟨g9, 0, none⟩, mc8, gl8, A8, c8, ob8, by omega, by go_num, rfl, Lib.hid ?_, Lib.hid ?_, ?_, ?_⟩, by simp [intOf]; omega⟩
            · rw [HSS.out]
              exact (HSP8.out.new ((Mod.refl _ w8).alloc _)).modT hm9 (fun i e => ⟨_, (hA2 i e).1, by decide⟩)
            · rw [HOS.out]; exact hown9
            · refine Mod.step (Mod.step (hnq.alloc _) hm8 (fun i hi f => by have := f.1; omega)) (((Mod.refl _ w8).alloc _).trans hm9) (fun i hi e => ?_)
              have := (hA2 i e).2
              omega
            · have := hm9.size
              simp at this
              omega
          · obtain rfl : j = k := by omega
            go_wp2_with fail
            go_ret2
            refine ⟨.inr ⟨HF.out, A2, c2, ?_, ?_⟩, hA1.trans hnq⟩
            · rw [hlen]; rfl
            · rw [hlen]; exact HOW.out.less (by omega)

end Go.Proofs.YtinnckbffblecaaGreat
