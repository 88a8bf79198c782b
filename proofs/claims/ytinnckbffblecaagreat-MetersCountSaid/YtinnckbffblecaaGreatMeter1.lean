/- The meter's counters of one subject: those that are there, or new ones. Conditions: limits were checked. -/
import Derived.Test.YtinnckbffblecaaGreatVerdict
import Derived.Test.YtinnckbffblecaaGreatLaw
namespace Go.Proofs.YtinnckbffblecaaGreat
open Go.RowKit
set_option linter.unusedVariables false
set_option linter.unusedSimpArgs false

def RNewC (w : World) (B : Nat) (l : Lim) (e : Ending) (w' : World) : Prop :=
  ∃ d : CtrD, e = .returned d.val ∧ d.c = newC l ∧ d.At w' B l ∧ New w w' ∧ ∀ x, d.F x → w.heap.size ≤ x

set_option maxHeartbeats 1000000 in
theorem limit_newCounter (l : Lim) (hl : RLim' l) (w : World) (B : Nat) (hB : B ≤ w.heap.size) : Calls Tryz.prog 84 #[l.val] w (RNewC w B l) := by
  have hk := hl.kind
  by_cases h1 : l.kind = 1
  · have hc : newC l = .win 0 0 := by unfold newC; rw [if_pos h1]
    obtain ⟨key, kind, most, per, burst⟩ := l
    simp only at h1
    subst h1
    simp only [Lim.val]
    have HC := Lib.hid hc
    clear hc hl hk
    go_enter Tryz.func84, Tryz.ntmps84
    go_wp2_with fail
    go_ret
    refine ⟨⟨155, w.heap.size + 1, none, 0, 0, .win 0 0⟩, rfl, HC.out.symm, ⟨by simp only; omega, rfl, rfl, Blk.new' _ _ (by simp)⟩, (by with_reducible (repeat (first | exact Mod.refl _ _ | refine Mod.drewN ?_ _ | refine Mod.drew ?_ | refine Mod.alloc ?_ _))), fun x hx => ?_⟩
    rcases hx with rfl | hx
    · simp only; omega
    · cases hx
  · by_cases h2 : l.kind = 2
    · have hc : newC l = .sl [] := by unfold newC; rw [if_neg h1, if_pos h2]
      obtain ⟨key, kind, most, per, burst⟩ := l
      simp only at h2
      subst h2
      simp only [Lim.val]
      have HC := Lib.hid hc
      clear hc hl hk h1
      go_enter Tryz.func84, Tryz.ntmps84
      go_wp2_with fail
      go_ret
      refine ⟨⟨158, w.heap.size + 1, none, 0, 0, .sl []⟩, rfl, HC.out.symm, ⟨by simp only; omega, rfl, Blk.new' _ _ (by simp), Own.nil⟩, (by with_reducible (repeat (first | exact Mod.refl _ _ | refine Mod.drewN ?_ _ | refine Mod.drew ?_ | refine Mod.alloc ?_ _))), fun x hx => ?_⟩
      rcases hx with rfl | hx
      · simp only; omega
      · cases hx
    · by_cases h3 : l.kind = 3
      · have hc : newC l = .bk 0 (fullR l) := by unfold newC; rw [if_neg h1, if_neg h2, if_pos h3]
        have hf := (hl.b h3).full
        obtain ⟨key, kind, most, per, burst⟩ := l
        simp only at h3 hf
        subst h3
        simp only [Lim.val]
        have e1 : IntKind.i64.wrap (burst * per) = burst * per := IntWalk.i64_in _ (by omega)
        have HC := Lib.hid hc
        clear hc hl hk h1 h2
        go_enter Tryz.func84, Tryz.ntmps84
        go_wp2_with fail
        go_ret
        refine ⟨⟨163, w.heap.size + 1, none, 0, 0, .bk 0 (burst * per)⟩, rfl, HC.out.symm, ⟨by simp only; omega, rfl, rfl, Blk.new' _ _ (by simp)⟩, (by with_reducible (repeat (first | exact Mod.refl _ _ | refine Mod.drewN ?_ _ | refine Mod.drew ?_ | refine Mod.alloc ?_ _))), fun x hx => ?_⟩
        rcases hx with rfl | hx
        · simp only; omega
        · cases hx
      · have hc : newC l = .on [] := by unfold newC; rw [if_neg h1, if_neg h2, if_neg h3]
        have h4 : l.kind = 4 := by omega
        obtain ⟨key, kind, most, per, burst⟩ := l
        simp only at h4
        subst h4
        simp only [Lim.val]
        have HC := Lib.hid hc
        clear hc hl hk h1 h2 h3
        go_enter Tryz.func84, Tryz.ntmps84
        go_wp2_with fail
        go_ret
        refine ⟨⟨166, w.heap.size + 1, none, 0, 0, .on []⟩, rfl, HC.out.symm, ⟨by simp only; omega, rfl, Blk.new' _ _ (by simp), Own.nil⟩, (by with_reducible (repeat (first | exact Mod.refl _ _ | refine Mod.drewN ?_ _ | refine Mod.drew ?_ | refine Mod.alloc ?_ _))), fun x hx => ?_⟩
        rcases hx with rfl | hx
        · simp only; omega
        · cases hx

/-- what the meter holds of one subject -/
structure SubD where
  A : Option Addr
  cp : Nat
  ds : List CtrD
def SubD.val (n : Nat) (s : SubD) : Value := .slice s.A n s.cp
def SubD.F (s : SubD) (x : Nat) : Prop := blkOf s.A = some x ∨ ∃ d ∈ s.ds, d.F x
structure SubAt (w : World) (B : Nat) (ls : List Lim) (s : SubD) : Prop where
  own : Own w B 118 1 valEnc s.A ls.length s.cp (s.ds.map CtrD.val)
  ctrs : CtrsAt w B ls s.ds
theorem SubAt.mod {S : Nat → Prop} {w w' : World} {B : Nat} {ls : List Lim} {s : SubD} (h : SubAt w B ls s) (hm : Mod S w w') (hs : ∀ x, s.F x → ¬ S x) : SubAt w' B ls s :=
  ⟨h.own.mod hm (fun g e => hs g (.inl e)), h.ctrs.mod hm (fun d hd x hx => hs x (.inr ⟨d, hd, hx⟩))⟩
theorem SubAt.new {w w' : World} {B : Nat} {ls : List Lim} {s : SubD} (h : SubAt w B ls s) (hm : New w w') : SubAt w' B ls s := h.mod hm (fun _ _ e => e)
/-- the types of a subject's blocks -/
theorem SubAt.tb {w : World} {B : Nat} {ls : List Lim} {s : SubD} (h : SubAt w B ls s) : ∀ x, s.F x → B ≤ x ∧ ∃ t, (CtrT t ∨ t = 118) ∧ TB w x t := by
  intro x hx
  rcases hx with hx | ⟨d, hd, hx⟩
  · rcases h.own.blk with ⟨e, _⟩ | ⟨g, e, hB, ht⟩
    · rw [e] at hx; cases hx
    · rw [e] at hx; injection hx with hx; subst hx; exact ⟨hB, _, .inr rfl, ht⟩
  · obtain ⟨i, hi, rfl⟩ := List.getElem_of_mem hd
    obtain ⟨h1, t, h2, h3⟩ := (h.ctrs.each i (by have := h.ctrs.len; omega) hi).tb x hx
    exact ⟨h1, t, .inl h2, h3⟩
theorem SubAt.lt {w : World} {B : Nat} {ls : List Lim} {s : SubD} (h : SubAt w B ls s) : ∀ x, s.F x → x < w.heap.size := fun x hx => by
  obtain ⟨_, t, _, ht⟩ := h.tb x hx; exact ht.lt

def RCtrs (w : World) (B : Nat) (ls : List Lim) (σ : List (ByteArray × SubD)) (who : ByteArray) (e : Ending) (w' : World) : Prop :=
  ∃ s : SubD, e = .returned (.tuple #[s.val ls.length, .bool (gget σ who).isSome]) ∧ New w w' ∧
    (gget σ who = some s ∨ (gget σ who = none ∧ SubAt w' B ls s ∧ s.ds.map CtrD.c = ls.map newC ∧ ∀ x, s.F x → w.heap.size ≤ x))

set_option maxHeartbeats 2000000 in
theorem meter_counters (gm mb B : Nat) (Al : Option Addr) (n cl : Nat) (v1 : Value) (ls : List Lim) (σ : List (ByteArray × SubD)) (who : ByteArray) (w : World)
    (hb : Blk w gm 113 #[.slice Al n cl, v1, .map (some mb)]) (hl : LimRows w Al n ls) (hmap : MapOf strKeys w mb (σ.map fun p => (p.1, p.2.val n))) (hR : ∀ l ∈ ls, RLim' l) (hn : n ≤ 1000) (hB : B ≤ w.heap.size) :
    Calls Tryz.prog 62 #[.pointer (some ⟨gm, 0, none⟩), .string who] w (RCtrs w B ls σ who) := by
  have hlen := hl.1
  have c0 := hb.cell 0
  have c2 := hb.cell 2
  simp at c0 c2
  have hgml := hb.lt
  have hz : (zeroValue 114).run Tryz.prog w = .ok (.slice none 0 0) w := by kernel_rfl
  have hlook := run_lookup_ok (P := Tryz.prog) (K := strKeys) Tryz.underlying111 Tryz.underlying9 hz hmap who
  rw [aget_val (SubD.val n)] at hlook
  have HL := Lib.hid hl
  have HR := Lib.hid hR
  have HLEN := Lib.hid hlen
  have HB := Lib.hid hb
  cases hg : gget σ who with
  | some s =>
    rw [hg] at hlook
    have hlook' : (Instr.lookup 111 (.map (some mb)) (.string who) true).run Tryz.prog w = .ok (.tuple #[.slice s.A n s.cp, .bool true]) w := hlook
    have HG := Lib.hid hg
    clear hz hlook hmap hl hR hlen hb hg
    go_enter Tryz.func62, Tryz.ntmps62
    go_wp2_with fail
    go_ret2
    refine ⟨s, ?_, Mod.refl _ _, .inl HG.out⟩
    rw [HG.out, HLEN.out]; rfl
  | none =>
    rw [hg] at hlook
    have hlook' : (Instr.lookup 111 (.map (some mb)) (.string who) true).run Tryz.prog w = .ok (.tuple #[.slice none 0 0, .bool false]) w := hlook
    have HG := Lib.hid hg
    clear hz hlook hmap hl hR hlen hb hg
    go_enter Tryz.func62, Tryz.ntmps62
    go_wp2_with fail
    clear hlook'
    go_loopw [8, 10, 27] (fun o _ i wr => ∃ (k : Nat) (A : Option Addr) (c : Nat) (ds : List CtrD), k ≤ n ∧ i = .int .i64 k ∧ o = .slice A k c ∧ Hid (Own wr w.heap.size 118 1 valEnc A k c (ds.map CtrD.val)) ∧ Hid (ds.length = k) ∧ New w wr ∧
      Hid (∀ i (h1 : i < ls.length) (h2 : i < ds.length), ds[i].At wr B ls[i]) ∧ Hid (∀ i j (hi : i < ds.length) (hj : j < ds.length), i ≠ j → ∀ x, ds[i].F x → ¬ ds[j].F x) ∧ Hid (∀ d ∈ ds, ∀ x, d.F x → w.heap.size ≤ x ∧ x < wr.heap.size) ∧ Hid (ds.map CtrD.c = (ls.take k).map newC)) (fun _ _ i _ => n - (intOf i).toNat)
    case atStart => exact ⟨0, none, 0, [], Nat.zero_le _, rfl, rfl, Lib.hid Own.nil, Lib.hid rfl, Mod.refl _ _, Lib.hid (fun i _ h2 => absurd h2 (by simp)), Lib.hid (fun i j hi => absurd hi (by simp)), Lib.hid (by simp), Lib.hid (by simp)⟩
    case round =>
      rename World => wr
      obtain ⟨k, A, c, ds, hk, rfl, rfl, HO, HDL, hm, HE, HAP, HF, HC⟩ := hrel
      by_cases hlt : k < n
      · have hkl : k < ls.length := by have := HLEN.out; omega
        obtain ⟨gl, ol, hAl, htl, hcl⟩ := (HL.out.new hm).2 (by omega)
        subst hAl
        have l0 := hcl k hkl 0 (by omega)
        have l1 := hcl k hkl 1 (by omega)
        have l2 := hcl k hkl 2 (by omega)
        have l3 := hcl k hkl 3 (by omega)
        have l4 := hcl k hkl 4 (by omega)
        simp only [Lim.enc, Nat.add_zero] at l0 l1 l2 l3 l4
        have hgll := htl.lt
        have hb1 : (0 : Int) ≤ k := by omega
        have hb2 : (k : Int) < n := by omega
        have hrl := HR.out ls[k] (List.getElem_mem _)
        have hnc := fun o : Obj => limit_newCounter ls[k] hrl (wr.alloc o) B (by have := hm.size; simp; omega)
        have HTK : Hid ((ls.take (k + 1)).map newC = (ls.take k).map newC ++ [newC ls[k]]) := Lib.hid (by rw [List.take_succ_eq_append_getElem hkl, List.map_append]; rfl)
        have HLK : Hid (∀ d : CtrD, d.At wr B ls[k] = d.At wr B ls[k]) := Lib.hid (fun _ => rfl)
        clear hcl hrl
        generalize hlk : ls[k] = l at *
        have HLQ := Lib.hid hlk
        clear hlk HLK
        simp only [Lim.val] at hnc
        go_wp2_with fail
        refine (hnc _).mono ?_
        clear hnc
        rintro e w2 ⟨d, rfl, hdc, hdat, hm2, hdf⟩
        obtain ⟨hm12, hz2, -⟩ := hm2.pre
        simp only [CtrD.val]
        go_wp2_with (at_builtin; refine wpList_push rfl _ _ _ rfl 16 Tryz.underlying114 einfo_counter rfl ((HO.out.new hm12).alloc _) d.val w2.heap.size rfl (Blk.new _ _ _) (fun _ _ => rfl) (by omega) (by omega) (by have := hm.size; simp; omega) ?_; intro g2 cap w3 own3 hm3 hat3 hlt3)
        have own2 := (HO.out.new hm12).alloc (.cells #[.iface d.T (.pointer (some ⟨d.g, 0, none⟩))] 118)
        have hmw : New w w3 := own2.push_mod ((hm.trans hm12).alloc _) hm3 (Nat.le_refl _)
        have hnot : ∀ x t, CtrT t → TB (w2.alloc (.cells #[.iface d.T (.pointer (some ⟨d.g, 0, none⟩))] 118)) x t → ¬ blkOf A = some x := by
          intro x t ht htb e
          rcases own2.blk with ⟨rfl, _⟩ | ⟨g', rfl, _, htb'⟩
          · cases e
          · injection e with e
            simp only at e
            subst e
            refine htb.ne htb' ?_ rfl
            rcases ht with rfl | rfl | rfl | rfl | rfl <;> decide
        have hlift : ∀ (e : CtrD) (l' : Lim), e.At w2 B l' → e.At w3 B l' := fun e l' he => by
          have h1 := he.new ((Mod.refl (fun _ => False) w2).alloc (.cells #[.iface d.T (.pointer (some ⟨d.g, 0, none⟩))] 118))
          refine h1.mod hm3 (fun x hx e' => ?_)
          obtain ⟨_, t, ht, htb⟩ := h1.tb x hx
          exact hnot x t ht htb e'
        have hz3 : w2.heap.size ≤ w3.heap.size := by have := hm3.size; simp at this; omega
        have hz12 := hm12.size
        have hwz := hm.size
        refine ⟨⟨k + 1, some ⟨g2, 0, none⟩, cap, ds ++ [d], by omega, by go_num, rfl, Lib.hid (by rw [List.map_append]; exact own3), Lib.hid (by simp [HDL.out]), hmw, Lib.hid (fun i h1 h2 => ?_), Lib.hid (fun i j hi hj hij x hx hx' => ?_), Lib.hid (fun e he x hx => ?_), Lib.hid ?_⟩, by simp [intOf]; omega⟩
        · have hdl := HDL.out
          by_cases e : i < ds.length
          · rw [List.getElem_append_left e]
            exact hlift _ _ ((HE.out i h1 e).new hm12)
          · have e2 : i = k := by simp at h2; omega
            subst e2
            rw [List.getElem_append_right (by omega)]
            simp only [hdl, Nat.sub_self, List.getElem_singleton]
            rw [HLQ.out]
            exact hlift _ _ hdat
        · have hsep : ∀ i (hi : i < ds.length) y, ds[i].F y → ¬ d.F y := fun i hi y h1 h2 => by
            have := (HF.out _ (List.getElem_mem hi) y h1).2
            have := hdf y h2
            simp at this; omega
          by_cases e : i < ds.length
          · rw [List.getElem_append_left e] at hx
            by_cases e' : j < ds.length
            · rw [List.getElem_append_left e'] at hx'
              exact HAP.out i j e e' hij x hx hx'
            · have e2 : j = ds.length := by simp at hj; omega
              subst e2
              rw [List.getElem_append_right (by omega)] at hx'
              simp only [Nat.sub_self, List.getElem_singleton] at hx'
              exact hsep i e x hx hx'
          · have e2 : i = ds.length := by simp at hi; omega
            subst e2
            rw [List.getElem_append_right (by omega)] at hx
            simp only [Nat.sub_self, List.getElem_singleton] at hx
            have e' : j < ds.length := by simp at hj; omega
            rw [List.getElem_append_left e'] at hx'
            exact hsep j e' x hx' hx
        · rcases List.mem_append.1 he with he | he
          · have := HF.out e he x hx; omega
          · simp at he
            subst he
            have h1 := hdf x hx
            have h2 := hdat.lt x hx
            simp at h1; omega
        · rw [HTK.out, List.map_append, HC.out]
          simp [hdc]
      · obtain rfl : k = n := by omega
        go_wp2_with fail
        go_ret2
        have h1 := HLEN.out
        refine ⟨⟨A, c, ds⟩, by rw [HG.out, h1]; rfl, hm, .inr ⟨HG.out, ⟨?_, ⟨by rw [HDL.out, h1], HE.out, HAP.out⟩⟩, ?_, ?_⟩⟩
        · rw [h1]; exact (HO.out).less hB
        · rw [HC.out, List.take_of_length_le (by omega)]
        · intro x hx
          rcases hx with hx | ⟨d, hd, hx⟩
          · exact (HO.out.far x hx).1
          · exact (HF.out d hd x hx).1

end Go.Proofs.YtinnckbffblecaaGreat
