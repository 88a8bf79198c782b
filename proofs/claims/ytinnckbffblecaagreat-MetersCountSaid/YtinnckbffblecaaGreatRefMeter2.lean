/- The reference's meter: what is in a bucket. Conditions: limits were checked, what was let in was checked and never emptied the bucket below nothing. -/
import Derived.Test.YtinnckbffblecaaGreatRefMeter1
namespace Go.Proofs.YtinnckbffblecaaGreat
open Go.RowKit
set_option linter.unusedVariables false
set_option linter.unusedSimpArgs false

/-- the four boxes of the closure that fills: the full level, the level, the last moment, the limit -/
structure FillAt (w : World) (bF bn bla bx : Nat) (l : Lim) (n last : Int) : Prop where
  full : Blk w bF 3 #[.int .i64 (fullR l)]
  lev : Blk w bn 3 #[.int .i64 n]
  lst : Blk w bla 3 #[.int .i64 last]
  lim : Blk w bx 28 #[.string l.key, .int .i64 l.kind, .int .i64 l.most, .int .i64 l.per, .int .i64 l.burst]
  ne1 : bF ≠ bn
  ne2 : bF ≠ bla
  ne3 : bn ≠ bla
theorem FillAt.new {w w' : World} {bF bn bla bx : Nat} {l : Lim} {n last : Int} (h : FillAt w bF bn bla bx l n last) (hm : New w w') : FillAt w' bF bn bla bx l n last :=
  ⟨h.full.new'' hm, h.lev.new'' hm, h.lst.new'' hm, h.lim.new'' hm, h.ne1, h.ne2, h.ne3⟩
theorem FillAt.set {w : World} {bF bn bla bx : Nat} {l : Lim} {n last : Int} (h : FillAt w bF bn bla bx l n last) (n' last' : Int) :
    FillAt ((w.setCell ⟨bn, 0, none⟩ (.int .i64 n')).setCell ⟨bla, 0, none⟩ (.int .i64 last')) bF bn bla bx l n' last' ∧ Mod (fun k => k = bn ∨ k = bla) w ((w.setCell ⟨bn, 0, none⟩ (.int .i64 n')).setCell ⟨bla, 0, none⟩ (.int .i64 last')) := by
  have m1 : Only bn w (w.setCell ⟨bn, 0, none⟩ (.int .i64 n')) := Mod.setCell (S := fun k => k = bn) (p := ⟨bn, 0, none⟩) (Mod.refl _ _) (.inl rfl) _
  have m2 : Only bla (w.setCell ⟨bn, 0, none⟩ (.int .i64 n')) ((w.setCell ⟨bn, 0, none⟩ (.int .i64 n')).setCell ⟨bla, 0, none⟩ (.int .i64 last')) := Mod.setCell (S := fun k => k = bla) (p := ⟨bla, 0, none⟩) (Mod.refl _ _) (.inl rfl) _
  have hx1 : bx ≠ bn := h.lim.ne h.lev (by decide)
  have hx2 : bx ≠ bla := h.lim.ne h.lst (by decide)
  refine ⟨⟨(h.full.mod m1 h.ne1).mod m2 h.ne2, ?_, ?_, (h.lim.mod m1 hx1).mod m2 hx2, h.ne1, h.ne2, h.ne3⟩, (m1.mono (fun _ _ e => .inl e)).trans (m2.mono (fun _ _ e => .inr e))⟩
  · have := h.lev.set 0 (.int .i64 n')
    exact (by simpa using this : Blk (w.setCell ⟨bn, 0, none⟩ (.int .i64 n')) bn 3 #[.int .i64 n']).mod m2 h.ne3
  · have := (h.lst.mod m1 (fun e => h.ne3 e.symm)).set 0 (.int .i64 last')
    simpa using this
theorem FillAt.setN {w : World} {bF bn bla bx : Nat} {l : Lim} {n last : Int} (h : FillAt w bF bn bla bx l n last) (n' : Int) : FillAt (w.setCell ⟨bn, 0, none⟩ (.int .i64 n')) bF bn bla bx l n' last := by
  have m1 : Only bn w (w.setCell ⟨bn, 0, none⟩ (.int .i64 n')) := Mod.setCell (S := fun k => k = bn) (p := ⟨bn, 0, none⟩) (Mod.refl _ _) (.inl rfl) _
  have hx1 : bx ≠ bn := h.lim.ne h.lev (by decide)
  refine ⟨h.full.mod m1 h.ne1, ?_, h.lst.mod m1 (fun e => h.ne3 e.symm), h.lim.mod m1 hx1, h.ne1, h.ne2, h.ne3⟩
  have := h.lev.set 0 (.int .i64 n')
  simpa using this
def RFill (w : World) (bF bn bla bx : Nat) (l : Lim) (n last : Int) (e : Ending) (w' : World) : Prop :=
  e = .returned (.tuple #[]) ∧ FillAt w' bF bn bla bx l n last ∧ Mod (fun k => k = bn ∨ k = bla) w w'

set_option maxHeartbeats 1000000 in
theorem ref_fill (l : Lim) (hb : BLim l) (bF bn bla bx : Nat) (n last to_ : Int) (w : World) (h : FillAt w bF bn bla bx l n last) (h0 : 0 ≤ n) (h1 : n ≤ fullR l) (h2 : 0 ≤ last) (h3 : last ≤ to_) (h4 : to_ ≤ 1000000000000) :
    Calls Tryz.prog 86 #[.int .i64 to_, .pointer (some ⟨bF, 0, none⟩), .pointer (some ⟨bn, 0, none⟩), .pointer (some ⟨bla, 0, none⟩), .pointer (some ⟨bx, 0, none⟩)] w (RFill w bF bn bla bx l (fillR l n last to_) to_) := by
  obtain ⟨hf1, hf2⟩ := hb.full
  obtain ⟨hm1, hm2⟩ := hb.most
  have HF := Lib.hid h
  have hmu : ¬ (fullR l - n) / l.most + 1 ≤ to_ - last → (to_ - last) * l.most ≤ fullR l - n := fun hn => by
    have hd := Int.mul_ediv_add_emod (fullR l - n) l.most
    have hr0 := Int.emod_nonneg (fullR l - n) (show l.most ≠ 0 by omega)
    have hq : to_ - last ≤ (fullR l - n) / l.most := by omega
    have := Int.mul_le_mul_of_nonneg_right hq (show 0 ≤ l.most by omega)
    rw [Int.mul_comm l.most] at hd
    omega
  have f0 := h.full.cell 0
  have n0 := h.lev.cell 0
  have l0 := h.lst.cell 0
  have x2 := h.lim.cell 2
  have fn := h.lev.frozen 0
  have fl := h.lst.frozen 0
  have k1 := h.full.lt
  have k2 := h.lev.lt
  have k3 := h.lst.lt
  have k4 := h.lim.lt
  have ne1 := h.ne1
  have ne2 := h.ne2
  have ne3 := h.ne3
  have ne4 : bx ≠ bn := h.lim.ne h.lev (by decide)
  simp at f0 n0 l0 x2
  have hd1 := Int.ediv_le_self l.most (show 0 ≤ fullR l - n by omega)
  have hd2 := Int.ediv_nonneg (show 0 ≤ fullR l - n by omega) (show 0 ≤ l.most by omega)
  have hm0 : (l.most == 0) = false := by simp; omega
  have hfu : fullR l ≤ 8640000000000000000 := hf2
  have e1 : IntKind.i64.wrap ((fullR l - n) / l.most) = (fullR l - n) / l.most := IntWalk.i64_in _ (by omega)
  have e2 : (fullR l - n).tdiv l.most = (fullR l - n) / l.most := Int.tdiv_eq_ediv_of_nonneg (by omega)
  have e3 : IntKind.i64.wrap ((fullR l - n) / l.most + 1) = (fullR l - n) / l.most + 1 := IntWalk.i64_in _ (by omega)
  have e4 : IntKind.i64.wrap (to_ - last) = to_ - last := IntWalk.i64_in _ (by omega)
  clear h
  by_cases hge : (fullR l - n) / l.most + 1 ≤ to_ - last
  · have HFL : Hid (fillR l n last to_ = fullR l) := Lib.hid (by unfold fillR; rw [if_pos hge])
    have hg' : decide ((fullR l - n) / l.most + 1 ≤ to_ - last) = true := by simpa using hge
    clear hmu
    generalize fullR l = F at *
    go_enter Tryz.func86, Tryz.ntmps86
    go_wp2_with fail
    go_quiet (fail)
    clear e1 e2 e3 e4
    go_wp2_with fail
    go_end0
    have hs := (HF.out.new ((Mod.refl _ w).drewN nq)).set (F) to_
    rw [HFL.out]
    exact ⟨rfl, hs.1, ((Mod.refl _ w).drewN nq).trans hs.2⟩
  · have hmu := hmu hge
    have hmu0 := Int.mul_nonneg (show 0 ≤ to_ - last by omega) (show 0 ≤ l.most by omega)
    have hmin : min (fullR l) (n + (to_ - last) * l.most) = n + (to_ - last) * l.most := by omega
    have HFL : Hid (fillR l n last to_ = n + (to_ - last) * l.most) := Lib.hid (by unfold fillR; rw [if_neg hge, hmin])
    have hg' : decide ((fullR l - n) / l.most + 1 ≤ to_ - last) = false := by simpa using hge
    generalize fullR l = F at *
    have e5 : IntKind.i64.wrap ((to_ - last) * l.most) = (to_ - last) * l.most := IntWalk.i64_in _ (by omega)
    go_enter Tryz.func86, Tryz.ntmps86
    go_wp2_with fail
    go_quiet (fail)
    clear e1 e2 e3
    go_wp2_with fail
    go_end0
    have hs := (HF.out.new ((Mod.refl _ w).drewN nq)).set (n + (to_ - last) * l.most) to_
    rw [HFL.out]
    exact ⟨rfl, hs.1, ((Mod.refl _ w).drewN nq).trans hs.2⟩

theorem enters_fill (args : Array Value) (w : World) : (callFunc 86 args).run Tryz.prog w = .ok (.enter 86 args) w := by
  go_simp

set_option maxRecDepth 100000 in
set_option maxHeartbeats 2000000 in
theorem ref_filled (l : Lim) (hl : RLim' l) (h3 : l.kind = 3) (p : List AskD) (A : Option Addr) (n c : Nat) (t : Int) (w : World) (h : AskRows w A n p) (hp : ∀ a ∈ p, RAskD a) (hpo : PourOk l p (fullR l, 0)) (hla : (poured l p (fullR l, 0)).2 ≤ t) (hn : n ≤ 100000) (ht : 0 ≤ t ∧ t ≤ 1000000000000) :
    Calls Tryz.prog 68 #[l.val, .slice A n c, .int .i64 t] w fun e w' => e = .returned (.int .i64 (filledR l p t)) ∧ New w w' := by
  have hb := hl.b h3
  obtain ⟨hf1, hf2⟩ := hb.full
  obtain ⟨hp1, hp2⟩ := hb.per
  have hlen := h.1
  have hef := enters_fill
  have e1 : IntKind.i64.wrap (l.burst * l.per) = l.burst * l.per := IntWalk.i64_in _ (by omega)
  have hpb : ∀ k, 0 ≤ (poured l (p.take k) (fullR l, 0)).1 ∧ (poured l (p.take k) (fullR l, 0)).1 ≤ fullR l := fun k => by
    have h1 : PourOk l (p.take k) (fullR l, 0) := by
      have := hpo
      rw [← List.take_append_drop k p, pourOk_append] at this
      exact this.1
    exact poured_bd hb h1 (fun a ha => (hp a (List.mem_of_mem_take ha)).cost.1) (by unfold fullR; simp only; omega) (by simp only; omega)
  have hpl : ∀ k, 0 ≤ (poured l (p.take k) (fullR l, 0)).2 := fun k => by
    have : ∀ (q : List AskD) (s : Int × Int), (∀ a ∈ q, 0 ≤ a.at_) → 0 ≤ s.2 → 0 ≤ (poured l q s).2 := by
      intro q
      induction q with
      | nil => intro s _ hs; exact hs
      | cons a q ih => intro s hq _; exact ih _ (fun b hb => hq b (by simp [hb])) (hq a (by simp))
    exact this _ _ (fun a ha => (hp a (List.mem_of_mem_take ha)).at_.1) (by simp)
  have H := Lib.hid h
  have HP := Lib.hid hp
  have HPO := Lib.hid hpo
  have HPB := Lib.hid hpb
  have HPL := Lib.hid hpl
  have HLEN := Lib.hid hlen
  have HB := Lib.hid hb
  have HLA := Lib.hid hla
  obtain ⟨key, kind, most, per, burst⟩ := l
  simp only at h3 hf1 hf2 hp1 hp2 e1
  subst h3
  simp only [Lim.val]
  clear h hp hpo hpb hpl hlen hb hla hl
  go_enter Tryz.func68, Tryz.ntmps68
  go_wp2_with fail
  have hA1 : New w ((((w.alloc (.cells #[.string key, .int .i64 3, .int .i64 most, .int .i64 per, .int .i64 burst] 28)).alloc (.cells #[.int .i64 (burst * per)] 3)).alloc (.cells #[.int .i64 (burst * per)] 3)).alloc (.cells #[.int .i64 0] 3)) := (by with_reducible (repeat (first | exact Mod.refl _ _ | refine Mod.drewN ?_ _ | refine Mod.drew ?_ | refine Mod.alloc ?_ _)))
  have hFA : FillAt ((((w.alloc (.cells #[.string key, .int .i64 3, .int .i64 most, .int .i64 per, .int .i64 burst] 28)).alloc (.cells #[.int .i64 (burst * per)] 3)).alloc (.cells #[.int .i64 (burst * per)] 3)).alloc (.cells #[.int .i64 0] 3)) (w.heap.size + 1) (w.heap.size + 1 + 1) (w.heap.size + 1 + 1 + 1) w.heap.size ⟨key, 3, most, per, burst⟩ (fullR ⟨key, 3, most, per, burst⟩) 0 :=
    ⟨((Blk.new' _ _ (by simp)).new'' ((Mod.refl (fun _ => False) _).alloc _)).new'' ((Mod.refl (fun _ => False) _).alloc _), (Blk.new' _ _ (by simp)).new'' ((Mod.refl (fun _ => False) _).alloc _), Blk.new' _ _ (by simp), (((Blk.new _ _ _).new'' ((Mod.refl (fun _ => False) _).alloc _)).new'' ((Mod.refl (fun _ => False) _).alloc _)).new'' ((Mod.refl (fun _ => False) _).alloc _), by omega, by omega, by omega⟩
  have H1 := Lib.hid (H.out.new hA1)
  have HA1 := Lib.hid hA1
  have HFA := Lib.hid hFA
  clear hA1 hFA e1
  generalize (((w.alloc (.cells #[.string key, .int .i64 3, .int .i64 most, .int .i64 per, .int .i64 burst] 28)).alloc (.cells #[.int .i64 (burst * per)] 3)).alloc (.cells #[.int .i64 (burst * per)] 3)).alloc (.cells #[.int .i64 0] 3) = W at *
  have hfu : fullR ⟨key, 3, most, per, burst⟩ = burst * per := rfl
  have HFU := Lib.hid hfu
  clear hfu
  go_loopw [12, 22] (fun _ i wr => ∃ k : Nat, k ≤ n ∧ i = .int .i64 k ∧ Hid (FillAt wr (w.heap.size + 1) (w.heap.size + 1 + 1) (w.heap.size + 1 + 1 + 1) w.heap.size ⟨key, 3, most, per, burst⟩ (poured ⟨key, 3, most, per, burst⟩ (p.take k) (fullR ⟨key, 3, most, per, burst⟩, 0)).1 (poured ⟨key, 3, most, per, burst⟩ (p.take k) (fullR ⟨key, 3, most, per, burst⟩, 0)).2) ∧
    Hid (Mod (fun x => x = w.heap.size + 1 + 1 ∨ x = w.heap.size + 1 + 1 + 1) W wr)) (fun _ i _ => n - (intOf i).toNat)
  case atStart => exact ⟨0, Nat.zero_le _, rfl, HFA, Lib.hid (Mod.refl _ _)⟩
  case round =>
    rename World => wr
    obtain ⟨k, hk, rfl, HFK, HMK⟩ := hrel
    have hpb := HPB.out k
    have hpl := HPL.out k
    have hk1 := HFK.out.lev.lt
    have hk2 := HFK.out.lim.lt
    by_cases hlt : k < n
    · obtain ⟨g, o, hA, hg, hc⟩ := (H1.out.mod HMK.out (fun g htb e => by
        rcases e with rfl | rfl
        · exact htb.ne HFA.out.lev.tb (by decide) rfl
        · exact htb.ne HFA.out.lst.tb (by decide) rfl)).2 (by omega)
      subst hA
      have hkl : k < p.length := by have := HLEN.out; omega
      have c0 := hc k hkl 0 (by omega)
      have c1 := hc k hkl 1 (by omega)
      have c2 := hc k hkl 2 (by omega)
      have c3 := hc k hkl 3 (by omega)
      simp only [AskD.enc, Nat.add_zero] at c0 c1 c2 c3
      have hgl := hg.lt
      obtain ⟨t1, t2, t3⟩ := pourOk_take HPO.out hkl
      have hra := HP.out p[k] (List.getElem_mem _)
      have hfb := fill_bd HB.out hpb.1 hpb.2 t1
      have HT3 := Lib.hid t3
      obtain ⟨⟨a1, a2⟩, ⟨a3, a4⟩, -⟩ := hra
      have hcp0 := Int.mul_nonneg (show 0 ≤ p[k].cost by omega) (show 0 ≤ per by omega)
      have hfc := fun o : Obj => ref_fill ⟨key, 3, most, per, burst⟩ HB.out _ _ _ _ _ _ p[k].at_ (wr.alloc o) (HFK.out.new ((Mod.refl (fun _ => False) wr).alloc o)) hpb.1 hpb.2 hpl t1 (by omega)
      have hfu := HFU.out
      have hb1 : (0 : Int) ≤ k := by omega
      have hb2 : (k : Int) < n := by omega
      simp only at t2
      have e5 : IntKind.i64.wrap (p[k].cost * per) = p[k].cost * per := IntWalk.i64_in _ (by omega)
      clear hc t3 hfu
      generalize poured ⟨key, 3, most, per, burst⟩ (p.take k) (fullR ⟨key, 3, most, per, burst⟩, 0) = st at *
      generalize fillR ⟨key, 3, most, per, burst⟩ st.1 st.2 p[k].at_ = X at *
      generalize hx : p[k] = x at *
      have HX := Lib.hid hx
      clear hx
      obtain ⟨at_, who, cost, long⟩ := x
      simp only at *
      have hfu2 : X ≤ 8640000000000000000 := by have := HFU.out; omega
      go_wp2_with fail
      refine (hfc _).mono ?_
      clear hfc
      rintro e w3 ⟨rfl, hF3, hm3⟩
      have b3 := (Blk.new wr 70 #[.int .i64 at_, .string who, .int .i64 cost, .int .i64 long]).mod hm3 (by have := HFK.out.lst.lt; omega)
      have y2 := b3.cell 2
      have n0 := hF3.lev.cell 0
      have x3 := hF3.lim.cell 3
      have fn := hF3.lev.frozen 0
      have j1 := hF3.lev.lt
      have j2 := hF3.lim.lt
      have j3 := b3.lt
      simp at y2 n0 x3
      have HF3 := Lib.hid hF3
      have HM3 := Lib.hid hm3
      clear hF3 hm3 b3
      go_wp2_with fail
      refine ⟨⟨k + 1, by omega, by go_num, Lib.hid ?_, Lib.hid ?_⟩, by simp [intOf]; omega⟩
      · rw [HT3.out]; exact HF3.out.setN _
      · exact ((HMK.out.alloc _).trans HM3.out).setCell (p := ⟨w.heap.size + 1 + 1, 0, none⟩) (.inl (.inl rfl)) _
    · obtain rfl : k = n := by omega
      have hla := HLA.out
      have htk : p.take k = p := List.take_of_length_le (by have := HLEN.out; omega)
      rw [htk] at HFK hpb hpl
      have hfc := ref_fill ⟨key, 3, most, per, burst⟩ HB.out _ _ _ _ _ _ t wr HFK.out hpb.1 hpb.2 hpl hla ht.2
      have HV : Hid (filledR ⟨key, 3, most, per, burst⟩ p t = fillR ⟨key, 3, most, per, burst⟩ (poured ⟨key, 3, most, per, burst⟩ p (fullR ⟨key, 3, most, per, burst⟩, 0)).1 (poured ⟨key, 3, most, per, burst⟩ p (fullR ⟨key, 3, most, per, burst⟩, 0)).2 t) := Lib.hid rfl
      clear htk hla
      generalize fillR ⟨key, 3, most, per, burst⟩ (poured ⟨key, 3, most, per, burst⟩ p (fullR ⟨key, 3, most, per, burst⟩, 0)).1 (poured ⟨key, 3, most, per, burst⟩ p (fullR ⟨key, 3, most, per, burst⟩, 0)).2 t = X at *
      go_wp2_with fail
      refine hfc.mono ?_
      clear hfc
      rintro e w3 ⟨rfl, hF3, hm3⟩
      have n0 := hF3.lev.cell 0
      have j1 := hF3.lev.lt
      simp at n0
      go_wp2_with fail
      go_ret
      exact ⟨ret_int HV.out.symm, (HA1.out.step HMK.out (fun x hx e => by omega)).step hm3 (fun x hx e => by omega)⟩

end Go.Proofs.YtinnckbffblecaaGreat
