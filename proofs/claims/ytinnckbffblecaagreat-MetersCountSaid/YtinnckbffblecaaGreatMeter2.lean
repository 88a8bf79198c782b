/- The meter in memory; adding to all counters of a subject. Conditions: limits were checked, numbers are modest. -/
import Derived.Test.YtinnckbffblecaaGreatMeter1
namespace Go.Proofs.YtinnckbffblecaaGreat
open Go.RowKit
set_option linter.unusedVariables false
set_option linter.unusedSimpArgs false

section
variable {β γ : Type}
def gmap (f : β → γ) (m : List (ByteArray × β)) : List (ByteArray × γ) := m.map fun p => (p.1, f p.2)
theorem gget_gmap (f : β → γ) (m : List (ByteArray × β)) (k : ByteArray) : gget (gmap f m) k = (gget m k).map f := by
  unfold gmap
  induction m with
  | nil => rfl
  | cons p m ih =>
    rw [List.map_cons, gget_cons, gget_cons, ih]
    by_cases h : p.1 = k <;> simp [h]
theorem gput_gmap (f : β → γ) (m : List (ByteArray × β)) (k : ByteArray) (v : β) : gmap f (gput m k v) = gput (gmap f m) k (f v) := by
  unfold gput
  rw [gget_gmap]
  by_cases h : (gget m k).isSome = true
  · rw [if_pos h, if_pos (by simpa using h)]
    unfold gmap
    rw [List.map_map, List.map_map]
    refine List.map_congr_left fun p _ => ?_
    simp only [Function.comp_apply]
    split <;> rfl
  · rw [if_neg h, if_neg (by simpa using h)]
    simp [gmap]
theorem gput_length (m : List (ByteArray × β)) (k : ByteArray) (v : β) : (gput m k v).length ≤ m.length + 1 := by
  unfold gput
  split <;> simp
end
def pureS (σ : List (ByteArray × SubD)) : List (ByteArray × List Ctr) := gmap (fun s => s.ds.map CtrD.c) σ
def SF (σ : List (ByteArray × SubD)) (x : Nat) : Prop := ∃ who s, gget σ who = some s ∧ s.F x

structure MeterAt (w : World) (B gm mb : Nat) (Al : Option Addr) (cl : Nat) (ls : List Lim) (now : Int) (σ : List (ByteArray × SubD)) : Prop where
  b0 : B ≤ gm ∧ B ≤ mb
  blk : Blk w gm 113 #[.slice Al ls.length cl, .int .i64 now, .map (some mb)]
  lims : Own w B 28 5 Lim.enc Al ls.length cl ls
  map : MapOf strKeys w mb (σ.map fun p => (p.1, p.2.val ls.length))
  subs : ∀ who s, gget σ who = some s → SubAt w B ls s
  apart : ∀ a b s s', a ≠ b → gget σ a = some s → gget σ b = some s' → ∀ x, s.F x → ¬ s'.F x
theorem SF.tb {w : World} {B gm mb : Nat} {Al : Option Addr} {cl : Nat} {ls : List Lim} {now : Int} {σ : List (ByteArray × SubD)} (h : MeterAt w B gm mb Al cl ls now σ) {x : Nat} (hx : SF σ x) : B ≤ x ∧ ∃ t, (CtrT t ∨ t = 118) ∧ TB w x t := by
  obtain ⟨who, s, hg, hx⟩ := hx
  exact (h.subs who s hg).tb x hx
theorem ctrT_ne {t u : TypeId} (h : CtrT t ∨ t = 118) (h1 : u ≠ 157) (h2 : u ≠ 165) (h3 : u ≠ 162) (h4 : u ≠ 167) (h5 : u ≠ 211) (h6 : u ≠ 118) : t ≠ u := by
  rcases h with (rfl | rfl | rfl | rfl | rfl) | rfl
  · exact h1.symm
  · exact h2.symm
  · exact h3.symm
  · exact h4.symm
  · exact h5.symm
  · exact h6.symm
/-- memory that is none of the meter's -/
theorem MeterAt.mod {S : Nat → Prop} {w w' : World} {B gm mb : Nat} {Al : Option Addr} {cl : Nat} {ls : List Lim} {now : Int} {σ : List (ByteArray × SubD)} (h : MeterAt w B gm mb Al cl ls now σ) (hm : Mod S w w')
    (h1 : ¬ S gm) (h2 : ¬ S mb) (h3 : ∀ x, blkOf Al = some x → ¬ S x) (h4 : ∀ x, SF σ x → ¬ S x) : MeterAt w' B gm mb Al cl ls now σ :=
  ⟨h.b0, h.blk.mod hm h1, h.lims.mod hm h3, h.map.mod hm h2, fun who s hg => (h.subs who s hg).mod hm (fun x hx => h4 x ⟨who, s, hg, hx⟩), h.apart⟩
theorem MeterAt.new {w w' : World} {B gm mb : Nat} {Al : Option Addr} {cl : Nat} {ls : List Lim} {now : Int} {σ : List (ByteArray × SubD)} (h : MeterAt w B gm mb Al cl ls now σ) (hm : New w w') : MeterAt w' B gm mb Al cl ls now σ :=
  h.mod hm (fun e => e) (fun e => e) (fun _ _ e => e) (fun _ _ e => e)

/-- the counters while what is let in is added to them one by one: j are done -/
structure Adding (w0 w : World) (B : Nat) (ls : List Lim) (s : SubD) (a : AskD) (j : Nat) (ds : List CtrD) : Prop where
  ctrs : CtrsAt w B ls ds
  own : Own w B 118 1 valEnc s.A ls.length s.cp (s.ds.map CtrD.val)
  vals : ds.map CtrD.val = s.ds.map CtrD.val
  cs : ds.map CtrD.c = (addL ls (s.ds.map CtrD.c) a).take j ++ (s.ds.map CtrD.c).drop j
  mod : Mod s.F w0 w
  far : ∀ d ∈ ds, ∀ x, d.F x → s.F x ∨ w0.heap.size ≤ x
theorem Adding.start {w : World} {B : Nat} {ls : List Lim} {s : SubD} (h : SubAt w B ls s) (a : AskD) : Adding w w B ls s a 0 s.ds :=
  ⟨h.ctrs, h.own, rfl, by simp, Mod.refl _ _, fun d hd x hx => .inl (.inr ⟨d, hd, hx⟩)⟩
theorem addL_length {ls : List Lim} {cs : List Ctr} (h : cs.length = ls.length) (a : AskD) : (addL ls cs a).length = ls.length := by simp [addL, h]
theorem Adding.step {w0 w w' : World} {B : Nat} {ls : List Lim} {s : SubD} {a : AskD} {j : Nat} {ds : List CtrD} (h : Adding w0 w B ls s a j ds) (hj : j < ls.length) (hjd : j < ds.length) {d' : CtrD}
    (hT : d'.T = ds[j].T) (hg : d'.g = ds[j].g) (hc : d'.c = addC ls[j] ds[j].c a) (hat : d'.At w' B ls[j]) (hm : Mod ds[j].F w w') (hf : ∀ x, d'.F x → ds[j].F x ∨ w.heap.size ≤ x) : Adding w0 w' B ls s a (j + 1) (ds.set j d') := by
  have hlen := h.ctrs.len
  have hv : d'.val = ds[j].val := by unfold CtrD.val; rw [hT, hg]
  have hlv : s.ds.length = ls.length := by have := congrArg List.length h.vals; simp at this; omega
  have hjs : j < (s.ds.map CtrD.c).length := by rw [List.length_map]; omega
  have hla : (addL ls (s.ds.map CtrD.c) a).length = ls.length := addL_length (by rw [List.length_map]; exact hlv) a
  have hlt : ((addL ls (s.ds.map CtrD.c) a).take j).length = j := by rw [List.length_take, hla, Nat.min_eq_left (by omega)]
  have hcj' : (s.ds.map CtrD.c)[j] = ds[j].c := by
    have h1 : (ds.map CtrD.c)[j]? = ((addL ls (s.ds.map CtrD.c) a).take j ++ (s.ds.map CtrD.c).drop j)[j]? := by rw [h.cs]
    rw [List.getElem?_append_right (by rw [hlt]; omega), hlt, Nat.sub_self, List.getElem?_drop, Nat.add_zero, List.getElem?_eq_getElem hjs, List.getElem?_map, List.getElem?_eq_getElem hjd] at h1
    injection h1 with h1
    exact h1.symm
  have hcj : (s.ds.map CtrD.c).drop j = ds[j].c :: (s.ds.map CtrD.c).drop (j + 1) := by
    rw [List.drop_eq_getElem_cons hjs, hcj']
  refine ⟨⟨by simp [hlen], fun i h1 h2 => ?_, fun i k hi hk hik x hx hx' => ?_⟩, ?_, ?_, ?_, ?_, fun d hd x hx => ?_⟩
  · by_cases e : i = j
    · subst e; rw [List.getElem_set_self]; exact hat
    · rw [List.getElem_set_ne (fun e' => e e'.symm)]
      have h2' : i < ds.length := by simpa using h2
      exact (h.ctrs.each i h1 h2').mod hm (fun x hx => h.ctrs.apart i j h2' hjd e x hx)
  · have hi' : i < ds.length := by simpa using hi
    have hk' : k < ds.length := by simpa using hk
    have hold : ∀ i (hi : i < ds.length), i ≠ j → ∀ x, ds[i].F x → ¬ d'.F x := fun i hi hij x h1 h2 => by
      rcases hf x h2 with h3 | h3
      · exact h.ctrs.apart i j hi hjd hij x h1 h3
      · have := (h.ctrs.each i (by omega) hi).lt x h1; omega
    by_cases e : i = j
    · subst e
      rw [List.getElem_set_self] at hx
      rw [List.getElem_set_ne hik] at hx'
      exact hold k hk' (fun e => hik e.symm) x hx' hx
    · rw [List.getElem_set_ne (fun e' => e e'.symm)] at hx
      by_cases e' : k = j
      · subst e'
        rw [List.getElem_set_self] at hx'
        exact hold i hi' e x hx hx'
      · rw [List.getElem_set_ne (fun e'' => e' e''.symm)] at hx'
        exact h.ctrs.apart i k hi' hk' hik x hx hx'
  · refine h.own.mod hm (fun x hx hx' => ?_)
    obtain ⟨_, t, ht, htb⟩ := (h.ctrs.each j hj hjd).tb x hx'
    rcases h.own.blk with ⟨e, _⟩ | ⟨g, e, _, htb'⟩
    · rw [e] at hx; cases hx
    · rw [e] at hx
      injection hx with hx
      simp only at hx
      subst hx
      refine htb.ne htb' ?_ rfl
      rcases ht with rfl | rfl | rfl | rfl | rfl <;> decide
  · rw [List.map_set, hv, ← h.vals]
    have : ds[j].val = (ds.map CtrD.val)[j]'(by simpa using hjd) := by simp
    rw [this, List.set_getElem_self]
  · rw [List.map_set, h.cs, hc]
    have hget : (addL ls (s.ds.map CtrD.c) a)[j]'(by omega) = addC ls[j] ds[j].c a := by
      unfold addL
      rw [List.getElem_zipWith, hcj']
    rw [hcj, List.set_append_right _ _ (by rw [hlt]; omega), hlt, Nat.sub_self, List.set_cons_zero, List.take_succ_eq_append_getElem (by omega), hget, List.append_assoc]
    rfl
  · exact h.mod.step hm (fun x hx hx' => by
      rcases h.far _ (List.getElem_mem hjd) x hx' with h1 | h1
      · exact h1
      · omega)
  · have hz := h.mod.size
    rcases List.mem_or_eq_of_mem_set hd with h1 | rfl
    · exact h.far d h1 x hx
    · rcases hf x hx with h1 | h1
      · exact h.far _ (List.getElem_mem hjd) x h1
      · right; omega

end Go.Proofs.YtinnckbffblecaaGreat
