/- Counters in memory: what a counter's methods do, whatever its kind. Conditions: the limit was checked, moments rise, numbers are modest. -/
import Derived.Test.YtinnckbffblecaaGreatCtr1
import Derived.Test.YtinnckbffblecaaGreatCtr2
import Derived.Test.YtinnckbffblecaaGreatMeterLaw5
import Derived.Test.YtinnckbffblecaaGreatMeter0
namespace Go.Proofs.YtinnckbffblecaaGreat
open Go.RowKit
set_option linter.unusedVariables false
set_option linter.unusedSimpArgs false

/-- a counter: its type, its block, the slice of its pieces, what it counts -/
structure CtrD where
  T : TypeId
  g : Nat
  A : Option Addr
  n : Nat
  cp : Nat
  c : Ctr
def CtrD.val (d : CtrD) : Value := .iface d.T (.pointer (some ⟨d.g, 0, none⟩))
/-- its blocks -/
def CtrD.F (d : CtrD) (x : Nat) : Prop := x = d.g ∨ blkOf d.A = some x
def CtrD.At (w : World) (B : Nat) (l : Lim) (d : CtrD) : Prop :=
  B ≤ d.g ∧ match d.c with
  | .win a n => d.T = 155 ∧ d.A = none ∧ WinAt w d.g l a n
  | .bk a lv => d.T = 163 ∧ d.A = none ∧ BucketAt w d.g l a lv
  | .sl ps => d.T = 158 ∧ PcsAt 162 w d.g l d.A d.n d.cp ∧ Own w B 211 2 Pc.enc d.A d.n d.cp ps
  | .on ps => d.T = 166 ∧ PcsAt 167 w d.g l d.A d.n d.cp ∧ Own w B 211 2 Pc.enc d.A d.n d.cp ps
/-- the types of a counter's blocks -/
def CtrT (t : TypeId) : Prop := t = 157 ∨ t = 165 ∨ t = 162 ∨ t = 167 ∨ t = 211

section
variable {w w' : World} {B : Nat} {l : Lim} {d : CtrD}
theorem CtrD.At.tb (h : d.At w B l) : ∀ x, d.F x → B ≤ x ∧ ∃ t, CtrT t ∧ TB w x t := by
  obtain ⟨T, g, A, n, cp, c⟩ := d
  obtain ⟨h0, h⟩ := h
  unfold CtrD.F CtrT
  simp only at *
  intro x hx
  cases c with
  | win a n =>
    obtain ⟨_, rfl, h⟩ := h
    rcases hx with rfl | hx
    · exact ⟨h0, _, .inl rfl, h.tb⟩
    · cases hx
  | bk a lv =>
    obtain ⟨_, rfl, h⟩ := h
    rcases hx with rfl | hx
    · exact ⟨h0, _, .inr (.inl rfl), h.tb⟩
    · cases hx
  | sl ps =>
    obtain ⟨_, h, ho⟩ := h
    rcases hx with rfl | hx
    · exact ⟨h0, _, .inr (.inr (.inl rfl)), h.tb⟩
    · rcases ho.blk with ⟨rfl, _⟩ | ⟨g, rfl, hB, ht⟩
      · cases hx
      · injection hx with hx; subst hx; exact ⟨hB, _, .inr (.inr (.inr (.inr rfl))), ht⟩
  | on ps =>
    obtain ⟨_, h, ho⟩ := h
    rcases hx with rfl | hx
    · exact ⟨h0, _, .inr (.inr (.inr (.inl rfl))), h.tb⟩
    · rcases ho.blk with ⟨rfl, _⟩ | ⟨g, rfl, hB, ht⟩
      · cases hx
      · injection hx with hx; subst hx; exact ⟨hB, _, .inr (.inr (.inr (.inr rfl))), ht⟩
theorem CtrD.At.lt (h : d.At w B l) : ∀ x, d.F x → x < w.heap.size := fun x hx => by
  obtain ⟨_, t, _, ht⟩ := h.tb x hx; exact ht.lt
theorem CtrD.At.mod {S : Nat → Prop} (h : d.At w B l) (hm : Mod S w w') (hs : ∀ x, d.F x → ¬ S x) : d.At w' B l := by
  obtain ⟨T, g, A, n, cp, c⟩ := d
  obtain ⟨h0, h⟩ := h
  refine ⟨h0, ?_⟩
  unfold CtrD.F at hs
  simp only at *
  have hg := hs g (.inl rfl)
  cases c with
  | win a n => exact ⟨h.1, h.2.1, Blk.mod h.2.2 hm hg⟩
  | bk a lv => exact ⟨h.1, h.2.1, Blk.mod h.2.2 hm hg⟩
  | sl ps => exact ⟨h.1, Blk.mod h.2.1 hm hg, h.2.2.mod hm (fun x hx => hs x (.inr hx))⟩
  | on ps => exact ⟨h.1, Blk.mod h.2.1 hm hg, h.2.2.mod hm (fun x hx => hs x (.inr hx))⟩
theorem CtrD.At.new (h : d.At w B l) (hm : New w w') : d.At w' B l := h.mod hm (fun _ _ e => e)
end

/-- the interface's method NAME, called on this value, is function f -/
def Meth (name : String) (T : TypeId) (g f : Nat) : Prop :=
  (∀ n w, (method (n + 1) T (.pointer (some ⟨g, 0, none⟩)) name).run Tryz.prog w = .ok (f, .pointer (some ⟨g, 0, none⟩)) w) ∧ (∀ n w, (nilAhead (n + 1) T (.pointer (some ⟨g, 0, none⟩)) name).run Tryz.prog w = .ok (some false) w) ∧ ∀ args w, (callFunc f args).run Tryz.prog w = .ok (.enter f args) w

theorem meth_win_most (g : Nat) : Meth "gatewarden/limit.most" 155 g 142 := ⟨fun n w => by kernel_rfl, fun n w => by kernel_rfl, fun args w => by go_simp⟩
theorem meth_sl_most (g : Nat) : Meth "gatewarden/limit.most" 158 g 147 := ⟨fun n w => by kernel_rfl, fun n w => by kernel_rfl, fun args w => by go_simp⟩
theorem meth_bk_most (g : Nat) : Meth "gatewarden/limit.most" 163 g 163 := ⟨fun n w => by kernel_rfl, fun n w => by kernel_rfl, fun args w => by go_simp⟩
theorem meth_on_most (g : Nat) : Meth "gatewarden/limit.most" 166 g 169 := ⟨fun n w => by kernel_rfl, fun n w => by kernel_rfl, fun args w => by go_simp⟩
theorem meth_win_wait (g : Nat) : Meth "gatewarden/limit.wait" 155 g 143 := ⟨fun n w => by kernel_rfl, fun n w => by kernel_rfl, fun args w => by go_simp⟩
theorem meth_sl_wait (g : Nat) : Meth "gatewarden/limit.wait" 158 g 148 := ⟨fun n w => by kernel_rfl, fun n w => by kernel_rfl, fun args w => by go_simp⟩
theorem meth_bk_wait (g : Nat) : Meth "gatewarden/limit.wait" 163 g 164 := ⟨fun n w => by kernel_rfl, fun n w => by kernel_rfl, fun args w => by go_simp⟩
theorem meth_on_wait (g : Nat) : Meth "gatewarden/limit.wait" 166 g 170 := ⟨fun n w => by kernel_rfl, fun n w => by kernel_rfl, fun args w => by go_simp⟩
theorem meth_win_add (g : Nat) : Meth "gatewarden/limit.add" 155 g 140 := ⟨fun n w => by kernel_rfl, fun n w => by kernel_rfl, fun args w => by go_simp⟩
theorem meth_sl_add (g : Nat) : Meth "gatewarden/limit.add" 158 g 145 := ⟨fun n w => by kernel_rfl, fun n w => by kernel_rfl, fun args w => by go_simp⟩
theorem meth_bk_add (g : Nat) : Meth "gatewarden/limit.add" 163 g 161 := ⟨fun n w => by kernel_rfl, fun n w => by kernel_rfl, fun args w => by go_simp⟩
theorem meth_on_add (g : Nat) : Meth "gatewarden/limit.add" 166 g 167 := ⟨fun n w => by kernel_rfl, fun n w => by kernel_rfl, fun args w => by go_simp⟩
theorem meth_win_idle (g : Nat) : Meth "gatewarden/limit.idle" 155 g 141 := ⟨fun n w => by kernel_rfl, fun n w => by kernel_rfl, fun args w => by go_simp⟩
theorem meth_sl_idle (g : Nat) : Meth "gatewarden/limit.idle" 158 g 146 := ⟨fun n w => by kernel_rfl, fun n w => by kernel_rfl, fun args w => by go_simp⟩
theorem meth_bk_idle (g : Nat) : Meth "gatewarden/limit.idle" 163 g 162 := ⟨fun n w => by kernel_rfl, fun n w => by kernel_rfl, fun args w => by go_simp⟩
theorem meth_on_idle (g : Nat) : Meth "gatewarden/limit.idle" 166 g 168 := ⟨fun n w => by kernel_rfl, fun n w => by kernel_rfl, fun args w => by go_simp⟩

/-- the four kinds, as the walk meets them -/
theorem CtrOk.mild {l : Lim} {τ : Int} {k : Nat} {ps : List Pc} (h : ∀ x ∈ ps, (-1000000000000 ≤ x.until_ ∧ x.until_ ≤ 1000000000000) ∧ 0 ≤ x.cost ∧ x.cost ≤ 1000000000) : ∀ x ∈ ps, x.Mild := h

theorem ctr_most (l : Lim) (d : CtrD) (w : World) (B : Nat) (h : d.At w B l) (hl : RLim' l) {τ t : Int} {k : Nat} (hk : CtrOk l τ k d.c) (hkn : k ≤ 1000000) (ht : τ ≤ t) (h0 : 0 ≤ t) (h1 : t ≤ 1000000000000) :
    ∃ f, Meth "gatewarden/limit.most" d.T d.g f ∧ ∀ w', New w w' → Calls Tryz.prog f #[.pointer (some ⟨d.g, 0, none⟩), .int .i64 t] w' fun e w'' => e = .returned (.int .i64 (mostC l d.c t)) ∧ New w' w'' := by
  obtain ⟨T, g, A, n, cp, c⟩ := d
  obtain ⟨_, h⟩ := h
  simp only at *
  have hm := hl.most
  cases c with
  | win a n0 =>
    obtain ⟨rfl, _, h⟩ := h
    obtain ⟨k1, k2, k3⟩ := hk
    have hp := hl.per (by omega)
    refine ⟨_, meth_win_most g, fun w' hw => ?_⟩
    refine (win_most l g a n0 t w' (Blk.mod h hw (fun e => e)) hp.1 hp.2 h0 h1 k2 (by omega) hm).mono ?_
    rintro e w'' ⟨rfl, m, rfl⟩
    exact ⟨rfl, (Mod.refl _ _).drewN _⟩
  | bk a lv =>
    obtain ⟨rfl, _, h⟩ := h
    obtain ⟨k1, k2, k3, k4, k5⟩ := hk
    refine ⟨_, meth_bk_most g, fun w' hw => ?_⟩
    refine (bucket_most l g a lv t w' (Blk.mod h hw (fun e => e)) (hl.b k1) k2 k3 k4 (by omega) h1).mono ?_
    rintro e w'' ⟨rfl, m, rfl⟩
    exact ⟨rfl, (Mod.refl _ _).drewN _⟩
  | sl ps =>
    obtain ⟨rfl, h, ho⟩ := h
    obtain ⟨k1, k2, k3, k4⟩ := hk
    exact ⟨_, meth_sl_most g, fun w' hw => sliding_most l g ps A n cp t w' (Blk.mod h hw (fun e => e)) (ho.new hw).sl (CtrOk.mild (l := l) (τ := τ) (k := k) k2) (by have := ho.1; omega) hm⟩
  | on ps =>
    obtain ⟨rfl, h, ho⟩ := h
    obtain ⟨k1, k2, k3, k4⟩ := hk
    exact ⟨_, meth_on_most g, fun w' hw => once_most l g ps A n cp t w' (Blk.mod h hw (fun e => e)) (ho.new hw).sl (CtrOk.mild (l := l) (τ := τ) (k := k) k2) (by have := ho.1; omega) hm⟩

theorem ctr_wait (l : Lim) (d : CtrD) (w : World) (B : Nat) (h : d.At w B l) (hl : RLim' l) {τ t cost : Int} {k : Nat} (hk : CtrOk l τ k d.c) (hkn : k ≤ 1000000) (ht : τ ≤ t) (h0 : 0 ≤ t) (h1 : t ≤ 1000000000000)
    (hc : 1 ≤ cost) (hg : cost ≤ greatest l) (hn : ¬ cost ≤ mostC l d.c t) :
    ∃ f, Meth "gatewarden/limit.wait" d.T d.g f ∧ ∀ w', New w w' → Calls Tryz.prog f #[.pointer (some ⟨d.g, 0, none⟩), .int .i64 t, .int .i64 cost] w' fun e w'' => e = .returned (.int .i64 (waitC l d.c t cost)) ∧ New w' w'' := by
  obtain ⟨T, g, A, n, cp, c⟩ := d
  obtain ⟨_, h⟩ := h
  simp only at *
  have hm := hl.most
  unfold greatest at hg
  cases c with
  | win a n0 =>
    obtain ⟨rfl, _, h⟩ := h
    obtain ⟨k1, k2, k3⟩ := hk
    have hp := hl.per (by omega)
    exact ⟨_, meth_win_wait g, fun w' hw => win_wait l g a n0 t _ w' (Blk.mod h hw (fun e => e)) hp.1 hp.2 h0 h1⟩
  | bk a lv =>
    obtain ⟨rfl, _, h⟩ := h
    obtain ⟨k1, k2, k3, k4, k5⟩ := hk
    have hb := hl.b k1
    have hbu := hb.burst
    rw [if_pos k1] at hg
    simp only [mostC] at hn
    have hle : ¬ cost * l.per ≤ bucketNow l a lv t := fun hx => hn ((Int.le_ediv_iff_mul_le (by have := hb.per; omega)).2 hx)
    exact ⟨_, meth_bk_wait g, fun w' hw => bucket_wait l g a lv t cost w' (Blk.mod h hw (fun e => e)) hb k2 k3 k4 (by omega) h1 (by omega) (by omega) (by omega)⟩
  | sl ps =>
    obtain ⟨rfl, h, ho⟩ := h
    obtain ⟨k1, k2, k3, k4⟩ := hk
    rw [if_neg (by omega)] at hg
    exact ⟨_, meth_sl_wait g, fun w' hw => sliding_wait l g ps A n cp t cost w' (Blk.mod h hw (fun e => e)) (ho.new hw).sl (CtrOk.mild (l := l) (τ := τ) (k := k) k2) (by have := ho.1; omega) hm (by omega) ⟨h0, h1⟩⟩
  | on ps =>
    obtain ⟨rfl, h, ho⟩ := h
    obtain ⟨k1, k2, k3, k4⟩ := hk
    rw [if_neg (by omega)] at hg
    exact ⟨_, meth_on_wait g, fun w' hw => once_wait l g ps A n cp t cost w' (Blk.mod h hw (fun e => e)) (ho.new hw).sl (CtrOk.mild (l := l) (τ := τ) (k := k) k2) (by have := ho.1; omega) hm (by omega) ⟨h0, h1⟩⟩

def RCAdd (w : World) (B : Nat) (l : Lim) (d : CtrD) (a : AskD) (e : Ending) (w' : World) : Prop :=
  e = .returned (.tuple #[]) ∧ ∃ d' : CtrD, d'.T = d.T ∧ d'.g = d.g ∧ d'.c = addC l d.c a ∧ d'.At w' B l ∧ Mod d.F w w' ∧ ∀ x, d'.F x → d.F x ∨ w.heap.size ≤ x

theorem ctr_add (l : Lim) (d : CtrD) (w : World) (B : Nat) (h : d.At w B l) (hl : RLim' l) {τ : Int} {k : Nat} (hk : CtrOk l τ k d.c) (hkn : k ≤ 100000) (a : AskD) (ha : RAskD a) (ht : τ ≤ a.at_) (hB : B ≤ w.heap.size) (hn : a.cost ≤ mostC l d.c a.at_) :
    ∃ f, Meth "gatewarden/limit.add" d.T d.g f ∧ Calls Tryz.prog f #[.pointer (some ⟨d.g, 0, none⟩), .int .i64 a.at_, .int .i64 a.cost, .int .i64 a.long] w (RCAdd w B l d a) := by
  obtain ⟨T, g, A, n, cp, c⟩ := d
  obtain ⟨h0, h⟩ := h
  obtain ⟨⟨a1, a2⟩, ⟨a3, a4⟩, ⟨a5, a6⟩⟩ := ha
  simp only at *
  have hm := hl.most
  cases c with
  | win at0 n0 =>
    obtain ⟨rfl, rfl, h⟩ := h
    obtain ⟨k1, k2, k3⟩ := hk
    have hp := hl.per (by omega)
    refine ⟨_, meth_win_add g, ?_⟩
    refine (win_add l g at0 n0 a.at_ a.cost a.long w h hp.1 hp.2 (by omega) (by omega) k2 (by omega) (by omega)).mono ?_
    rintro e w' ⟨rfl, hm1, hw⟩
    exact ⟨rfl, ⟨_, g, none, n, cp, .win (a.at_ / l.per) (winUsed l at0 n0 a.at_ + a.cost)⟩, rfl, rfl, rfl, ⟨h0, rfl, rfl, hw⟩, hm1.mono (fun x _ e => .inl e), fun x hx => .inl hx⟩
  | bk at0 lv =>
    obtain ⟨rfl, rfl, h⟩ := h
    obtain ⟨k1, k2, k3, k4, k5⟩ := hk
    have hb := hl.b k1
    simp only [mostC] at hn
    have hle : a.cost * l.per ≤ bucketNow l at0 lv a.at_ := (Int.le_ediv_iff_mul_le (by have := hb.per; omega)).1 hn
    refine ⟨_, meth_bk_add g, ?_⟩
    refine (bucket_add l g at0 lv a.at_ a.cost a.long w h hb k2 k3 k4 (by omega) (by omega) (by omega) hle).mono ?_
    rintro e w' ⟨rfl, hm1, hw⟩
    exact ⟨rfl, ⟨_, g, none, n, cp, .bk a.at_ (bucketNow l at0 lv a.at_ - a.cost * l.per)⟩, rfl, rfl, rfl, ⟨h0, rfl, rfl, hw⟩, hm1.mono (fun x _ e => .inl e), fun x hx => .inl hx⟩
  | sl ps =>
    obtain ⟨rfl, h, ho⟩ := h
    obtain ⟨k1, k2, k3, k4⟩ := hk
    have hp := hl.per (by omega)
    refine ⟨_, meth_sl_add g, ?_⟩
    refine (sliding_add l g B ps A n cp a.at_ a.cost a.long w h ho k4 hB (by have := ho.1; omega) ⟨a1, by omega⟩ hp).mono ?_
    rintro e w' ⟨rfl, A', n', c', hw, ho', hm1, hf⟩
    refine ⟨rfl, ⟨_, g, A', n', c', .sl (withP (passP ps a.at_) ⟨a.at_ + l.per, a.cost⟩)⟩, rfl, rfl, rfl, ⟨h0, rfl, hw, ho'⟩, hm1, fun x hx => ?_⟩
    rcases hx with hx | hx
    · exact .inl (.inl hx)
    · rcases hf x hx with e | e
      · exact .inl (.inr e)
      · exact .inr e
  | on ps =>
    obtain ⟨rfl, h, ho⟩ := h
    obtain ⟨k1, k2, k3, k4⟩ := hk
    refine ⟨_, meth_on_add g, ?_⟩
    refine (once_add l g B ps A n cp a.at_ a.cost a.long w h ho k4 hB (by have := ho.1; omega) ⟨a1, by omega⟩ ⟨a5, by omega⟩).mono ?_
    rintro e w' ⟨rfl, A', n', c', hw, ho', hm1, hf⟩
    refine ⟨rfl, ⟨_, g, A', n', c', .on (if 0 < a.long then withP (passP ps a.at_) ⟨a.at_ + a.long, a.cost⟩ else passP ps a.at_)⟩, rfl, rfl, rfl, ⟨h0, rfl, hw, ho'⟩, hm1, fun x hx => ?_⟩
    rcases hx with hx | hx
    · exact .inl (.inl hx)
    · rcases hf x hx with e | e
      · exact .inl (.inr e)
      · exact .inr e

def idleC (l : Lim) : Ctr → Int → Bool
  | .win a n, t => winUsed l a n t == 0
  | .sl ps, t => sumC ps t == 0
  | .bk a lv, t => bucketNow l a lv t == l.burst * l.per
  | .on ps, t => sumC ps t == 0
theorem ctr_idle (l : Lim) (d : CtrD) (w : World) (B : Nat) (h : d.At w B l) (hl : RLim' l) {τ t : Int} {k : Nat} (hk : CtrOk l τ k d.c) (hkn : k ≤ 1000000) (ht : τ ≤ t) (h0 : 0 ≤ t) (h1 : t ≤ 1000000000000) :
    ∃ f, Meth "gatewarden/limit.idle" d.T d.g f ∧ ∀ w', New w w' → Calls Tryz.prog f #[.pointer (some ⟨d.g, 0, none⟩), .int .i64 t] w' fun e w'' => e = .returned (.bool (idleC l d.c t)) ∧ New w' w'' := by
  obtain ⟨T, g, A, n, cp, c⟩ := d
  obtain ⟨_, h⟩ := h
  simp only at *
  cases c with
  | win a n0 =>
    obtain ⟨rfl, _, h⟩ := h
    obtain ⟨k1, k2, k3⟩ := hk
    have hp := hl.per (by omega)
    exact ⟨_, meth_win_idle g, fun w' hw => win_idle l g a n0 t w' (Blk.mod h hw (fun e => e)) hp.1 hp.2 h0 h1⟩
  | bk a lv =>
    obtain ⟨rfl, _, h⟩ := h
    obtain ⟨k1, k2, k3, k4, k5⟩ := hk
    exact ⟨_, meth_bk_idle g, fun w' hw => bucket_idle l g a lv t w' (Blk.mod h hw (fun e => e)) (hl.b k1) k2 k3 k4 (by omega) h1⟩
  | sl ps =>
    obtain ⟨rfl, h, ho⟩ := h
    obtain ⟨k1, k2, k3, k4⟩ := hk
    exact ⟨_, meth_sl_idle g, fun w' hw => sliding_idle l g ps A n cp t w' (Blk.mod h hw (fun e => e)) (ho.new hw).sl (CtrOk.mild (l := l) (τ := τ) (k := k) k2) (by have := ho.1; omega)⟩
  | on ps =>
    obtain ⟨rfl, h, ho⟩ := h
    obtain ⟨k1, k2, k3, k4⟩ := hk
    exact ⟨_, meth_on_idle g, fun w' hw => once_idle l g ps A n cp t w' (Blk.mod h hw (fun e => e)) (ho.new hw).sl (CtrOk.mild (l := l) (τ := τ) (k := k) k2) (by have := ho.1; omega)⟩

end Go.Proofs.YtinnckbffblecaaGreat
