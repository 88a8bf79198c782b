/- The reference's replay. Conditions: limits and asks were checked. -/
import Derived.Test.YtinnckbffblecaaGreatRefMeter6
import Derived.Test.YtinnckbffblecaaGreatMeter2
import Derived.Test.YtinnckbffblecaaGreatAsksMake
namespace Go.Proofs.YtinnckbffblecaaGreat
open Go.RowKit Go.MapKept
set_option linter.unusedVariables false
set_option linter.unusedSimpArgs false


theorem poured_snd {l : Lim} {p : List AskD} {τ : Int} (hp : ∀ a ∈ p, a.at_ ≤ τ) : ∀ s : Int × Int, s.2 ≤ τ → (poured l p s).2 ≤ τ := by
  induction p with
  | nil => exact fun s h => h
  | cons a p ih => exact fun s _ => ih (fun b hb => hp b (by simp [hb])) _ (hp a (by simp))
/-- what both meters know, and that the reference's numbers stay small -/
structure RInv (ls : List Lim) (π : List (ByteArray × List AskD)) (τ : Int) : Prop where
  both : ∃ σ, Both ls σ π τ
  pb : ∀ who p, gget π who = some p → PastB ls p
theorem RInv.start {ls : List Lim} (hl : ∀ l ∈ ls, RLim' l) : RInv ls [] 0 := ⟨⟨[], Both.start hl⟩, fun who p h => by simp [gget_nil] at h⟩
theorem RInv.cur {ls : List Lim} {π : List (ByteArray × List AskD)} {τ : Int} (h : RInv ls π τ) (who : ByteArray) : PastB ls (curR π who) ∧ PastOk (curR π who) τ := by
  obtain ⟨σ, hb⟩ := h.both
  refine ⟨?_, hb.pastCur who⟩
  unfold curR
  cases e : gget π who with
  | none => exact PastB.nil ls
  | some p => exact h.pb who p e
theorem RInv.pour {ls : List Lim} {π : List (ByteArray × List AskD)} {τ : Int} (h : RInv ls π τ) (who : ByteArray) {t : Int} (ht : τ ≤ t) : ∀ l ∈ ls, PourC l (curR π who) t := fun l hl h3 => by
  obtain ⟨h1, h2⟩ := h.cur who
  refine ⟨h1.pour l hl h3, ?_⟩
  have := poured_snd (l := l) (fun a ha => (h2.each a ha).2.1) (fullR l, 0) h2.t0
  omega
theorem RInv.step {ls : List Lim} (hl : ∀ l ∈ ls, RLim' l) {π : List (ByteArray × List AskD)} {τ : Int} (h : RInv ls π τ) {a : AskD} (ha : RAskD a) (ht : τ ≤ a.at_) : RInv ls (putR ls π a) a.at_ := by
  obtain ⟨hcb, hcp⟩ := h.cur a.who
  obtain ⟨σ, hb⟩ := h.both
  refine ⟨⟨_, hb.put hl ht ha.cost.1 ha.long.1⟩, fun who p hg => ?_⟩
  unfold putR at hg
  rw [hb.verd hl ht ha.cost.1] at hg
  by_cases hok : (verdC ls (curC ls σ a.who) a vd0).ok = true
  · rw [if_pos hok, gget_gput] at hg
    split at hg
    · injection hg with hg
      subst hg
      exact hcb.add hl hcp (hb.rel a.who) ha ht (verdC_ok hok).2
    · exact h.pb who p hg
  · rw [if_neg hok] at hg
    exact h.pb who p hg

/-- what the reference holds of one subject -/
structure PastD where
  A : Option Addr
  cp : Nat
  p : List AskD
def PastD.val (s : PastD) : Value := .slice s.A s.p.length s.cp
def pureR (π : List (ByteArray × PastD)) : List (ByteArray × List AskD) := gmap PastD.p π
def past0 : PastD := ⟨none, 0, []⟩
def curD (π : List (ByteArray × PastD)) (who : ByteArray) : PastD := (gget π who).getD past0
theorem curR_pure (π : List (ByteArray × PastD)) (who : ByteArray) : curR (pureR π) who = (curD π who).p := by
  unfold curR pureR curD
  rw [gget_gmap]
  cases gget π who <;> rfl
abbrev PastOwn (w : World) (B : Nat) (s : PastD) : Prop := Own w B 70 4 AskD.enc s.A s.p.length s.cp s.p
structure RefAt (w : World) (B mb : Nat) (π : List (ByteArray × PastD)) : Prop where
  b0 : B ≤ mb
  map : MapOf strKeys w mb (π.map fun p => (p.1, p.2.val))
  own : ∀ who s, gget π who = some s → PastOwn w B s
  apart : ∀ a b s s', a ≠ b → gget π a = some s → gget π b = some s' → ∀ x, blkOf s.A = some x → blkOf s'.A ≠ some x
theorem RefAt.cur {w : World} {B mb : Nat} {π : List (ByteArray × PastD)} (h : RefAt w B mb π) (who : ByteArray) : PastOwn w B (curD π who) := by
  unfold curD
  cases e : gget π who with
  | none => exact Own.nil
  | some s => exact h.own who s e
theorem RefAt.ne {w : World} {B mb : Nat} {π : List (ByteArray × PastD)} (h : RefAt w B mb π) {who : ByteArray} {s : PastD} (hg : PastOwn w B s) : blkOf s.A ≠ some mb := fun e => by
  rcases hg.blk with ⟨h1, _⟩ | ⟨g, h1, _, ht⟩
  · rw [h1] at e; cases e
  · rw [h1] at e; injection e with e; simp only at e; subst e; exact h.map.ne_blk ht rfl
theorem RefAt.new {w w' : World} {B mb : Nat} {π : List (ByteArray × PastD)} (h : RefAt w B mb π) (hm : New w w') : RefAt w' B mb π :=
  ⟨h.b0, h.map.mod hm (fun e => e), fun who s hg => (h.own who s hg).new hm, h.apart⟩
/-- one more ask under a name: first the row, then the map -/
theorem RefAt.put {w w1 w2 : World} {B mb : Nat} {π : List (ByteArray × PastD)} (h : RefAt w B mb π) {who : ByteArray} {s' : PastD} (hm : Mod (fun k => blkOf (curD π who).A = some k) w w1) (hs : PastOwn w1 B s') (hat : ∀ x, blkOf s'.A = some x → blkOf (curD π who).A = some x ∨ w.heap.size ≤ x)
    (hmap : MapOf strKeys w2 mb ((gput π who s').map fun p => (p.1, p.2.val))) (ho : Only mb w1 w2) : RefAt w2 B mb (gput π who s') := by
  have hmb1 : MapOf strKeys w1 mb (π.map fun p => (p.1, p.2.val)) := h.map.mod hm (h.ne (who := who) (h.cur who))
  have hne : ∀ s, PastOwn w1 B s → ∀ x, blkOf s.A = some x → ¬ x = mb := fun s hg x e e' => by
    rcases hg.blk with ⟨h1, _⟩ | ⟨g, h1, _, ht⟩
    · rw [h1] at e; cases e
    · rw [h1] at e; injection e with e; simp only at e; subst e; exact hmb1.ne_blk ht e'
  have hcur : ∀ b s, b ≠ who → gget π b = some s → ∀ x, blkOf s.A = some x → blkOf (curD π who).A ≠ some x := fun b s hb hg x hx e => by
    unfold curD at e
    cases e2 : gget π who with
    | none => rw [e2] at e; cases e
    | some s0 => rw [e2] at e; exact h.apart b who s s0 hb hg e2 x hx e
  have hlt : ∀ b s, gget π b = some s → ∀ x, blkOf s.A = some x → x < w.heap.size := fun b s hg x hx => by
    rcases (h.own b s hg).blk with ⟨h1, _⟩ | ⟨g, h1, _, ht⟩
    · rw [h1] at hx; cases hx
    · rw [h1] at hx; injection hx with hx; simp only at hx; subst hx; exact ht.lt
  refine ⟨h.b0, hmap, fun b s hg => ?_, fun a b s1 s2 hab h1 h2 => ?_⟩
  · rw [gget_gput] at hg
    split at hg
    · injection hg with hg; subst hg
      exact hs.mod ho (hne _ hs)
    · rename_i eb
      have h1 := (h.own b s hg).mod hm (fun x hx e => hcur b s eb hg x hx e)
      exact h1.mod ho (hne _ h1)
  · rw [gget_gput] at h1 h2
    split at h1
    · rename_i ea
      injection h1 with h1
      subst h1
      split at h2
      · rename_i eb; exact absurd (ea.trans eb.symm) hab
      · rename_i eb
        intro x hx hx'
        rcases hat x hx with h3 | h3
        · exact hcur b s2 eb h2 x hx' h3
        · have := hlt b s2 h2 x hx'; omega
    · rename_i ea
      split at h2
      · injection h2 with h2
        subst h2
        intro x hx hx'
        rcases hat x hx' with h3 | h3
        · exact hcur a s1 ea h1 x hx h3
        · have := hlt a s1 h1 x hx; omega
      · exact h.apart a b s1 s2 hab h1 h2

def Vd.enc (v : Vd) : Nat → Value
  | 0 => .bool v.ok
  | 1 => .string v.by_
  | 2 => .int .i64 v.wait
  | _ => .nilFunc
theorem Vd.one (v : Vd) (j : Nat) (hj : j < 3) : (v.enc j).oneCell' = true := by
  obtain rfl | rfl | rfl : j = 0 ∨ j = 1 ∨ j = 2 := by omega
  all_goals rfl
theorem einfo_vd : EInfo Tryz.prog 57 3 32 := EInfo.of (z := .agg #[.bool false, .string ⟨#[]⟩, .int .i64 0]) (by kernel_rfl) rfl (by decide)
abbrev VdRows (w : World) (A : Option Addr) (n : Nat) (vs : List Vd) : Prop := Sl w 57 3 Vd.enc A n vs
abbrev VdOwn (w : World) (B : Nat) (A : Option Addr) (n c : Nat) (vs : List Vd) : Prop := Own w B 57 3 Vd.enc A n c vs
def RVds (w : World) (vs : List Vd) (f : Int) (e : Ending) (w' : World) : Prop := ∃ A c, e = .returned (.tuple #[.slice A vs.length c, .int .i64 f]) ∧ VdRows w' A vs.length vs ∧ New w w'
theorem runR_drop {ls : List Lim} {ks : List AskD} {k : Nat} (hk : k < ks.length) (π : List (ByteArray × List AskD)) : runR ls (ks.drop k) π = verdR ls (curR π ks[k].who) ks[k] vd0 :: runR ls (ks.drop (k + 1)) (putR ls π ks[k]) := by
  rw [List.drop_eq_getElem_cons hk, runR]

end Go.Proofs.YtinnckbffblecaaGreat
