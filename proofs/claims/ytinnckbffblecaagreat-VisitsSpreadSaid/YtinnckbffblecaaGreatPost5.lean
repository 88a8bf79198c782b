/- The reference's player of visits: what is known of letters, and the post behind a turn of its letters. Conditions: a state that came of visits. -/
import Derived.Test.YtinnckbffblecaaGreatPost4
namespace Go.Proofs.YtinnckbffblecaaGreat
open Go.RowKit Go.MapKept
set_option linter.unusedVariables false
set_option linter.unusedSimpArgs false

section
variable {l : Lim} {D τ : Int} {k : Nat} {p : PSt} {q : QSt}
theorem Sim.letter (h : Sim l D τ k p q) (hD : 0 ≤ D) {x : Let} (hx : x ∈ q.ls) : τ ≤ x.at_ ∧ 0 ≤ x.at_ ∧ 0 ≤ x.many ∧ x.many ≤ 1000000000 ∧ (x.back = false → 1 ≤ x.many) := by
  obtain ⟨o, ho, rfl⟩ := List.mem_map.1 (h.perm.mem_iff.1 hx)
  have h1 := h.nxt o ho
  have h2 := h.asked o ho
  have h3 := h.t0
  unfold Ord.next at h1
  unfold Ord.let_
  cases hd : o.done
  · rw [hd] at h1
    simp at h1 ⊢
    omega
  · rw [hd] at h1
    simp at h1 ⊢
    omega
theorem Sim.givenB (h : Sim l D τ k p q) (hl : WLim l) {t : Int} (ht : τ ≤ t) : 0 ≤ q.given (t / l.per) ∧ q.given (t / l.per) ≤ l.most := by
  rw [given_there h ht hl]
  have := thereG_ok h.ok hl t
  omega
theorem Sim.qfacts (h : Sim l D τ k p q) (hk : k ≤ 3000) : (∀ g, 0 ≤ q.stock g ∧ q.stock g ≤ 3000000000000) ∧ q.ls.length ≤ 3000 := by
  refine ⟨fun g => ?_, ?_⟩
  · have := h.qstk g
    have := h.qstk1 g
    omega
  · have := h.perm.length_eq
    have := h.qstk ⟨#[]⟩
    have := h.qstk1 ⟨#[]⟩
    simp at *
    omega
end

section
variable {w w1 : World} {B gp g1 g2 g3 g4 : Nat} {A A' : Option Addr} {c c' : Nat} {l : Lim} {D : Int} {q : QSt}
/-- the post's letters are turned: a row of letters, then the post's own field -/
theorem PoAt.setLs (h : PoAt w B gp g1 g2 g3 g4 A c l D q) (hm : Mod (fun k => blkOf A = some k) w w1) {ls : List Let} {n : Nat} (hn : ls.length = n) (hown : Own w1 B 100 6 Let.enc A' n c' ls) :
    PoAt (w1.setCell ⟨gp, 10, none⟩ (.slice A' n c')) B gp g1 g2 g3 g4 A' c' l D { q with ls := ls } := by
  subst hn
  have hb := h.blk.mod hm (fun e => h.ownNe h.blk.tb (by decide) _ e rfl)
  have hgp : ∀ {κ : Type} [DecidableEq κ] {K : Keys κ} {z : Value} {f : κ → Value} {b : Nat}, FMap K w b z f → FMap K (w1.setCell ⟨gp, 10, none⟩ (.slice A' ls.length c')) b z f := fun hf =>
    (hf.mod hm (fun e => h.ownNeMap hf _ e rfl)).mod (Only.cell1 _ gp 10 _) (fun e => hf.ne_blk h.blk.tb e.symm)
  refine ⟨by have := hb.set 10 (.slice A' ls.length c'); simpa using this, hgp h.giv, hgp h.stk, hgp h.ofs, hgp h.wts, hown.mod (Only.cell1 _ gp 10 _) (fun g e e2 => ?_), h.n12, h.n13, h.n14, h.n23, h.n24, h.n34, h.bp, h.b1, h.b2, h.b3, h.b4⟩
  rcases hown.blk with ⟨hA, _⟩ | ⟨g', hA, _, hg⟩
  · rw [hA] at e; cases e
  · rw [hA] at e; injection e with e; subst e; exact hg.ne hb.tb (by decide) e2
theorem PoAt.farLs (h : PoAt w B gp g1 g2 g3 g4 A c l D q) (hm : Mod (fun k => blkOf A = some k) w w1) (u : Value) : Mod (Far w B poT) w (w1.setCell ⟨gp, 10, none⟩ u) := by
  have h1 : Mod (Far w B poT) w w1 := hm.mono (fun i _ e => by
    rcases h.own.blk with ⟨hA, _⟩ | ⟨g', hA, hB, hg⟩
    · rw [hA] at e; cases e
    · rw [hA] at e; injection e with e; subst e; exact Far.of_tb hg hB (by simp))
  have hb := h.blk.mod hm (fun e => h.ownNe h.blk.tb (by decide) _ e rfl)
  exact Far.trans h1 (Far.only (Far.of_tb hb.tb h.bp (by simp)) (Only.cell1 _ gp 10 u))
end

end Go.Proofs.YtinnckbffblecaaGreat
