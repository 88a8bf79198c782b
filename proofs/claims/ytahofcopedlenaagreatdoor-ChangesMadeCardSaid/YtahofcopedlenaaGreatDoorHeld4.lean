/- A region that draws its order, its head walked as a tree: where several steps are ready each one has its own goal; its last operations come in one forced order and may do anything. No conditions beside the region's own form. -/
import Derived.Test.YtahofcopedlenaaGreatDoorHeld2
namespace Go.Proofs.YtahofcopedlenaaGreatDoor
open Go Go.RowKit
set_option linter.unusedVariables false
set_option linter.unusedSimpArgs false

section
variable {P : Program} {ops : Array Oper} {md : Region.Mode} {Q : Exit → Act → World → Prop} {S : World → Prop} {n : Nat}

/-- the walk of what is left of a head: f operations -/
def headW (P : Program) (md : Region.Mode) (ops : Array Oper) (Q : Exit → Act → World → Prop) (S : World → Prop) (n : Nat) (Lq : Act → World → Prop) (f : Nat) (listed : Array Bool) (a : Act) (w : World) : Prop :=
  HeadInv md ops n listed → headH P md ops Q S n (fun listed' a' w' => Region.seqB md ops (ops.size - n) n listed' = true ∧ Lq a' w') f listed a w

theorem headW_done {Lq : Act → World → Prop} {listed : Array Bool} {a : Act} {w : World} (hB : Region.seqB md ops (ops.size - n) n listed = true) (h : Lq a w) : headW P md ops Q S n Lq 0 listed a w := fun _ => ⟨hB, h⟩
/-- what a region's head asks for, whatever its walk -/
def headB (md : Region.Mode) (ops : Array Oper) (n : Nat) : Bool := Region.noSelect ops && decide (n < ops.size) && Region.sinkB md ops n && Region.chainB md ops n
def takeB (md : Region.Mode) (ops : Array Oper) (n k : Nat) (listed : Array Bool) : Bool := decide (k < n) && (Region.ready md ops listed).contains k && Region.free md ops listed k
theorem headW_take {Lq : Act → World → Prop} {f : Nat} {listed : Array Bool} {a : Act} {w : World} (k : Nat) (o : Oper) (v : Value) (hQ : ∀ c a d v w, Q (.panic c) (Act.put a d v) w → Q (.panic c) a w) (hH : headB md ops n = true) (ho : ops[k]? = some o) (hB : takeB md ops n k listed = true) (hS : S w)
    (hg : Region.wanted o (yielded ops a.tmps) = true) (hy : ∀ w, S w → (execOp a.eval o).run P w = .ok (.value v) w) (h : headW P md ops Q S n Lq f (listed.setIfInBounds k true) (a.put o.dst v) w) : headW P md ops Q S n Lq (f + 1) listed a w := by
  intro inv
  simp only [headB, Bool.and_eq_true, decide_eq_true_eq] at hH
  obtain ⟨⟨⟨hsel, hn⟩, hs⟩, hc⟩ := hH
  simp only [takeB, Bool.and_eq_true, decide_eq_true_eq] at hB
  obtain ⟨⟨hkn, hr⟩, hf⟩ := hB
  have hr' : k ∈ Region.ready md ops listed := by simpa using hr
  exact headH_first ho (Region.noSelect_spec hsel) (fun c a w => hQ c a _ v w) hs hc hn hkn (fun listed' a' w' hL => seqB_ready hL.1) f listed a w inv (Region.free_spec ho hf) hr' (.inl ⟨hg, hy⟩) hS (h (inv.set hr' hkn))
/-- each of the ready ones, with its own goal -/
def eachW (P : Program) (md : Region.Mode) (ops : Array Oper) (Q : Exit → Act → World → Prop) (S : World → Prop) (n : Nat) (Lq : Act → World → Prop) (f : Nat) (listed : Array Bool) (a : Act) (w : World) : List Nat → Prop
  | [] => True
  | k :: l => wpOp P ops Q k (fun a' w' => S w' ∧ headW P md ops Q S n Lq f (listed.setIfInBounds k true) a' w') a w ∧ eachW P md ops Q S n Lq f listed a w l
theorem eachW_nil {Lq : Act → World → Prop} {f : Nat} {listed : Array Bool} {a : Act} {w : World} : eachW P md ops Q S n Lq f listed a w [] := trivial
theorem eachW_step {Lq : Act → World → Prop} {f : Nat} {listed : Array Bool} {a : Act} {w : World} {k : Nat} {l : List Nat} {o : Oper} (ho : ops[k]? = some o) (hg : o.guard = none)
    (h : ∀ K : Act → World → Prop, Shut (∀ a' w', S w' → (S w' → headW P md ops Q S n Lq f (listed.setIfInBounds k true) a' w') → K a' w') → o.wp P a w K Q) (h2 : eachW P md ops Q S n Lq f listed a w l) : eachW P md ops Q S n Lq f listed a w (k :: l) := by
  refine ⟨?_, h2⟩
  unfold wpOp
  simp only [ho]
  rw [if_pos (by simp [Region.wanted, hg])]
  exact .inl (h _ (fun a' w' h1 h2 => ⟨h1, h2 h1⟩))
theorem eachW_mem {Lq : Act → World → Prop} {f : Nat} {listed : Array Bool} {a : Act} {w : World} : ∀ {l : List Nat}, eachW P md ops Q S n Lq f listed a w l → ∀ k ∈ l, wpOp P ops Q k (fun a' w' => S w' ∧ headW P md ops Q S n Lq f (listed.setIfInBounds k true) a' w') a w
  | [], _, k, hk => by cases hk
  | j :: l, h, k, hk => by
    rcases List.mem_cons.1 hk with rfl | hk
    · exact h.1
    · exact eachW_mem h.2 k hk
theorem headW_ready {Lq : Act → World → Prop} {f : Nat} {listed : Array Bool} {a : Act} {w : World} (rs : List Nat) (hr : Region.ready md ops listed = rs) (hrs : (!rs.isEmpty && rs.all (fun k => decide (k < n))) = true) (h : eachW P md ops Q S n Lq f listed a w rs) : headW P md ops Q S n Lq (f + 1) listed a w := by
  intro inv
  subst hr
  simp only [Bool.and_eq_true, Bool.not_eq_true', List.all_eq_true, decide_eq_true_eq] at hrs
  refine ⟨fun e => by rw [e] at hrs; exact absurd hrs.1 (by simp), fun i hi => ?_⟩
  have hin := hrs.2 i hi
  exact ⟨hin, wpOp_mono (fun a' w' h' => ⟨h'.1, h'.2 (inv.set hi hin)⟩) (eachW_mem h i hi)⟩

/-- the head's n operations by 'headW'; the others come in their order -/
theorem wp_region_held_tree {id : Nat} {a : Act} {w : World} {l : List Oper} (S : World → Prop) (n : Nat) (hm : P.follows .mixedOrders = true) (hB : headB .any l.toArray n = true)
    (h : headW P .any l.toArray Q S n (fun a' w' => wpList P l.toArray Q (l.drop n) a' w') n (Array.replicate l.toArray.size false) a w.drew) : (Code.region id l.toArray true).wp P Q a w := by
  have hB' := hB
  simp only [headB, Bool.and_eq_true, decide_eq_true_eq] at hB'
  obtain ⟨⟨⟨hsel, hn⟩, hs⟩, hc⟩ := hB'
  have hdl : (l.drop n).length = l.toArray.size - n := by simp
  have inv0 : HeadInv .any l.toArray n (Array.replicate l.toArray.size false) :=
    ⟨by simp, fun j oj _ hl => (by rw [getD_replicate_false] at hl; cases hl), fun t _ ht => getD_in (by simpa using ht) (getD_replicate_false _ _)⟩
  have H := h inv0
  refine wp_region_any hm ?_
  have := wpAny_of_headH (md := .any) (Q := Q) (g := l.toArray.size - n) (fun listed a' w' hL => by
    have := wpAny_of_seq (md := .any) (Q' := Q) (l.drop n) n listed a' w' (fun j => by simp [List.getElem?_drop]) (by rw [hdl]; exact hL.1) hL.2
    rwa [hdl] at this) _ _ _ _ H
  rw [show n + (l.toArray.size - n) = l.toArray.size by omega] at this
  exact this
end

end Go.Proofs.YtahofcopedlenaaGreatDoor
