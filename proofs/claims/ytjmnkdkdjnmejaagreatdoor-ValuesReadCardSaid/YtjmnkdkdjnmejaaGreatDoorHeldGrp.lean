/- Several texts in one. (1) A region that draws its order: reads that hold in a class of worlds, beside calls or allocations that come one at a time and keep that class; its last operations come in one forced order and may do anything (a store into a cell that was read among them). One walk in the text's order serves every order. No conditions beside the region's own form. (2) A region that draws its order, its head walked in an order that the proof names (XHeld walks in the text's own). No conditions beside the region's own form. -/
import Derived.Test.YtjmnkdkdjnmejaaGreatDoorBaseGrp
import Derived.StillTail
import Derived.OrdersHeld
import Derived.Deep.RegionHeld

namespace Go.Proofs.YtjmnkdkdjnmejaaGreatDoor
open Go Go.RowKit
set_option linter.unusedVariables false
set_option linter.unusedSimpArgs false

section
variable {P : Program} {ops : Array Oper} {md : Region.Mode} {Q : Exit → Act → World → Prop} {S : World → Prop} {n : Nat}

/-- whatever order the head is carried out in, S holds behind each of its operations, and it ends in L -/
def headH (P : Program) (md : Region.Mode) (ops : Array Oper) (Q : Exit → Act → World → Prop) (S : World → Prop) (n : Nat) (L : Array Bool → Act → World → Prop) : Nat → Array Bool → Act → World → Prop
  | 0, listed, a, w => L listed a w
  | f + 1, listed, a, w => Region.ready md ops listed ≠ [] ∧ ∀ i ∈ Region.ready md ops listed, i < n ∧ wpOp P ops Q i (fun a' w' => S w' ∧ headH P md ops Q S n L f (listed.setIfInBounds i true) a' w') a w

theorem wpAny_of_headH {g : Nat} {L : Array Bool → Act → World → Prop} (hL : ∀ listed a w, L listed a w → wpAny P md ops Q g listed a w) :
    ∀ (f : Nat) (listed : Array Bool) (a : Act) (w : World), headH P md ops Q S n L f listed a w → wpAny P md ops Q (f + g) listed a w
  | 0, listed, a, w, h => by rw [Nat.zero_add]; exact hL _ _ _ h
  | f + 1, listed, a, w, h => by
    rw [show f + 1 + g = (f + g) + 1 by omega]
    exact ⟨fun h0 => absurd h0 h.1, fun i hi => wpOp_mono (fun a' w' h' => wpAny_of_headH hL f _ a' w' h'.2) (h.2 i hi).2⟩

theorem headH_first {i : Nat} {oi : Oper} {v : Value} {L : Array Bool → Act → World → Prop} (hi : ops[i]? = some oi) (hsel : ∀ (j : Nat) (o : Oper) cs b, ops[j]? = some o → o.op ≠ .select cs b)
    (hQ : ∀ c a w, Q (.panic c) (a.put oi.dst v) w → Q (.panic c) a w) (hs : Region.sinkB md ops n = true) (hc : Region.chainB md ops n = true) (hn : n < ops.size) (hin : i < n)
    (hdone : ∀ listed a w, L listed a w → ∀ j ∈ Region.ready md ops listed, n ≤ j) :
    ∀ (f : Nat) (listed : Array Bool) (a : Act) (w : World), HeadInv md ops n listed →
      (∀ j oj, ops[j]? = some oj → j ≠ i → listed.getD j true = false → (∀ e ∈ oj.after, Region.binds md e = true → e.on ≠ i) → oi.apart ops oj = true) →
      i ∈ Region.ready md ops listed → YieldsIf P ops S oi v a → S w →
      headH P md ops Q S n L f (listed.setIfInBounds i true) (a.put oi.dst v) w → headH P md ops Q S n L (f + 1) listed a w := by
  intro f
  have before : ∀ (listed : Array Bool), HeadInv md ops n listed → i ∈ Region.ready md ops listed → ∀ j ∈ Region.ready md ops listed, j < n := by
    intro listed inv hr j hj
    rcases Nat.lt_or_ge j n with h | h
    · exact h
    · exact absurd hj (tail_waits hs hc hn inv _ i rfl hin (mem_ready.1 hr).1 j h)
  induction f with
  | zero =>
    intro listed a w inv _ hr hy hS H
    refine ⟨fun h => (by rw [h] at hr; cases hr), fun j hj => ?_⟩
    have hjn := before listed inv hr j hj
    refine ⟨hjn, ?_⟩
    by_cases hji : j = i
    · subst hji; exact hy.wpOp hi hS ⟨hS, H⟩
    · have := hdone _ _ _ H j (ready_mono hj hji)
      omega
  | succ f ih =>
    intro listed a w inv hfree hr hy hS H
    refine ⟨fun h => (by rw [h] at hr; cases hr), fun j hj => ?_⟩
    have hjn := before listed inv hr j hj
    refine ⟨hjn, ?_⟩
    by_cases hji : j = i
    · subst hji; exact hy.wpOp hi hS ⟨hS, H⟩
    · have h1 := (H.2 j (ready_mono hj hji)).2
      obtain ⟨hjun, oj, hoj, hall⟩ := mem_ready.1 hj
      have hnot : ∀ e ∈ oj.after, Region.binds md e = true → e.on ≠ i := fun e he hb heq => by
        have h1 := hall e he hb
        rw [heq, getD_both (mem_ready.1 hr).1] at h1
        cases h1
      have h2 := wpOp_putIf hoj (hfree j oj hoj hji hjun hnot) (fun cs b => hsel i oi cs b hi) (fun cs b => hsel j oj cs b hoj) hQ hy h1
      have hfree' : ∀ k ok, ops[k]? = some ok → k ≠ i → (listed.setIfInBounds j true).getD k true = false →
          (∀ e ∈ ok.after, Region.binds md e = true → e.on ≠ i) → oi.apart ops ok = true := fun k ok hk hki hun hno => by
        refine hfree k ok hk hki ?_ hno
        by_cases hjk : j = k
        · subst hjk; exact hjun
        · rw [getD_set_ne true hjk] at hun; exact hun
      refine wpOp_mono (fun a' w' h3 => ⟨h3.2.1, ih (listed.setIfInBounds j true) a' w' (inv.set hj hjn) hfree' (ready_mono hr (Ne.symm hji)) h3.1 h3.2.1 ?_⟩) h2
      rw [Array.setIfInBounds_comm _ _ hji]
      exact h3.2.2

end

end Go.Proofs.YtjmnkdkdjnmejaaGreatDoor

namespace Go.Proofs.YtjmnkdkdjnmejaaGreatDoor
open Go Go.RowKit
set_option linter.unusedVariables false
set_option linter.unusedSimpArgs false

section
variable {P : Program} {ops : Array Oper} {md : Region.Mode} {Q : Exit → Act → World → Prop} {S : World → Prop} {n : Nat}

/-- the walk in the order that is named -/
def wpHeldO (P : Program) (ops : Array Oper) (Q : Exit → Act → World → Prop) (S : World → Prop) (cs : List Nat) (L : Act → World → Prop) : List Nat → Act → World → Prop
  | [], a, w => L a w
  | k :: l, a, w => if cs.contains k then wpOp P ops Q k (fun a' w' => S w' ∧ wpHeldO P ops Q S cs L l a' w') a w
    else ∃ o v, ops[k]? = some o ∧ YieldsIf P ops S o v a ∧ wpHeldO P ops Q S cs L l (a.put o.dst v) w

def lexHeldO (md : Region.Mode) (ops : Array Oper) (cs : List Nat) (g n : Nat) : List Nat → Array Bool → Bool
  | [], listed => Region.seqB md ops g n listed
  | k :: l, listed => decide (k < n) && (if cs.contains k then decide (Region.ready md ops listed = [k]) else (Region.ready md ops listed).contains k && Region.free md ops listed k) && lexHeldO md ops cs g n l (listed.setIfInBounds k true)
def heldOrdB (md : Region.Mode) (ops : Array Oper) (cs ord : List Nat) : Bool :=
  Region.noSelect ops && decide (ord.length < ops.size) && Region.sinkB md ops ord.length && Region.chainB md ops ord.length && lexHeldO md ops cs (ops.size - ord.length) ord.length ord (Array.replicate ops.size false)

theorem headH_ord {g : Nat} {cs : List Nat} {Lq : Act → World → Prop} (hQ : ∀ c a d v w, Q (.panic c) (Act.put a d v) w → Q (.panic c) a w) (hsel : Region.noSelect ops = true) (hs : Region.sinkB md ops n = true) (hc : Region.chainB md ops n = true) (hn : n < ops.size) :
    ∀ (l : List Nat) (listed : Array Bool) (a : Act) (w : World), HeadInv md ops n listed →
    lexHeldO md ops cs g n l listed = true → S w → wpHeldO P ops Q S cs Lq l a w →
    headH P md ops Q S n (fun listed' a' w' => Region.seqB md ops g n listed' = true ∧ Lq a' w') l.length listed a w
  | [], listed, a, w, _, hB, _, h => ⟨by simpa [lexHeldO] using hB, h⟩
  | k :: l, listed, a, w, inv, hB, hS, h => by
    simp only [lexHeldO, Bool.and_eq_true, decide_eq_true_eq] at hB
    obtain ⟨⟨hkn, hr⟩, hB'⟩ := hB
    unfold wpHeldO at h
    by_cases hcs : cs.contains k = true
    · rw [if_pos hcs] at hr h
      have hr' : Region.ready md ops listed = [k] := by simpa using hr
      have hkr : k ∈ Region.ready md ops listed := by rw [hr']; simp
      refine ⟨by rw [hr']; simp, fun i hi => ?_⟩
      rw [hr'] at hi
      have hik : i = k := by simpa using hi
      subst hik
      refine ⟨hkn, wpOp_mono (fun a' w' h' => ⟨h'.1, headH_ord hQ hsel hs hc hn l _ a' w' (inv.set hkr hkn) hB' h'.1 h'.2⟩) h⟩
    · rw [if_neg hcs] at hr h
      simp only [Bool.and_eq_true] at hr
      obtain ⟨hr, hf⟩ := hr
      have hr' : k ∈ Region.ready md ops listed := by simpa using hr
      obtain ⟨o, v, h0, hy, hK⟩ := h
      exact headH_first h0 (Region.noSelect_spec hsel) (fun c a w => hQ c a _ v w) hs hc hn hkn (fun listed' a' w' hL => seqB_ready hL.1) l.length listed a w inv (Region.free_spec h0 hf) hr' hy hS
        (headH_ord hQ hsel hs hc hn l _ _ w (inv.set hr' hkn) hB' hS hK)

/-- the head's operations by 'wpHeldO'; the others come in their order -/
theorem wp_region_held_ord {id : Nat} {a : Act} {w : World} {l : List Oper} (S : World → Prop) (cs ord : List Nat) (hm : P.follows .mixedOrders = true) (hB : heldOrdB .any l.toArray cs ord = true) (hQ : ∀ c a d v w, Q (.panic c) (Act.put a d v) w → Q (.panic c) a w) (hS : S w.drew)
    (h : S w.drew → wpHeldO P l.toArray Q S cs (fun a' w' => wpList P l.toArray Q (l.drop ord.length) a' w') ord a w.drew) : (Code.region id l.toArray true).wp P Q a w := by
  simp only [heldOrdB, Bool.and_eq_true, decide_eq_true_eq] at hB
  obtain ⟨⟨⟨⟨hsel, hn⟩, hs⟩, hc⟩, hlex⟩ := hB
  have hdl : (l.drop ord.length).length = l.toArray.size - ord.length := by simp
  have inv0 : HeadInv .any l.toArray ord.length (Array.replicate l.toArray.size false) :=
    ⟨by simp, fun j oj _ hl => (by rw [getD_replicate_false] at hl; cases hl), fun t _ ht => getD_in (by simpa using ht) (getD_replicate_false _ _)⟩
  have H := headH_ord (md := .any) (g := l.toArray.size - ord.length) hQ hsel hs hc hn ord _ a w.drew inv0 hlex hS (h hS)
  refine wp_region_any hm ?_
  have := wpAny_of_headH (md := .any) (Q := Q) (g := l.toArray.size - ord.length) (fun listed a' w' hL => by
    have := wpAny_of_seq (md := .any) (Q' := Q) (l.drop ord.length) ord.length listed a' w' (fun j => by simp [List.getElem?_drop]) (by rw [hdl]; exact hL.1) hL.2
    rwa [hdl] at this) _ _ _ _ H
  rw [show ord.length + (l.toArray.size - ord.length) = l.toArray.size by omega] at this
  exact this

theorem heldO_nil {cs : List Nat} {L : Act → World → Prop} {a : Act} {w : World} (h : L a w) : wpHeldO P ops Q S cs L [] a w := h
theorem heldO_take {cs : List Nat} {L : Act → World → Prop} {k : Nat} {o : Oper} {l : List Nat} {a : Act} {w : World} (v : Value) (hk : cs.contains k = false) (ho : ops[k]? = some o) (hg : Region.wanted o (yielded ops a.tmps) = true) (hy : ∀ w, S w → (execOp a.eval o).run P w = .ok (.value v) w)
    (h : wpHeldO P ops Q S cs L l (a.put o.dst v) w) : wpHeldO P ops Q S cs L (k :: l) a w := by
  unfold wpHeldO
  rw [if_neg (by rw [hk]; exact Bool.false_ne_true)]
  exact ⟨o, v, ho, .inl ⟨hg, hy⟩, h⟩
theorem heldO_step {cs : List Nat} {L : Act → World → Prop} {k : Nat} {o : Oper} {l : List Nat} {a : Act} {w : World} (hk : cs.contains k = true) (ho : ops[k]? = some o) (hg : o.guard = none)
    (h : ∀ K : Act → World → Prop, Shut (∀ a' w', S w' → (S w' → wpHeldO P ops Q S cs L l a' w') → K a' w') → o.wp P a w K Q) : wpHeldO P ops Q S cs L (k :: l) a w := by
  unfold wpHeldO
  rw [if_pos hk]
  unfold wpOp
  simp only [ho]
  rw [if_pos (by simp [Region.wanted, hg])]
  exact .inl (h _ (fun a' w' h1 h2 => ⟨h1, h2 h1⟩))
end

end Go.Proofs.YtjmnkdkdjnmejaaGreatDoor
