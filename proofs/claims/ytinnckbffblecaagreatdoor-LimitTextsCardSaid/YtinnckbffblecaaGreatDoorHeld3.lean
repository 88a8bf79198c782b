/- A region that draws its order, its head walked in a named order; each step (a call, an allocation) may add a fact that holds from then on, and what is read behind it may lean on that. No conditions beside the region's own form. -/
import Derived.Test.YtinnckbffblecaaGreatDoorHeld
namespace Go.Proofs.YtinnckbffblecaaGreatDoor
open Go Go.RowKit
set_option linter.unusedVariables false
set_option linter.unusedSimpArgs false

section
variable {P : Program} {ops : Array Oper} {md : Region.Mode} {Q : Exit → Act → World → Prop} {n : Nat}

def headM (P : Program) (md : Region.Mode) (ops : Array Oper) (Q : Exit → Act → World → Prop) (S : Array Bool → World → Prop) (n : Nat) (L : Array Bool → Act → World → Prop) : Nat → Array Bool → Act → World → Prop
  | 0, listed, a, w => L listed a w
  | f + 1, listed, a, w => Region.ready md ops listed ≠ [] ∧ ∀ i ∈ Region.ready md ops listed, i < n ∧ wpOp P ops Q i (fun a' w' => S (listed.setIfInBounds i true) w' ∧ headM P md ops Q S n L f (listed.setIfInBounds i true) a' w') a w

theorem wpAny_of_headM {S : Array Bool → World → Prop} {g : Nat} {L : Array Bool → Act → World → Prop} (hL : ∀ listed a w, L listed a w → wpAny P md ops Q g listed a w) :
    ∀ (f : Nat) (listed : Array Bool) (a : Act) (w : World), headM P md ops Q S n L f listed a w → wpAny P md ops Q (f + g) listed a w
  | 0, listed, a, w, h => by rw [Nat.zero_add]; exact hL _ _ _ h
  | f + 1, listed, a, w, h => by
    rw [show f + 1 + g = (f + g) + 1 by omega]
    exact ⟨fun h0 => absurd h0 h.1, fun i hi => wpOp_mono (fun a' w' h' => wpAny_of_headM hL f _ a' w' h'.2) (h.2 i hi).2⟩

theorem yields_less {S T : World → Prop} {o : Oper} {v : Value} {a : Act} (h : YieldsIf P ops S o v a) (hs : ∀ w, T w → S w) : YieldsIf P ops T o v a :=
  h.imp (fun ⟨hw, hv⟩ => ⟨hw, fun w hw' => hv w (hs w hw')⟩) id

theorem headM_first {S : Array Bool → World → Prop} (hmono : ∀ listed i w, S (listed.setIfInBounds i true) w → S listed w) {i : Nat} {oi : Oper} {v : Value} {L : Array Bool → Act → World → Prop} (hi : ops[i]? = some oi) (hsel : ∀ (j : Nat) (o : Oper) cs b, ops[j]? = some o → o.op ≠ .select cs b)
    (hQ : ∀ c a w, Q (.panic c) (a.put oi.dst v) w → Q (.panic c) a w) (hs : Region.sinkB md ops n = true) (hc : Region.chainB md ops n = true) (hn : n < ops.size) (hin : i < n)
    (hset : ∀ listed w, S listed w → S (listed.setIfInBounds i true) w)
    (hdone : ∀ listed a w, L listed a w → ∀ j ∈ Region.ready md ops listed, n ≤ j) :
    ∀ (f : Nat) (listed : Array Bool) (a : Act) (w : World), HeadInv md ops n listed →
      (∀ j oj, ops[j]? = some oj → j ≠ i → listed.getD j true = false → (∀ e ∈ oj.after, Region.binds md e = true → e.on ≠ i) → oi.apart ops oj = true) →
      i ∈ Region.ready md ops listed → YieldsIf P ops (S listed) oi v a → S listed w →
      headM P md ops Q S n L f (listed.setIfInBounds i true) (a.put oi.dst v) w → headM P md ops Q S n L (f + 1) listed a w := by
  intro f
  have before : ∀ (listed : Array Bool), HeadInv md ops n listed → i ∈ Region.ready md ops listed → ∀ j ∈ Region.ready md ops listed, j < n := by
    intro listed inv hr j hj
    rcases Nat.lt_or_ge j n with h | h
    · exact h
    · exact absurd hj (tail_waits hs hc hn inv _ i rfl hin (mem_ready.1 hr).1 j h)
  induction f with
  | zero =>
    intro listed a w inv _ hr hy hS H
    refine ⟨fun h => (by rw [h] at hr; cases hr), fun j hj => ?_⟩
    have hjn := before listed inv hr j hj
    refine ⟨hjn, ?_⟩
    by_cases hji : j = i
    · subst hji; exact hy.wpOp hi hS ⟨hset _ _ hS, H⟩
    · have := hdone _ _ _ H j (ready_mono hj hji)
      omega
  | succ f ih =>
    intro listed a w inv hfree hr hy hS H
    refine ⟨fun h => (by rw [h] at hr; cases hr), fun j hj => ?_⟩
    have hjn := before listed inv hr j hj
    refine ⟨hjn, ?_⟩
    by_cases hji : j = i
    · subst hji; exact hy.wpOp hi hS ⟨hset _ _ hS, H⟩
    · have h1 := (H.2 j (ready_mono hj hji)).2
      obtain ⟨hjun, oj, hoj, hall⟩ := mem_ready.1 hj
      have hnot : ∀ e ∈ oj.after, Region.binds md e = true → e.on ≠ i := fun e he hb heq => by
        have h1 := hall e he hb
        rw [heq, getD_both (mem_ready.1 hr).1] at h1
        cases h1
      have h2 := wpOp_putIf hoj (hfree j oj hoj hji hjun hnot) (fun cs b => hsel i oi cs b hi) (fun cs b => hsel j oj cs b hoj) hQ hy h1
      have hfree' : ∀ k ok, ops[k]? = some ok → k ≠ i → (listed.setIfInBounds j true).getD k true = false →
          (∀ e ∈ ok.after, Region.binds md e = true → e.on ≠ i) → oi.apart ops ok = true := fun k ok hk hki hun hno => by
        refine hfree k ok hk hki ?_ hno
        by_cases hjk : j = k
        · subst hjk; exact hjun
        · rw [getD_set_ne true hjk] at hun; exact hun
      refine wpOp_mono (fun a' w' h3 => ?_) h2
      have hS' : S (listed.setIfInBounds j true) w' := by
        have := h3.2.1
        rw [Array.setIfInBounds_comm _ _ (Ne.symm hji)] at this
        exact hmono _ _ _ this
      refine ⟨hS', ih (listed.setIfInBounds j true) a' w' (inv.set hj hjn) hfree' (ready_mono hr (Ne.symm hji)) (yields_less h3.1 (fun w'' h'' => hmono _ _ _ h'')) hS' ?_⟩
      rw [Array.setIfInBounds_comm _ _ hji]
      exact h3.2.2

/-- what holds when the steps 'done' have been -/
def heldBy (S : World → Prop) (E : Nat → World → Prop) : List Nat → World → Prop
  | [], w => S w
  | d :: l, w => E d w ∧ heldBy S E l w
theorem heldBy_iff {S : World → Prop} {E : Nat → World → Prop} {l : List Nat} {w : World} : heldBy S E l w ↔ S w ∧ ∀ d ∈ l, E d w := by
  induction l with
  | nil => simp [heldBy]
  | cons d l ih => simp only [heldBy, ih, List.mem_cons]; constructor <;> (intro h; simp_all)

def wpHeldM (P : Program) (ops : Array Oper) (Q : Exit → Act → World → Prop) (S : World → Prop) (E : Nat → World → Prop) (cs : List Nat) (L : Act → World → Prop) : List Nat → List Nat → Act → World → Prop
  | [], _, a, w => L a w
  | k :: l, done, a, w => if cs.contains k then wpOp P ops Q k (fun a' w' => heldBy S E (k :: done) w' ∧ wpHeldM P ops Q S E cs L l (k :: done) a' w') a w
    else ∃ o v, ops[k]? = some o ∧ YieldsIf P ops (heldBy S E done) o v a ∧ wpHeldM P ops Q S E cs L l done (a.put o.dst v) w

def lexHeldM (md : Region.Mode) (ops : Array Oper) (cs : List Nat) (g n : Nat) : List Nat → Array Bool → Bool
  | [], listed => Region.seqB md ops g n listed
  | k :: l, listed => decide (k < n) && (if cs.contains k then decide (Region.ready md ops listed = [k]) else (Region.ready md ops listed).contains k && Region.free md ops listed k) && lexHeldM md ops cs g n l (listed.setIfInBounds k true)
def heldMarkB (md : Region.Mode) (ops : Array Oper) (cs ord : List Nat) : Bool :=
  Region.noSelect ops && decide (ord.length < ops.size) && Region.sinkB md ops ord.length && Region.chainB md ops ord.length && lexHeldM md ops cs (ops.size - ord.length) ord.length ord (Array.replicate ops.size false)

def markS (S : World → Prop) (E : Nat → World → Prop) (cs : List Nat) (listed : Array Bool) (w : World) : Prop := S w ∧ ∀ d ∈ cs, listed.getD d false = true → E d w

theorem getD_set_false (l : Array Bool) (i d : Nat) (h : l.getD d false = true) : (l.setIfInBounds i true).getD d false = true := by
  by_cases e : i = d
  · subst e
    have hlt : i < l.size := by
      rcases Nat.lt_or_ge i l.size with h' | h'
      · exact h'
      · simp [Array.getElem?_eq_none h'] at h
    simp [hlt]
  · have : (l.setIfInBounds i true)[d]? = l[d]? := by simp [Array.getElem?_setIfInBounds, e]
    simpa [Array.getD_eq_getD_getElem?, this] using h
theorem getD_set_ne' (l : Array Bool) {i d : Nat} (e : i ≠ d) : (l.setIfInBounds i true).getD d false = l.getD d false := by
  have : (l.setIfInBounds i true)[d]? = l[d]? := by simp [Array.getElem?_setIfInBounds, e]
  simp [Array.getD_eq_getD_getElem?, this]

theorem headM_ord {S : World → Prop} {E : Nat → World → Prop} {g : Nat} {cs : List Nat} {Lq : Act → World → Prop} (hQ : ∀ c a d v w, Q (.panic c) (Act.put a d v) w → Q (.panic c) a w) (hsel : Region.noSelect ops = true) (hs : Region.sinkB md ops n = true) (hc : Region.chainB md ops n = true) (hn : n < ops.size) :
    ∀ (l done : List Nat) (listed : Array Bool) (a : Act) (w : World), HeadInv md ops n listed → (∀ d, d ∈ done ↔ d ∈ cs ∧ listed.getD d false = true) →
    lexHeldM md ops cs g n l listed = true → heldBy S E done w → wpHeldM P ops Q S E cs Lq l done a w →
    headM P md ops Q (markS S E cs) n (fun listed' a' w' => Region.seqB md ops g n listed' = true ∧ Lq a' w') l.length listed a w
  | [], done, listed, a, w, _, _, hB, _, h => ⟨by simpa [lexHeldM] using hB, h⟩
  | k :: l, done, listed, a, w, inv, hd, hB, hS, h => by
    have hmono : ∀ listed i w, markS S E cs (listed.setIfInBounds i true) w → markS S E cs listed w := fun listed i w h => ⟨h.1, fun d hd hl => h.2 d hd (getD_set_false _ _ _ hl)⟩
    simp only [lexHeldM, Bool.and_eq_true, decide_eq_true_eq] at hB
    obtain ⟨⟨hkn, hr⟩, hB'⟩ := hB
    have hsz := inv.size
    unfold wpHeldM at h
    by_cases hcs : cs.contains k = true
    · rw [if_pos hcs] at hr h
      have hkc : k ∈ cs := by simpa using hcs
      have hr' : Region.ready md ops listed = [k] := by simpa using hr
      have hkr : k ∈ Region.ready md ops listed := by rw [hr']; simp
      have hd' : ∀ d, d ∈ k :: done ↔ d ∈ cs ∧ (listed.setIfInBounds k true).getD d false = true := fun d => by
        by_cases e : k = d
        · subst e
          have hlt : k < listed.size := by rw [hsz]; omega
          simp [hkc, hlt]
        · rw [getD_set_ne' _ e, ← hd d]
          simp [Ne.symm e]
      refine ⟨by rw [hr']; simp, fun i hi => ?_⟩
      rw [hr'] at hi
      have hik : i = k := by simpa using hi
      subst hik
      refine ⟨hkn, wpOp_mono (fun a' w' h' => ⟨⟨(heldBy_iff.1 h'.1).1, fun d hdc hdl => (heldBy_iff.1 h'.1).2 d ((hd' d).2 ⟨hdc, hdl⟩)⟩, headM_ord hQ hsel hs hc hn l (i :: done) _ a' w' (inv.set hkr hkn) hd' hB' h'.1 h'.2⟩) h⟩
    · rw [if_neg hcs] at hr h
      have hkc : k ∉ cs := by simpa using hcs
      simp only [Bool.and_eq_true] at hr
      obtain ⟨hr, hf⟩ := hr
      have hr' : k ∈ Region.ready md ops listed := by simpa using hr
      obtain ⟨o, v, h0, hy, hK⟩ := h
      have hd' : ∀ d, d ∈ done ↔ d ∈ cs ∧ (listed.setIfInBounds k true).getD d false = true := fun d => by
        by_cases e : k = d
        · subst e
          constructor
          · intro hx; exact absurd ((hd k).1 hx).1 hkc
          · intro hx; exact absurd hx.1 hkc
        · rw [getD_set_ne' _ e]; exact hd d
      have hto : ∀ w, markS S E cs listed w → heldBy S E done w := fun w hm => heldBy_iff.2 ⟨hm.1, fun d hdd => hm.2 d ((hd d).1 hdd).1 ((hd d).1 hdd).2⟩
      have hfrom : markS S E cs listed w := ⟨(heldBy_iff.1 hS).1, fun d hdc hdl => (heldBy_iff.1 hS).2 d ((hd d).2 ⟨hdc, hdl⟩)⟩
      exact headM_first (S := markS S E cs) hmono h0 (Region.noSelect_spec hsel) (fun c a w => hQ c a _ v w) hs hc hn hkn
        (fun listed' w' hm => ⟨hm.1, fun d hdc hdl => hm.2 d hdc (by rwa [getD_set_ne' _ (fun e => hkc (by rw [e]; exact hdc))] at hdl)⟩)
        (fun listed' a' w' hL => seqB_ready hL.1) l.length listed a w inv (Region.free_spec h0 hf) hr' (yields_less hy hto) hfrom
        (headM_ord hQ hsel hs hc hn l done _ _ w (inv.set hr' hkn) hd' hB' hS hK)

/-- the head's operations by 'wpHeldM'; the others come in their order -/
theorem wp_region_held_mark {id : Nat} {a : Act} {w : World} {l : List Oper} (S : World → Prop) (E : Nat → World → Prop) (cs ord : List Nat) (hm : P.follows .mixedOrders = true) (hB : heldMarkB .any l.toArray cs ord = true) (hQ : ∀ c a d v w, Q (.panic c) (Act.put a d v) w → Q (.panic c) a w) (hS : S w.drew)
    (h : S w.drew → wpHeldM P l.toArray Q S E cs (fun a' w' => wpList P l.toArray Q (l.drop ord.length) a' w') ord [] a w.drew) : (Code.region id l.toArray true).wp P Q a w := by
  simp only [heldMarkB, Bool.and_eq_true, decide_eq_true_eq] at hB
  obtain ⟨⟨⟨⟨hsel, hn⟩, hs⟩, hc⟩, hlex⟩ := hB
  have hdl : (l.drop ord.length).length = l.toArray.size - ord.length := by simp
  have inv0 : HeadInv .any l.toArray ord.length (Array.replicate l.toArray.size false) :=
    ⟨by simp, fun j oj _ hl => (by rw [getD_replicate_false] at hl; cases hl), fun t _ ht => getD_in (by simpa using ht) (getD_replicate_false _ _)⟩
  have H := headM_ord (md := .any) (S := S) (E := E) (g := l.toArray.size - ord.length) hQ hsel hs hc hn ord [] _ a w.drew inv0 (fun d => by rw [getD_replicate_false]; simp) hlex hS (h hS)
  refine wp_region_any hm ?_
  have := wpAny_of_headM (md := .any) (Q := Q) (g := l.toArray.size - ord.length) (fun listed a' w' hL => by
    have := wpAny_of_seq (md := .any) (Q' := Q) (l.drop ord.length) ord.length listed a' w' (fun j => by simp [List.getElem?_drop]) (by rw [hdl]; exact hL.1) hL.2
    rwa [hdl] at this) _ _ _ _ H
  rw [show ord.length + (l.toArray.size - ord.length) = l.toArray.size by omega] at this
  exact this

theorem heldM_nil {S : World → Prop} {E : Nat → World → Prop} {cs done : List Nat} {L : Act → World → Prop} {a : Act} {w : World} (h : L a w) : wpHeldM P ops Q S E cs L [] done a w := h
theorem heldM_take {S : World → Prop} {E : Nat → World → Prop} {cs done : List Nat} {L : Act → World → Prop} {k : Nat} {o : Oper} {l : List Nat} {a : Act} {w : World} (v : Value) (hk : cs.contains k = false) (ho : ops[k]? = some o) (hg : Region.wanted o (yielded ops a.tmps) = true) (hy : ∀ w, heldBy S E done w → (execOp a.eval o).run P w = .ok (.value v) w)
    (h : wpHeldM P ops Q S E cs L l done (a.put o.dst v) w) : wpHeldM P ops Q S E cs L (k :: l) done a w := by
  unfold wpHeldM
  rw [if_neg (by rw [hk]; exact Bool.false_ne_true)]
  exact ⟨o, v, ho, .inl ⟨hg, hy⟩, h⟩
theorem heldM_step {S : World → Prop} {E : Nat → World → Prop} {cs done : List Nat} {L : Act → World → Prop} {k : Nat} {o : Oper} {l : List Nat} {a : Act} {w : World} (hk : cs.contains k = true) (ho : ops[k]? = some o) (hg : o.guard = none)
    (h : ∀ K : Act → World → Prop, Shut (∀ a' w', heldBy S E (k :: done) w' → (heldBy S E (k :: done) w' → wpHeldM P ops Q S E cs L l (k :: done) a' w') → K a' w') → o.wp P a w K Q) : wpHeldM P ops Q S E cs L (k :: l) done a w := by
  unfold wpHeldM
  rw [if_pos hk]
  unfold wpOp
  simp only [ho]
  rw [if_pos (by simp [Region.wanted, hg])]
  exact .inl (h _ (fun a' w' h1 h2 => ⟨h1, h2 h1⟩))
end

end Go.Proofs.YtinnckbffblecaaGreatDoor
