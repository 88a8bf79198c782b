/- A map literal of three entries, the first of which is a call's, in a region that draws its order: its five operations that write (making the map, the call, three entries) may come in any of their orders; one invariant serves them all. No conditions beside the region's own form. -/
import Derived.Test.YtjehlecgnepgmaaGreatDoorBase
import Derived.OrdersHeld
import Derived.Deep.RegionHeld
namespace Go.Proofs.YtjehlecgnepgmaaGreatDoor
open Go Go.RowKit
set_option linter.unusedVariables false
set_option linter.unusedSimpArgs false

section
variable {P : Program} {ops : Array Oper} {md : Region.Mode} {Q : Exit → Act → World → Prop} {S : World → Prop} {g : Nat}

/-- what may come up: p the map, q the call, r s u the entries -/
def map3Ok (p q r s u : Nat) (b1 b4 b5 b10 b15 : Bool) (i : Nat) : Bool :=
  (i == p && !b1) || (i == q && !b4) || (i == r && b1 && b4 && !b5) || (i == s && b1 && !b10) || (i == u && b1 && !b15)
def map3Ready (md : Region.Mode) (ops : Array Oper) (L : Bool → Bool → Bool → Bool → Bool → Array Bool) (p q r s u : Nat) (b1 b4 b5 b10 b15 : Bool) : Bool :=
  !((!b5 || (b1 && b4)) && (!b10 || b1) && (!b15 || b1)) || (b1 && b4 && b5 && b10 && b15) ||
    (!(Region.ready md ops (L b1 b4 b5 b10 b15)).isEmpty && (Region.ready md ops (L b1 b4 b5 b10 b15)).all (map3Ok p q r s u b1 b4 b5 b10 b15))
def bits : List Bool := [false, true]
def map3All (md : Region.Mode) (ops : Array Oper) (L : Bool → Bool → Bool → Bool → Bool → Array Bool) (p q r s u : Nat) : Bool :=
  bits.all fun b1 => bits.all fun b4 => bits.all fun b5 => bits.all fun b10 => bits.all fun b15 => map3Ready md ops L p q r s u b1 b4 b5 b10 b15
theorem bits_all {f : Bool → Bool} (h : bits.all f = true) (b : Bool) : f b = true := by
  simp only [bits, List.all_cons, List.all_nil, Bool.and_true, Bool.and_eq_true] at h
  cases b
  · exact h.1
  · exact h.2

def bitN (b : Bool) : Nat := if b then 0 else 1

theorem wpAnyH_map3 {L : Bool → Bool → Bool → Bool → Bool → Array Bool} {I : Bool → Bool → Bool → Bool → Bool → Act → World → Prop} {p q r s u : Nat}
    (hr : map3All md ops L p q r s u = true)
    (l1 : ∀ b4 b5 b10 b15, (L false b4 b5 b10 b15).setIfInBounds p true = L true b4 b5 b10 b15)
    (l4 : ∀ b1 b5 b10 b15, (L b1 false b5 b10 b15).setIfInBounds q true = L b1 true b5 b10 b15)
    (l5 : ∀ b1 b4 b10 b15, (L b1 b4 false b10 b15).setIfInBounds r true = L b1 b4 true b10 b15)
    (l10 : ∀ b1 b4 b5 b15, (L b1 b4 b5 false b15).setIfInBounds s true = L b1 b4 b5 true b15)
    (l15 : ∀ b1 b4 b5 b10, (L b1 b4 b5 b10 false).setIfInBounds u true = L b1 b4 b5 b10 true)
    (h1 : ∀ b4 a w, I false b4 false false false a w → wpOp P ops Q p (fun a' w' => S w' ∧ I true b4 false false false a' w') a w)
    (h4 : ∀ b1 b10 b15 a w, I b1 false false b10 b15 a w → wpOp P ops Q q (fun a' w' => S w' ∧ I b1 true false b10 b15 a' w') a w)
    (h5 : ∀ b10 b15 a w, I true true false b10 b15 a w → wpOp P ops Q r (fun a' w' => S w' ∧ I true true true b10 b15 a' w') a w)
    (h10 : ∀ b4 b5 b15 a w, I true b4 b5 false b15 a w → wpOp P ops Q s (fun a' w' => S w' ∧ I true b4 b5 true b15 a' w') a w)
    (h15 : ∀ b4 b5 b10 a w, I true b4 b5 b10 false a w → wpOp P ops Q u (fun a' w' => S w' ∧ I true b4 b5 b10 true a' w') a w)
    (hend : ∀ a w, I true true true true true a w → wpAnyH P md ops Q S g (L true true true true true) a w) :
    ∀ (n : Nat) (b1 b4 b5 b10 b15 : Bool) (a : Act) (w : World), ((!b5 || (b1 && b4)) && (!b10 || b1) && (!b15 || b1)) = true → bitN b1 + bitN b4 + bitN b5 + bitN b10 + bitN b15 = n → I b1 b4 b5 b10 b15 a w →
      wpAnyH P md ops Q S (n + g) (L b1 b4 b5 b10 b15) a w
  | 0, b1, b4, b5, b10, b15, a, w, hok, hn, hI => by
    obtain rfl : b1 = true := by cases b1 <;> simp [bitN] at hn ⊢
    obtain rfl : b4 = true := by cases b4 <;> simp [bitN] at hn ⊢
    obtain rfl : b5 = true := by cases b5 <;> simp [bitN] at hn ⊢
    obtain rfl : b10 = true := by cases b10 <;> simp [bitN] at hn ⊢
    obtain rfl : b15 = true := by cases b15 <;> simp [bitN] at hn ⊢
    rw [Nat.zero_add]
    exact hend a w hI
  | n + 1, b1, b4, b5, b10, b15, a, w, hok, hn, hI => by
    have hb := bits_all (bits_all (bits_all (bits_all (bits_all hr b1) b4) b5) b10) b15
    have hnot : (b1 && b4 && b5 && b10 && b15) = false := by
      cases b1 <;> cases b4 <;> cases b5 <;> cases b10 <;> cases b15 <;> first | rfl | (simp [bitN] at hn)
    unfold map3Ready at hb
    rw [hok, hnot] at hb
    simp only [Bool.not_true, Bool.false_or, Bool.and_eq_true, Bool.not_eq_true', List.all_eq_true] at hb
    obtain ⟨hne, hall⟩ := hb
    rw [show n + 1 + g = (n + g) + 1 by omega]
    refine ⟨fun h => by rw [h] at hne; simp at hne, fun i hi => ?_⟩
    have hi := hall i hi
    unfold map3Ok at hi
    simp only [Bool.or_eq_true, Bool.and_eq_true, beq_iff_eq, Bool.not_eq_true'] at hi
    rcases hi with (((⟨rfl, rfl⟩ | ⟨rfl, rfl⟩) | ⟨⟨⟨rfl, rfl⟩, rfl⟩, rfl⟩) | ⟨⟨rfl, rfl⟩, rfl⟩) | ⟨⟨rfl, rfl⟩, rfl⟩
    · obtain rfl : b5 = false := by revert hok; cases b5 <;> simp
      obtain rfl : b10 = false := by revert hok; cases b10 <;> simp
      obtain rfl : b15 = false := by revert hok; cases b15 <;> simp
      refine wpOp_mono (fun a' w' h => ⟨h.1, ?_⟩) (h1 b4 a w hI)
      rw [l1]
      exact wpAnyH_map3 hr l1 l4 l5 l10 l15 h1 h4 h5 h10 h15 hend n true b4 false false false a' w' rfl (by simp [bitN] at hn ⊢; omega) h.2
    · obtain rfl : b5 = false := by revert hok; cases b5 <;> simp
      refine wpOp_mono (fun a' w' h => ⟨h.1, ?_⟩) (h4 b1 b10 b15 a w hI)
      rw [l4]
      exact wpAnyH_map3 hr l1 l4 l5 l10 l15 h1 h4 h5 h10 h15 hend n b1 true false b10 b15 a' w' (by revert hok; cases b1 <;> cases b10 <;> cases b15 <;> decide) (by simp [bitN] at hn ⊢; omega) h.2
    · refine wpOp_mono (fun a' w' h => ⟨h.1, ?_⟩) (h5 b10 b15 a w hI)
      rw [l5]
      exact wpAnyH_map3 hr l1 l4 l5 l10 l15 h1 h4 h5 h10 h15 hend n true true true b10 b15 a' w' (by cases b10 <;> cases b15 <;> rfl) (by simp [bitN] at hn ⊢; omega) h.2
    · refine wpOp_mono (fun a' w' h => ⟨h.1, ?_⟩) (h10 b4 b5 b15 a w hI)
      rw [l10]
      exact wpAnyH_map3 hr l1 l4 l5 l10 l15 h1 h4 h5 h10 h15 hend n true b4 b5 true b15 a' w' (by revert hok; cases b4 <;> cases b5 <;> cases b15 <;> decide) (by simp [bitN] at hn ⊢; omega) h.2
    · refine wpOp_mono (fun a' w' h => ⟨h.1, ?_⟩) (h15 b4 b5 b10 a w hI)
      rw [l15]
      exact wpAnyH_map3 hr l1 l4 l5 l10 l15 h1 h4 h5 h10 h15 hend n true b4 b5 b10 true a' w' (by revert hok; cases b4 <;> cases b5 <;> cases b10 <;> decide) (by simp [bitN] at hn ⊢; omega) h.2

theorem wpOp_of {i : Nat} {o : Oper} {K : Act → World → Prop} {a : Act} {w : World} (ho : ops[i]? = some o) (hg : o.guard = none) (h : o.wp P a w K Q) : wpOp P ops Q i K a w := by
  unfold wpOp
  rw [ho]
  show if Region.wanted o (yielded ops a.tmps) = true then _ else _
  rw [if_pos (by simp [Region.wanted, hg])]
  exact .inl h
/-- the frame: slots d and e have what the map and the call have given -/
def act2 (a0 : Act) (d e : Nat) (m t : Value) : Act := (a0.put (some d) m).put (some e) t

theorem set_self (xs : Array Value) (i : Nat) : xs.setIfInBounds i (xs.getD i undef) = xs := by
  apply Array.ext_getElem?
  intro j
  rw [Array.getElem?_setIfInBounds]
  by_cases h : i = j
  · subst h
    rw [if_pos rfl]
    by_cases hi : i < xs.size
    · simp [hi]
    · simp [hi]
  · rw [if_neg h]
theorem act2_self (a0 : Act) (d e : Nat) : act2 a0 d e (a0.tmps.getD d undef) (a0.tmps.getD e undef) = a0 := by
  unfold act2 Act.put
  simp only [set_self]

theorem wpAnyH_map3_at {a0 : Act} {w : World} {fuel : Nat} (hfuel : fuel = g + 5) {L : Bool → Bool → Bool → Bool → Bool → Array Bool} (p q r s u d e : Nat) (J : Bool → Bool → Bool → Bool → Bool → Value → Value → World → Prop)
    (hr : map3All md ops L p q r s u = true)
    (l1 : ∀ b4 b5 b10 b15, (L false b4 b5 b10 b15).setIfInBounds p true = L true b4 b5 b10 b15)
    (l4 : ∀ b1 b5 b10 b15, (L b1 false b5 b10 b15).setIfInBounds q true = L b1 true b5 b10 b15)
    (l5 : ∀ b1 b4 b10 b15, (L b1 b4 false b10 b15).setIfInBounds r true = L b1 b4 true b10 b15)
    (l10 : ∀ b1 b4 b5 b15, (L b1 b4 b5 false b15).setIfInBounds s true = L b1 b4 b5 true b15)
    (l15 : ∀ b1 b4 b5 b10, (L b1 b4 b5 b10 false).setIfInBounds u true = L b1 b4 b5 b10 true)
    (h1 : ∀ b4 m t w, J false b4 false false false m t w → ∀ K : Act → World → Prop, Shut (∀ m' w', S w' → J true b4 false false false m' t w' → K (act2 a0 d e m' t) w') → wpOp P ops Q p K (act2 a0 d e m t) w)
    (h4 : ∀ b1 b10 b15 m t w, J b1 false false b10 b15 m t w → ∀ K : Act → World → Prop, Shut (∀ t' w', S w' → J b1 true false b10 b15 m t' w' → K (act2 a0 d e m t') w') → wpOp P ops Q q K (act2 a0 d e m t) w)
    (h5 : ∀ b10 b15 m t w, J true true false b10 b15 m t w → ∀ K : Act → World → Prop, Shut (∀ w', S w' → J true true true b10 b15 m t w' → K (act2 a0 d e m t) w') → wpOp P ops Q r K (act2 a0 d e m t) w)
    (h10 : ∀ b4 b5 b15 m t w, J true b4 b5 false b15 m t w → ∀ K : Act → World → Prop, Shut (∀ w', S w' → J true b4 b5 true b15 m t w' → K (act2 a0 d e m t) w') → wpOp P ops Q s K (act2 a0 d e m t) w)
    (h15 : ∀ b4 b5 b10 m t w, J true b4 b5 b10 false m t w → ∀ K : Act → World → Prop, Shut (∀ w', S w' → J true b4 b5 b10 true m t w' → K (act2 a0 d e m t) w') → wpOp P ops Q u K (act2 a0 d e m t) w)
    (hend : ∀ m t w, J true true true true true m t w → wpAnyH P md ops Q S g (L true true true true true) (act2 a0 d e m t) w)
    (h0 : ∀ m t, J false false false false false m t w) :
    wpAnyH P md ops Q S fuel (L false false false false false) a0 w := by
  rw [hfuel, Nat.add_comm g 5]
  refine wpAnyH_map3 (I := fun b1 b4 b5 b10 b15 a w => ∃ m t, a = act2 a0 d e m t ∧ J b1 b4 b5 b10 b15 m t w) hr l1 l4 l5 l10 l15 ?_ ?_ ?_ ?_ ?_ ?_ 5 false false false false false a0 w rfl rfl ⟨_, _, (act2_self a0 d e).symm, h0 _ _⟩
  · rintro b4 a w ⟨m, t, rfl, hJ⟩
    exact h1 b4 m t w hJ _ (fun m' w' hS hJ' => ⟨hS, m', t, rfl, hJ'⟩)
  · rintro b1 b10 b15 a w ⟨m, t, rfl, hJ⟩
    exact h4 b1 b10 b15 m t w hJ _ (fun t' w' hS hJ' => ⟨hS, m, t', rfl, hJ'⟩)
  · rintro b10 b15 a w ⟨m, t, rfl, hJ⟩
    exact h5 b10 b15 m t w hJ _ (fun w' hS hJ' => ⟨hS, m, t, rfl, hJ'⟩)
  · rintro b4 b5 b15 a w ⟨m, t, rfl, hJ⟩
    exact h10 b4 b5 b15 m t w hJ _ (fun w' hS hJ' => ⟨hS, m, t, rfl, hJ'⟩)
  · rintro b4 b5 b10 a w ⟨m, t, rfl, hJ⟩
    exact h15 b4 b5 b10 m t w hJ _ (fun w' hS hJ' => ⟨hS, m, t, rfl, hJ'⟩)
  · rintro a w ⟨m, t, rfl, hJ⟩
    exact hend m t w hJ
end

end Go.Proofs.YtjehlecgnepgmaaGreatDoor
