/- The plain law of meters, fifth part: what the checks say of limits and asks, and what keeps the numbers small. No program in sight. -/
import Derived.Test.YtinnckbffblecaaGreatMeterLaw4
namespace Go.Proofs.YtinnckbffblecaaGreat
open Go.RowKit
set_option linter.unusedVariables false
set_option linter.unusedSimpArgs false

theorem firstFault_all {f : Nat → Int} {n : Nat} (h : firstFault f n = 0) : ∀ k, k < n → f k = 0 := by
  induction n with
  | zero => intro k hk; omega
  | succ n ih =>
    intro k hk
    unfold firstFault at h
    split at h
    · rename_i h0
      by_cases e : k = n
      · subst e; exact h
      · exact ih h0 k (by omega)
    · rename_i h0; exact absurd h h0
theorem lims_right {ls : List Lim} (h : limsFault ls = 0) : ∀ l ∈ ls, RLim' l := by
  intro l hl
  obtain ⟨k, hk, rfl⟩ := List.getElem_of_mem hl
  unfold limsFault at h
  split at h
  · cases h
  · have h1 := firstFault_all h k hk
    unfold limAt at h1
    rw [List.getElem?_eq_getElem hk] at h1
    simp only at h1
    have h2 : limSelf ls[k] = 0 := by
      split at h1
      · cases h1
      · split at h1
        · cases h1
        · exact h1
    generalize ls[k] = l at h2
    unfold limSelf at h2
    split at h2
    · cases h2
    · rename_i k1
      split at h2
      · cases h2
      · rename_i k2
        split at h2
        · cases h2
        · rename_i k3
          split at h2
          · cases h2
          · rename_i k4
            simp only [Bool.not_eq_true', Bool.not_eq_false, Bool.and_eq_true, decide_eq_true_eq] at k1 k2
            refine ⟨by omega, by omega, fun hn => by omega, fun hn => by omega⟩
/-- an ask that was checked -/
structure RAskD (a : AskD) : Prop where
  at_ : 0 ≤ a.at_ ∧ a.at_ < 345686400000
  cost : 1 ≤ a.cost ∧ a.cost ≤ 1000000000
  long : 0 ≤ a.long ∧ a.long ≤ 345686400000
theorem askFault_right {a : AskD} (h : askFault a = 0) : RAskD a := by
  unfold askFault isMoment at h
  split at h
  · cases h
  · rename_i k1
    split at h
    · cases h
    · split at h
      · cases h
      · rename_i k3
        simp only [Bool.not_eq_true', Bool.not_eq_false, Bool.and_eq_true, Bool.or_eq_true, not_or, decide_eq_true_eq] at k1 k3
        exact ⟨by omega, by omega, by omega⟩
theorem asks_right {ks : List AskD} (h : asksFault ks = 0) : ks.length ≤ 3000 ∧ (∀ a ∈ ks, askFault a = 0 ∧ RAskD a) ∧ ks.Pairwise fun a b => a.at_ ≤ b.at_ := by
  unfold asksFault at h
  split at h
  · cases h
  · rename_i hlen
    have hall := firstFault_all h
    have h1 : ∀ i (hi : i < ks.length), askFault ks[i] = 0 ∧ (0 < i → (ks[i-1]?.map (·.at_)).getD 0 ≤ ks[i].at_) := by
      intro i hi
      have := hall i hi
      unfold askAt at this
      rw [List.getElem?_eq_getElem hi] at this
      simp only at this
      split at this
      · rename_i hne; exact absurd this hne
      · rename_i he
        split at this
        · cases this
        · rename_i hn
          exact ⟨by omega, fun h0 => by omega⟩
    refine ⟨by omega, fun a ha => ?_, ?_⟩
    · obtain ⟨i, hi, rfl⟩ := List.getElem_of_mem ha
      exact ⟨(h1 i hi).1, askFault_right (h1 i hi).1⟩
    · have hstep : ∀ d i (hi : i + d < ks.length), ks[i].at_ ≤ ks[i + d].at_ := by
        intro d
        induction d with
        | zero => intro i hi; exact Int.le_refl _
        | succ d ih =>
          intro i hi
          have h2 := ih i (by omega)
          have h3 := (h1 (i + (d + 1)) hi).2 (by omega)
          have e : i + (d + 1) - 1 = i + d := by omega
          rw [e, List.getElem?_eq_getElem (show i + d < ks.length by omega)] at h3
          simp only [Option.map_some, Option.getD_some] at h3
          omega
      rw [List.pairwise_iff_getElem]
      intro i j hi hj hij
      have := hstep (j - i) i (by omega)
      simp only [show i + (j - i) = j by omega] at this
      exact this

/-- pouring out of a bucket never comes below nothing, moments rise -/
def PourOk (l : Lim) : List AskD → Int × Int → Prop
  | [], _ => True
  | a :: p, s => s.2 ≤ a.at_ ∧ 0 ≤ fillR l s.1 s.2 a.at_ - a.cost * l.per ∧ PourOk l p (fillR l s.1 s.2 a.at_ - a.cost * l.per, a.at_)
theorem pourOk_append (l : Lim) (p q : List AskD) (s : Int × Int) : PourOk l (p ++ q) s ↔ PourOk l p s ∧ PourOk l q (poured l p s) := by
  induction p generalizing s with
  | nil => simp [PourOk, poured]
  | cons a p ih => simp only [List.cons_append, PourOk, poured, ih, and_assoc]
theorem pourOk_take {l : Lim} {p : List AskD} {s : Int × Int} (h : PourOk l p s) {k : Nat} (hk : k < p.length) :
    (poured l (p.take k) s).2 ≤ p[k].at_ ∧ 0 ≤ fillR l (poured l (p.take k) s).1 (poured l (p.take k) s).2 p[k].at_ - p[k].cost * l.per ∧ poured l (p.take (k + 1)) s = (fillR l (poured l (p.take k) s).1 (poured l (p.take k) s).2 p[k].at_ - p[k].cost * l.per, p[k].at_) := by
  have e : p = p.take k ++ p[k] :: p.drop (k + 1) := by
    rw [List.getElem_cons_drop, List.take_append_drop]
  rw [e, pourOk_append] at h
  obtain ⟨_, h2⟩ := h
  simp only [PourOk] at h2
  refine ⟨h2.1, h2.2.1, ?_⟩
  rw [List.take_succ_eq_append_getElem hk, poured_append]
  rfl
theorem fill_bd {l : Lim} (hb : BLim l) {n last to_ : Int} (h0 : 0 ≤ n) (h1 : n ≤ fullR l) (ht : last ≤ to_) : 0 ≤ fillR l n last to_ ∧ fillR l n last to_ ≤ fullR l := by
  rw [fill_eq hb h0 h1 ht]
  have := bucketNow_bd l hb last n to_ h0 h1 ht
  exact this
theorem poured_bd {l : Lim} (hb : BLim l) {p : List AskD} {s : Int × Int} (h : PourOk l p s) (hc : ∀ a ∈ p, 1 ≤ a.cost) (h0 : 0 ≤ s.1) (h1 : s.1 ≤ fullR l) : 0 ≤ (poured l p s).1 ∧ (poured l p s).1 ≤ fullR l := by
  induction p generalizing s with
  | nil => exact ⟨h0, h1⟩
  | cons a p ih =>
    have hbd := fill_bd hb h0 h1 h.1
    have hnn := Int.mul_nonneg (show 0 ≤ a.cost by have := hc a (by simp); omega) (show 0 ≤ l.per by have := hb.per; omega)
    exact ih h.2.2 (fun b hb' => hc b (by simp [hb'])) h.2.1 (by simp only; omega)
/-- what was let in, as the reference's numbers need it -/
structure PastB (ls : List Lim) (p : List AskD) : Prop where
  each : ∀ a ∈ p, RAskD a
  pour : ∀ l ∈ ls, l.kind = 3 → PourOk l p (fullR l, 0)
theorem PastB.nil (ls : List Lim) : PastB ls [] := ⟨fun a h => by simp at h, fun l _ _ => trivial⟩
theorem relL_get {ls : List Lim} {p : List AskD} {τ : Int} {cs : List Ctr} (h : RelL ls p τ cs) (i : Nat) (h1 : i < ls.length) (h2 : i < cs.length) : Rel ls[i] p τ cs[i] := by
  induction ls generalizing cs i with
  | nil => simp at h1
  | cons l ls ih => cases cs with
    | nil => simp at h2
    | cons c cs =>
      cases i with
      | zero => exact h.1
      | succ i => exact ih h.2 i (by simpa using h1) (by simpa using h2)
theorem PastB.add {ls : List Lim} (hl : ∀ l ∈ ls, RLim' l) {p : List AskD} {τ : Int} {cs : List Ctr} (hb : PastB ls p) (hp : PastOk p τ) (h : RelL ls p τ cs) {a : AskD} (ha : RAskD a) (ht : τ ≤ a.at_)
    (hm : ∀ i (h1 : i < ls.length) (h2 : i < cs.length), a.cost ≤ mostC ls[i] cs[i] a.at_) : PastB ls (p ++ [a]) := by
  refine ⟨fun b hb' => ?_, fun l hl' h3 => ?_⟩
  · rcases List.mem_append.1 hb' with h | h
    · exact hb.each b h
    · simp at h; subst h; exact ha
  · rw [pourOk_append]
    refine ⟨hb.pour l hl' h3, ?_⟩
    obtain ⟨i, hi, rfl⟩ := List.getElem_of_mem hl'
    have hi2 : i < cs.length := by rw [h.length]; exact hi
    have hr := relL_get h i hi hi2
    have hmi := hm i hi hi2
    obtain ⟨at0, lv, hc, hf, h5, h6, h7, h8⟩ := rel_filled (hl _ hl') hr ht h3
    rw [hc] at hr hmi
    obtain ⟨_, h4, _⟩ := hr
    have hbl := (hl _ hl').b h3
    simp only [PourOk, h4, and_true]
    refine ⟨h8, ?_⟩
    rw [fill_eq hbl h5 h6 h8]
    simp only [mostC] at hmi
    have hle : a.cost * ls[i].per ≤ bucketNow ls[i] at0 lv a.at_ := (Int.le_ediv_iff_mul_le (by have := hbl.per; omega)).1 hmi
    omega

/-- numbers of a counter that no product and no sum passes an int -/
def CtrOk (l : Lim) (τ : Int) (k : Nat) : Ctr → Prop
  | .win a n => l.kind = 1 ∧ 0 ≤ n ∧ n ≤ 1000000000
  | .sl ps => l.kind = 2 ∧ (∀ x ∈ ps, (-1000000000000 ≤ x.until_ ∧ x.until_ ≤ 1000000000000) ∧ 0 ≤ x.cost ∧ x.cost ≤ 1000000000) ∧ ps.length ≤ k ∧ Rising ps
  | .bk a lv => l.kind = 3 ∧ 0 ≤ lv ∧ lv ≤ fullR l ∧ 0 ≤ a ∧ a ≤ τ
  | .on ps => l.kind = 4 ∧ (∀ x ∈ ps, (-1000000000000 ≤ x.until_ ∧ x.until_ ≤ 1000000000000) ∧ 0 ≤ x.cost ∧ x.cost ≤ 1000000000) ∧ ps.length ≤ k ∧ Rising ps
theorem ctrOk_new {l : Lim} (hl : RLim' l) : CtrOk l 0 0 (newC l) := by
  have hk := hl.kind
  unfold newC
  split
  · rename_i h; exact ⟨h, by omega, by omega⟩
  · split
    · rename_i h; exact ⟨h, by simp, by simp, List.Pairwise.nil⟩
    · split
      · rename_i h
        have := (hl.b h).full
        exact ⟨h, by unfold fullR; omega, by omega, by omega, by omega⟩
      · exact ⟨by omega, by simp, by simp, List.Pairwise.nil⟩
theorem ctrOk_later {l : Lim} {τ τ' : Int} {k k' : Nat} {c : Ctr} (h : CtrOk l τ k c) (ht : τ ≤ τ') (hk : k ≤ k') : CtrOk l τ' k' c := by
  cases c with
  | win a n => exact h
  | sl ps => exact ⟨h.1, h.2.1, by have := h.2.2.1; omega, h.2.2.2⟩
  | bk a lv => obtain ⟨h1, h2, h3, h4, h5⟩ := h; exact ⟨h1, h2, h3, h4, by omega⟩
  | on ps => exact ⟨h.1, h.2.1, by have := h.2.2.1; omega, h.2.2.2⟩
theorem withP_length (l : List Pc) (x : Pc) : (withP l x).length = l.length + 1 := by
  have := (withP_perm l x).length_eq; simpa using this
theorem passP_length (l : List Pc) (t : Int) : (passP l t).length ≤ l.length := List.length_filter_le _ _
theorem ctrOk_add {l : Lim} (hl : RLim' l) {τ : Int} {k : Nat} {c : Ctr} (h : CtrOk l τ k c) {a : AskD} (ha : RAskD a) (ht : τ ≤ a.at_) (hm : a.cost ≤ mostC l c a.at_) : CtrOk l a.at_ (k + 1) (addC l c a) := by
  obtain ⟨⟨a1, a2⟩, ⟨a3, a4⟩, ⟨a5, a6⟩⟩ := ha
  have hmost := hl.most
  have hpass : ∀ ps : List Pc, (∀ x ∈ ps, (-1000000000000 ≤ x.until_ ∧ x.until_ ≤ 1000000000000) ∧ 0 ≤ x.cost ∧ x.cost ≤ 1000000000) → ∀ x ∈ passP ps a.at_, (-1000000000000 ≤ x.until_ ∧ x.until_ ≤ 1000000000000) ∧ 0 ≤ x.cost ∧ x.cost ≤ 1000000000 := fun ps h x hx => h x (List.mem_filter.1 hx).1
  have hwith : ∀ (ps : List Pc) (y : Pc), (∀ x ∈ ps, (-1000000000000 ≤ x.until_ ∧ x.until_ ≤ 1000000000000) ∧ 0 ≤ x.cost ∧ x.cost ≤ 1000000000) → ((-1000000000000 ≤ y.until_ ∧ y.until_ ≤ 1000000000000) ∧ 0 ≤ y.cost ∧ y.cost ≤ 1000000000) →
      ∀ x ∈ withP ps y, (-1000000000000 ≤ x.until_ ∧ x.until_ ≤ 1000000000000) ∧ 0 ≤ x.cost ∧ x.cost ≤ 1000000000 := fun ps y h hy x hx => by
    rcases List.mem_cons.1 ((withP_perm ps y).mem_iff.1 hx) with rfl | hx'
    · exact hy
    · exact h x hx'
  cases c with
  | win at0 n =>
    obtain ⟨h1, h2, h3⟩ := h
    simp only [mostC] at hm
    refine ⟨h1, ?_, by omega⟩
    unfold winUsed; split <;> omega
  | sl ps =>
    obtain ⟨h1, h2, h3, h4⟩ := h
    have hp := hl.per (by omega)
    refine ⟨h1, hwith _ _ (hpass ps h2) ⟨⟨by simp only; omega, by simp only; omega⟩, by simp only; omega, by simp only; omega⟩, ?_, withP_rising (passP_rising h4 _) _⟩
    rw [withP_length]; have := passP_length ps a.at_; omega
  | bk at0 lv =>
    obtain ⟨h1, h2, h3, h4, h5⟩ := h
    have hb := hl.b h1
    have hbd := bucketNow_bd l hb at0 lv a.at_ h2 h3 (by omega)
    simp only [mostC] at hm
    have hle : a.cost * l.per ≤ bucketNow l at0 lv a.at_ := (Int.le_ediv_iff_mul_le (by have := hb.per; omega)).1 hm
    have hnn := Int.mul_nonneg (show 0 ≤ a.cost by omega) (show 0 ≤ l.per by have := hb.per; omega)
    exact ⟨h1, by omega, by unfold fullR; omega, a1, Int.le_refl _⟩
  | on ps =>
    obtain ⟨h1, h2, h3, h4⟩ := h
    simp only [addC]
    split
    · refine ⟨h1, hwith _ _ (hpass ps h2) ⟨⟨by simp only; omega, by simp only; omega⟩, by simp only; omega, by simp only; omega⟩, ?_, withP_rising (passP_rising h4 _) _⟩
      rw [withP_length]; have := passP_length ps a.at_; omega
    · exact ⟨h1, hpass ps h2, by have := passP_length ps a.at_; omega, passP_rising h4 _⟩

end Go.Proofs.YtinnckbffblecaaGreat
