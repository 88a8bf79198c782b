/- The plain law of meters, fourth part: verdicts over all limits, many subjects, whole replays. No program in sight. Conditions: right limits, asks that were checked. -/
import Derived.Test.YtinnckbffblecaaGreatMeterLaw3
import Derived.Test.YtinnckbffblecaaGreatMaps2
namespace Go.Proofs.YtinnckbffblecaaGreat
open Go.RowKit
set_option linter.unusedVariables false
set_option linter.unusedSimpArgs false

structure Vd where
  ok : Bool
  by_ : ByteArray
  wait : Int
def vd0 : Vd := ⟨true, ⟨#[]⟩, 0⟩

/-- the program: one limit's turn -/
def stepC (l : Lim) (c : Ctr) (a : AskD) (v : Vd) : Vd :=
  if a.cost ≤ mostC l c a.at_ then v else
    if v.ok = true ∨ (v.wait ≠ -1 ∧ ((if a.cost ≤ greatest l then waitC l c a.at_ a.cost else -1) = -1 ∨ v.wait < (if a.cost ≤ greatest l then waitC l c a.at_ a.cost else -1))) then ⟨false, l.key, if a.cost ≤ greatest l then waitC l c a.at_ a.cost else -1⟩ else v
def verdC : List Lim → List Ctr → AskD → Vd → Vd
  | l :: ls, c :: cs, a, v => verdC ls cs a (stepC l c a v)
  | _, _, _, v => v
theorem verdC_drop {ls : List Lim} {cs : List Ctr} {k : Nat} (h1 : k < ls.length) (h2 : k < cs.length) (a : AskD) (v : Vd) : verdC (ls.drop k) (cs.drop k) a v = verdC (ls.drop (k + 1)) (cs.drop (k + 1)) a (stepC ls[k] cs[k] a v) := by
  rw [List.drop_eq_getElem_cons h1, List.drop_eq_getElem_cons h2, verdC]
/-- the reference: one limit's turn, when it waits for n -/
def stepN (l : Lim) (n : Int) (v : Vd) : Vd := if n = 0 then v else if v.ok = true ∨ (0 ≤ v.wait ∧ (n < 0 ∨ v.wait < n)) then ⟨false, l.key, n⟩ else v
def sortM (l : List Int) : List Int := l.mergeSort fun x y => decide (x ≤ y)
theorem sortM_sorted (l : List Int) : (sortM l).Pairwise (· ≤ ·) := by
  have := List.pairwise_mergeSort (le := fun x y : Int => decide (x ≤ y)) (by intro a b c; simp; omega) (by intro a b; simp; omega) l
  exact this.imp (by intro a b; simp)
theorem sortM_perm (l : List Int) : (sortM l).Perm l := List.mergeSort_perm l _
def waitD (l : Lim) (p : List AskD) (t cost : Int) : Int := waitR l p t cost (sortM (moments l p t))
def verdR : List Lim → List AskD → AskD → Vd → Vd
  | [], _, _, v => v
  | l :: ls, p, a, v => verdR ls p a (stepN l (waitD l p a.at_ a.cost) v)
theorem verdR_drop {ls : List Lim} {k : Nat} (h1 : k < ls.length) (p : List AskD) (a : AskD) (v : Vd) : verdR (ls.drop k) p a v = verdR (ls.drop (k + 1)) p a (stepN ls[k] (waitD ls[k] p a.at_ a.cost) v) := by
  rw [List.drop_eq_getElem_cons h1, verdR]

/-- a verdict's wait: none where it is let in, for ever, or a moment later -/
def Vd.Ok (v : Vd) : Prop := v.ok = true ∧ v.wait = 0 ∨ v.ok = false ∧ (v.wait = -1 ∨ 0 < v.wait)

section
variable {l : Lim} {p : List AskD} {τ t cost : Int} {c : Ctr}
theorem step_eq (hl : RLim' l) (hp : PastOk p τ) (h : Rel l p τ c) {a : AskD} (ht : τ ≤ a.at_) (hc : 1 ≤ a.cost) {v : Vd} (hv : v.Ok) : stepN l (waitD l p a.at_ a.cost) v = stepC l c a v ∧ (stepC l c a v).Ok := by
  obtain ⟨h1, h2⟩ := rel_wait hl hp h ht hc (sortM_sorted (moments l p a.at_)) (sortM_perm _)
  have hml := most_le hl hp h ht
  unfold stepN stepC waitD
  rw [h1]
  clear h1
  generalize waitC l c a.at_ a.cost = W at *
  generalize mostC l c a.at_ = M at *
  generalize greatest l = G at *
  obtain ⟨ok, by_, wt⟩ := v
  unfold Vd.Ok at *
  simp only at *
  by_cases hg : G < a.cost
  · have hm' : ¬ a.cost ≤ M := by omega
    have hg' : ¬ a.cost ≤ G := by omega
    simp only [if_pos hg, if_neg hm', if_neg hg']
    rw [if_neg (show ¬ (-1 : Int) = 0 by omega)]
    by_cases hcond : ok = true ∨ (0 ≤ wt ∧ ((-1 : Int) < 0 ∨ wt < -1))
    · have hc2 : ok = true ∨ (wt ≠ -1 ∧ (True ∨ wt < -1)) := by
        rcases hcond with h | h
        · exact .inl h
        · exact .inr ⟨by omega, .inl trivial⟩
      rw [if_pos hcond, if_pos hc2]
      exact ⟨rfl, .inr ⟨rfl, .inl rfl⟩⟩
    · have hc2 : ¬ (ok = true ∨ (wt ≠ -1 ∧ (True ∨ wt < -1))) := by
        rintro (h | ⟨h, _⟩)
        · exact hcond (.inl h)
        · rcases hv with ⟨hv, _⟩ | ⟨_, hv⟩
          · exact hcond (.inl hv)
          · exact hcond (.inr ⟨by omega, .inl (by omega)⟩)
      rw [if_neg hcond, if_neg hc2]
      exact ⟨rfl, hv⟩
  · have hg' : a.cost ≤ G := by omega
    simp only [if_neg hg, if_pos hg']
    by_cases hm : a.cost ≤ M
    · simp only [if_pos hm]
      exact ⟨rfl, hv⟩
    · have hW := h2 hg' hm
      simp only [if_neg hm]
      rw [if_neg (show ¬ W = 0 by omega)]
      by_cases hcond : ok = true ∨ (0 ≤ wt ∧ (W < 0 ∨ wt < W))
      · have hc2 : ok = true ∨ (wt ≠ -1 ∧ (W = -1 ∨ wt < W)) := by
          rcases hcond with h | h
          · exact .inl h
          · exact .inr ⟨by omega, by omega⟩
        rw [if_pos hcond, if_pos hc2]
        exact ⟨rfl, .inr ⟨rfl, .inr hW⟩⟩
      · have hc2 : ¬ (ok = true ∨ (wt ≠ -1 ∧ (W = -1 ∨ wt < W))) := by
          rintro (h | ⟨h, h'⟩)
          · exact hcond (.inl h)
          · rcases hv with ⟨hv, _⟩ | ⟨_, hv⟩
            · exact hcond (.inl hv)
            · exact hcond (.inr ⟨by omega, by omega⟩)
        rw [if_neg hcond, if_neg hc2]
        exact ⟨rfl, hv⟩
end

/-- the counters of one subject know what was let in of it -/
def RelL : List Lim → List AskD → Int → List Ctr → Prop
  | [], _, _, [] => True
  | l :: ls, p, τ, c :: cs => Rel l p τ c ∧ RelL ls p τ cs
  | _, _, _, _ => False
theorem RelL.length {ls : List Lim} {p : List AskD} {τ : Int} {cs : List Ctr} (h : RelL ls p τ cs) : cs.length = ls.length := by
  induction ls generalizing cs with
  | nil => cases cs with
    | nil => rfl
    | cons c cs => exact h.elim
  | cons l ls ih => cases cs with
    | nil => exact h.elim
    | cons c cs => simpa using ih h.2
theorem verd_eq {ls : List Lim} (hl : ∀ l ∈ ls, RLim' l) {p : List AskD} {τ : Int} {cs : List Ctr} (hp : PastOk p τ) (h : RelL ls p τ cs) {a : AskD} (ht : τ ≤ a.at_) (hc : 1 ≤ a.cost) {v : Vd} (hv : v.Ok) : verdR ls p a v = verdC ls cs a v := by
  induction ls generalizing cs v with
  | nil => cases cs with
    | nil => rfl
    | cons c cs => exact h.elim
  | cons l ls ih => cases cs with
    | nil => exact h.elim
    | cons c cs =>
      obtain ⟨h1, h2⟩ := step_eq (hl l (by simp)) hp h.1 ht hc hv
      simp only [verdR, verdC]
      rw [h1]
      exact ih (fun x hx => hl x (by simp [hx])) h.2 h2
/-- let in: every limit lets in -/
theorem stepC_ok {l : Lim} {c : Ctr} {a : AskD} {v : Vd} (h : (stepC l c a v).ok = true) : v.ok = true ∧ a.cost ≤ mostC l c a.at_ := by
  unfold stepC at h
  by_cases hm : a.cost ≤ mostC l c a.at_
  · rw [if_pos hm] at h; exact ⟨h, hm⟩
  · rw [if_neg hm] at h
    exfalso
    by_cases hn : v.ok = true ∨ (v.wait ≠ -1 ∧ ((if a.cost ≤ greatest l then waitC l c a.at_ a.cost else -1) = -1 ∨ v.wait < (if a.cost ≤ greatest l then waitC l c a.at_ a.cost else -1)))
    · rw [if_pos hn] at h; cases h
    · rw [if_neg hn] at h
      exact hn (.inl h)
theorem verdC_ok {ls : List Lim} {cs : List Ctr} {a : AskD} {v : Vd} (h : (verdC ls cs a v).ok = true) : v.ok = true ∧ ∀ i (h1 : i < ls.length) (h2 : i < cs.length), a.cost ≤ mostC ls[i] cs[i] a.at_ := by
  induction ls generalizing cs v with
  | nil => exact ⟨h, fun i h1 => absurd h1 (by simp)⟩
  | cons l ls ih => cases cs with
    | nil => exact ⟨h, fun i _ h2 => absurd h2 (by simp)⟩
    | cons c cs =>
      obtain ⟨h1, h2⟩ := ih h
      obtain ⟨h3, h4⟩ := stepC_ok h1
      refine ⟨h3, fun i i1 i2 => ?_⟩
      cases i with
      | zero => exact h4
      | succ i => exact h2 i (by simpa using i1) (by simpa using i2)
def addL (ls : List Lim) (cs : List Ctr) (a : AskD) : List Ctr := List.zipWith (fun l c => addC l c a) ls cs
theorem relL_add {ls : List Lim} (hl : ∀ l ∈ ls, RLim' l) {p : List AskD} {τ : Int} {cs : List Ctr} (hp : PastOk p τ) (h : RelL ls p τ cs) {a : AskD} (ht : τ ≤ a.at_) (hc : 1 ≤ a.cost) (hlg : 0 ≤ a.long)
    (hm : ∀ i (h1 : i < ls.length) (h2 : i < cs.length), a.cost ≤ mostC ls[i] cs[i] a.at_) : RelL ls (p ++ [a]) a.at_ (addL ls cs a) := by
  induction ls generalizing cs with
  | nil => cases cs with
    | nil => trivial
    | cons c cs => exact h.elim
  | cons l ls ih => cases cs with
    | nil => exact h.elim
    | cons c cs =>
      refine ⟨rel_add (hl l (by simp)) hp h.1 ht hc hlg (hm 0 (by simp) (by simp)), ih (fun x hx => hl x (by simp [hx])) h.2 (fun i h1 h2 => ?_)⟩
      exact hm (i + 1) (by simpa using h1) (by simpa using h2)
theorem relL_new {ls : List Lim} (hl : ∀ l ∈ ls, RLim' l) : RelL ls [] 0 (ls.map newC) := by
  induction ls with
  | nil => trivial
  | cons l ls ih => exact ⟨rel_new (hl l (by simp)), ih (fun x hx => hl x (by simp [hx]))⟩
theorem relL_later {ls : List Lim} (hl : ∀ l ∈ ls, RLim' l) {p : List AskD} {τ τ' : Int} {cs : List Ctr} (h : RelL ls p τ cs) (hτ : τ ≤ τ') : RelL ls p τ' cs := by
  induction ls generalizing cs with
  | nil => cases cs with
    | nil => trivial
    | cons c cs => exact h.elim
  | cons l ls ih => cases cs with
    | nil => exact h.elim
    | cons c cs => exact ⟨rel_later (hl l (by simp)) h.1 hτ, ih (fun x hx => hl x (by simp [hx])) h.2⟩
theorem past_later {p : List AskD} {τ τ' : Int} (h : PastOk p τ) (hτ : τ ≤ τ') : PastOk p τ' := ⟨by have := h.t0; omega, fun a ha => by have := h.each a ha; omega⟩

section
variable {β : Type}
def gget (m : List (ByteArray × β)) (k : ByteArray) : Option β := (m.find? fun p => decide (p.1 = k)).map (·.2)
def gput (m : List (ByteArray × β)) (k : ByteArray) (v : β) : List (ByteArray × β) := if (gget m k).isSome then m.map (fun p => if p.1 = k then (p.1, v) else p) else m ++ [(k, v)]
def gkeys (m : List (ByteArray × β)) : List ByteArray := m.map (·.1)
theorem gget_nil (k : ByteArray) : gget ([] : List (ByteArray × β)) k = none := rfl
theorem gget_cons (p : ByteArray × β) (m : List (ByteArray × β)) (k : ByteArray) : gget (p :: m) k = if p.1 = k then some p.2 else gget m k := by
  unfold gget
  rw [List.find?_cons]
  by_cases h : p.1 = k <;> simp [h]
theorem gget_append (m : List (ByteArray × β)) (p : ByteArray × β) (k : ByteArray) : gget (m ++ [p]) k = (gget m k).or (if p.1 = k then some p.2 else none) := by
  induction m with
  | nil => rw [List.nil_append, gget_cons]; simp [gget_nil]
  | cons q m ih =>
    rw [List.cons_append, gget_cons, gget_cons, ih]
    by_cases h : q.1 = k <;> simp [h]
theorem gget_map (m : List (ByteArray × β)) (k : ByteArray) (v : β) (k' : ByteArray) : gget (m.map (fun p => if p.1 = k then (p.1, v) else p)) k' = if k' = k then (gget m k').map (fun _ => v) else gget m k' := by
  induction m with
  | nil => simp [gget_nil]
  | cons q m ih =>
    rw [List.map_cons, gget_cons, gget_cons, ih]
    by_cases h : q.1 = k
    · by_cases h2 : k' = k
      · subst h2; simp [h]
      · have h3 : ¬ k = k' := fun e => h2 e.symm
        simp [h, h2, h3]
    · by_cases h2 : k' = k
      · subst h2; simp [h]
      · simp [h, h2]
theorem gget_gput (m : List (ByteArray × β)) (k : ByteArray) (v : β) (k' : ByteArray) : gget (gput m k v) k' = if k' = k then some v else gget m k' := by
  unfold gput
  by_cases hs : (gget m k).isSome = true
  · rw [if_pos hs, gget_map]
    by_cases h : k' = k
    · subst h
      obtain ⟨u, hu⟩ := Option.isSome_iff_exists.1 hs
      simp [hu]
    · simp [h]
  · rw [if_neg hs, gget_append]
    have hn : gget m k = none := by simpa using hs
    by_cases h : k' = k
    · subst h; simp [hn]
    · have h3 : ¬ k = k' := fun e => h e.symm
      simp [h, h3]
theorem gget_isSome (m : List (ByteArray × β)) (k : ByteArray) : (gget m k).isSome = true ↔ k ∈ gkeys m := by
  induction m with
  | nil => simp [gget_nil, gkeys]
  | cons p m ih =>
    rw [gget_cons]
    by_cases h : p.1 = k
    · subst h; simp [gkeys]
    · have h3 : ¬ k = p.1 := fun e => h e.symm
      rw [if_neg h, ih]
      simp [gkeys, h3]
theorem gkeys_gput (m : List (ByteArray × β)) (k : ByteArray) (v : β) : gkeys (gput m k v) = if (gget m k).isSome then gkeys m else gkeys m ++ [k] := by
  unfold gput
  by_cases h : (gget m k).isSome = true
  · rw [if_pos h, if_pos h]
    unfold gkeys
    rw [List.map_map]
    refine List.map_congr_left fun p _ => ?_
    simp only [Function.comp_apply]
    split <;> rfl
  · rw [if_neg h, if_neg h]
    simp [gkeys]
theorem gkeys_isSome {γ : Type} {m : List (ByteArray × β)} {m' : List (ByteArray × γ)} (h : gkeys m = gkeys m') (k : ByteArray) : (gget m k).isSome = (gget m' k).isSome := by
  rw [Bool.eq_iff_iff, gget_isSome, gget_isSome, h]
/-- the same ks a map of values -/
theorem aget_val (f : β → Value) (m : List (ByteArray × β)) (k : ByteArray) : aget (m.map fun p => (p.1, f p.2)) k = (gget m k).map f := by
  induction m with
  | nil => rfl
  | cons p m ih =>
    rw [List.map_cons, aget_cons, gget_cons, ih]
    by_cases h : p.1 = k <;> simp [h]
theorem aput_val (f : β → Value) (m : List (ByteArray × β)) (k : ByteArray) (v : β) : aput (m.map fun p => (p.1, f p.2)) k (f v) = (gput m k v).map fun p => (p.1, f p.2) := by
  unfold aput gput
  rw [aget_val]
  by_cases h : (gget m k).isSome = true
  · rw [if_pos (by simpa using h), if_pos h, List.map_map, List.map_map]
    refine List.map_congr_left fun p _ => ?_
    simp only [Function.comp_apply]
    split <;> rfl
  · rw [if_neg (by simpa using h), if_neg h]
    simp
end

/-- the program's meter: counters under the names of the subjects that were let in -/
def curC (ls : List Lim) (σ : List (ByteArray × List Ctr)) (who : ByteArray) : List Ctr := (gget σ who).getD (ls.map newC)
def curR (π : List (ByteArray × List AskD)) (who : ByteArray) : List AskD := (gget π who).getD []
def putC (ls : List Lim) (σ : List (ByteArray × List Ctr)) (a : AskD) : List (ByteArray × List Ctr) :=
  if (verdC ls (curC ls σ a.who) a vd0).ok = true then gput σ a.who (addL ls (curC ls σ a.who) a) else σ
def putR (ls : List Lim) (π : List (ByteArray × List AskD)) (a : AskD) : List (ByteArray × List AskD) :=
  if (verdR ls (curR π a.who) a vd0).ok = true then gput π a.who (curR π a.who ++ [a]) else π

/-- both meters know the same -/
structure Both (ls : List Lim) (σ : List (ByteArray × List Ctr)) (π : List (ByteArray × List AskD)) (τ : Int) : Prop where
  t0 : 0 ≤ τ
  keys : gkeys σ = gkeys π
  past : ∀ who p, gget π who = some p → PastOk p τ
  rel : ∀ who, RelL ls (curR π who) τ (curC ls σ who)
theorem Both.start {ls : List Lim} (hl : ∀ l ∈ ls, RLim' l) : Both ls [] [] 0 := ⟨by omega, rfl, fun who p h => by simp [gget_nil] at h, fun who => relL_new hl⟩
theorem Both.pastCur {ls : List Lim} {σ : List (ByteArray × List Ctr)} {π : List (ByteArray × List AskD)} {τ : Int} (h : Both ls σ π τ) (who : ByteArray) : PastOk (curR π who) τ := by
  unfold curR
  cases e : gget π who with
  | none => exact ⟨h.t0, fun a ha => by simp at ha⟩
  | some p => exact h.past who p e
theorem Both.later {ls : List Lim} (hl : ∀ l ∈ ls, RLim' l) {σ : List (ByteArray × List Ctr)} {π : List (ByteArray × List AskD)} {τ τ' : Int} (h : Both ls σ π τ) (ht : τ ≤ τ') : Both ls σ π τ' :=
  ⟨by have := h.t0; omega, h.keys, fun who p e => past_later (h.past who p e) ht, fun who => relL_later hl (h.rel who) ht⟩
theorem Both.verd {ls : List Lim} (hl : ∀ l ∈ ls, RLim' l) {σ : List (ByteArray × List Ctr)} {π : List (ByteArray × List AskD)} {τ : Int} (h : Both ls σ π τ) {a : AskD} (ht : τ ≤ a.at_) (hc : 1 ≤ a.cost) :
    verdR ls (curR π a.who) a vd0 = verdC ls (curC ls σ a.who) a vd0 := verd_eq hl (h.pastCur a.who) (h.rel a.who) ht hc (.inl ⟨rfl, rfl⟩)
theorem Both.put {ls : List Lim} (hl : ∀ l ∈ ls, RLim' l) {σ : List (ByteArray × List Ctr)} {π : List (ByteArray × List AskD)} {τ : Int} (h : Both ls σ π τ) {a : AskD} (ht : τ ≤ a.at_) (hc : 1 ≤ a.cost) (hlg : 0 ≤ a.long) : Both ls (putC ls σ a) (putR ls π a) a.at_ := by
  unfold putC putR
  rw [h.verd hl ht hc]
  by_cases hok : (verdC ls (curC ls σ a.who) a vd0).ok = true
  · rw [if_pos hok, if_pos hok]
    refine ⟨by have := h.t0; omega, ?_, fun who p e => ?_, fun who => ?_⟩
    · rw [gkeys_gput, gkeys_gput, gkeys_isSome h.keys, h.keys]
    · rw [gget_gput] at e
      split at e
      · injection e with e
        subst e
        exact past_add (h.pastCur a.who) ht hc hlg
      · exact past_later (h.past who p e) ht
    · unfold curC curR
      rw [gget_gput, gget_gput]
      by_cases e : who = a.who
      · rw [if_pos e, if_pos e]
        exact relL_add hl (h.pastCur a.who) (h.rel a.who) ht hc hlg (verdC_ok hok).2
      · rw [if_neg e, if_neg e]
        exact relL_later hl (h.rel who) ht
  · rw [if_neg hok, if_neg hok]
    exact h.later hl ht

/-- a whole replay -/
def runC (ls : List Lim) : List AskD → List (ByteArray × List Ctr) → List Vd
  | [], _ => []
  | a :: ks, σ => verdC ls (curC ls σ a.who) a vd0 :: runC ls ks (putC ls σ a)
def runR (ls : List Lim) : List AskD → List (ByteArray × List AskD) → List Vd
  | [], _ => []
  | a :: ks, π => verdR ls (curR π a.who) a vd0 :: runR ls ks (putR ls π a)
theorem run_eq {ls : List Lim} (hl : ∀ l ∈ ls, RLim' l) {ks : List AskD} {σ : List (ByteArray × List Ctr)} {π : List (ByteArray × List AskD)} {τ : Int} (h : Both ls σ π τ)
    (hs : ks.Pairwise fun a b => a.at_ ≤ b.at_) (ha : ∀ a ∈ ks, τ ≤ a.at_ ∧ 1 ≤ a.cost ∧ 0 ≤ a.long) : runR ls ks π = runC ls ks σ := by
  induction ks generalizing σ π τ with
  | nil => rfl
  | cons a ks ih =>
    have hs' := List.pairwise_cons.1 hs
    obtain ⟨h1, h2, h3⟩ := ha a (by simp)
    simp only [runR, runC]
    rw [h.verd hl h1 h2]
    rw [ih (h.put hl h1 h2 h3) hs'.2 (fun b hb => ⟨hs'.1 b hb, (ha b (by simp [hb])).2⟩)]

end Go.Proofs.YtinnckbffblecaaGreat
