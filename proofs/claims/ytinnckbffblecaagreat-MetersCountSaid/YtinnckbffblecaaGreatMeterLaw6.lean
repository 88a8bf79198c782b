/- The plain law of meters, sixth part: forgetting. No program in sight but for idleC. Conditions: right limits, names that stand once. -/
import Derived.Test.YtinnckbffblecaaGreatCtr3
namespace Go.Proofs.YtinnckbffblecaaGreat
open Go.RowKit
set_option linter.unusedVariables false
set_option linter.unusedSimpArgs false

def idleR (l : Lim) (p : List AskD) (t : Int) : Bool := if l.kind = 3 then filledR l p t == fullR l else usedR l p t == 0
theorem rel_idle {l : Lim} {p : List AskD} {τ t : Int} {c : Ctr} (hl : RLim' l) (hp : PastOk p τ) (h : Rel l p τ c) (ht : τ ≤ t) : idleC l c t = idleR l p t := by
  unfold idleR
  by_cases h3 : l.kind = 3
  · rw [if_pos h3]
    obtain ⟨a, lv, rfl, h4, _⟩ := rel_filled hl h ht h3
    rw [h4]; rfl
  · rw [if_neg h3]
    cases c with
    | win a n => obtain ⟨_, _, _, h4⟩ := h; rw [h4 t ht]; rfl
    | sl ps => obtain ⟨hk, _, θ, hθ, hpm⟩ := h; rw [← rel_sum (.inl hk) hp hθ hpm ht]; rfl
    | bk a lv => exact absurd h.1 h3
    | on ps => obtain ⟨hk, _, θ, hθ, hpm⟩ := h; rw [← rel_sum (.inr hk) hp hθ hpm ht]; rfl
def freshC (ls : List Lim) (cs : List Ctr) (t : Int) : Bool := (List.zipWith (fun l c => idleC l c t) ls cs).all id
def freshR (ls : List Lim) (p : List AskD) (t : Int) : Bool := ls.all fun l => idleR l p t
theorem fresh_eq {ls : List Lim} (hl : ∀ l ∈ ls, RLim' l) {p : List AskD} {τ t : Int} {cs : List Ctr} (hp : PastOk p τ) (h : RelL ls p τ cs) (ht : τ ≤ t) : freshC ls cs t = freshR ls p t := by
  induction ls generalizing cs with
  | nil => cases cs with
    | nil => rfl
    | cons c cs => exact h.elim
  | cons l ls ih => cases cs with
    | nil => exact h.elim
    | cons c cs =>
      have h1 := rel_idle (hl l (by simp)) hp h.1 ht
      have h2 := ih (fun x hx => hl x (by simp [hx])) h.2
      unfold freshC freshR at *
      simp only [List.zipWith_cons_cons, List.all_cons, id, h1, h2]

section
variable {β γ : Type}
theorem gget_filter {m : List (ByteArray × β)} (h : (gkeys m).Nodup) (f : ByteArray × β → Bool) (k : ByteArray) : gget (m.filter f) k = (gget m k).bind fun v => if f (k, v) then some v else none := by
  induction m with
  | nil => rfl
  | cons p m ih =>
    have h' := List.nodup_cons.1 (show (p.1 :: gkeys m).Nodup from h)
    have hi := ih h'.2
    by_cases hk : p.1 = k
    · subst hk
      have hn : gget m p.1 = none := by
        cases e : gget m p.1 with
        | none => rfl
        | some v => exact absurd ((gget_isSome m p.1).1 (by rw [e]; rfl)) h'.1
      rw [gget_cons, if_pos rfl]
      by_cases hf : f p = true
      · rw [List.filter_cons_of_pos hf, gget_cons, if_pos rfl]
        simp [hf]
      · rw [List.filter_cons_of_neg hf, hi, hn]
        simp [hf]
    · rw [gget_cons, if_neg hk]
      by_cases hf : f p = true
      · rw [List.filter_cons_of_pos hf, gget_cons, if_neg hk, hi]
      · rw [List.filter_cons_of_neg hf, hi]
theorem gget_mem {m : List (ByteArray × β)} (h : (gkeys m).Nodup) {k : ByteArray} {v : β} (hm : (k, v) ∈ m) : gget m k = some v := by
  induction m with
  | nil => cases hm
  | cons p m ih =>
    have h' := List.nodup_cons.1 (show (p.1 :: gkeys m).Nodup from h)
    rw [gget_cons]
    rcases List.mem_cons.1 hm with rfl | hm
    · simp
    · rw [if_neg (fun e => h'.1 (by rw [e]; exact List.mem_map.2 ⟨_, hm, rfl⟩))]
      exact ih h'.2 hm
theorem gput_nodup {m : List (ByteArray × β)} (h : (gkeys m).Nodup) (k : ByteArray) (v : β) : (gkeys (gput m k v)).Nodup := by
  rw [gkeys_gput]
  split
  · exact h
  · rename_i hs
    rw [List.nodup_append]
    refine ⟨h, by simp, fun a ha b hb => ?_⟩
    simp at hb
    subst hb
    intro e
    subst e
    exact hs ((gget_isSome m a).2 ha)
theorem filter_keys {m : List (ByteArray × β)} {m' : List (ByteArray × γ)} (hk : gkeys m = gkeys m') {f : ByteArray × β → Bool} {g : ByteArray × γ → Bool} (h : ∀ k v v', (k, v) ∈ m → (k, v') ∈ m' → f (k, v) = g (k, v')) : gkeys (m.filter f) = gkeys (m'.filter g) := by
  induction m generalizing m' with
  | nil => cases m' with
    | nil => rfl
    | cons q m' => cases hk
  | cons p m ih => cases m' with
    | nil => cases hk
    | cons q m' =>
      have hk' : p.1 :: gkeys m = q.1 :: gkeys m' := hk
      injection hk' with h1 h2
      have hi := ih h2 (fun k v v' hm hm' => h k v v' (by simp [hm]) (by simp [hm']))
      have hpq : f p = g q := by
        have := h p.1 p.2 q.2 (by simp) (by rw [h1]; simp)
        rw [this, h1]
      by_cases hf : f p = true
      · rw [List.filter_cons_of_pos hf, List.filter_cons_of_pos (by rw [← hpq]; exact hf)]
        show p.1 :: gkeys _ = q.1 :: gkeys _
        rw [h1, hi]
      · rw [List.filter_cons_of_neg hf, List.filter_cons_of_neg (by rw [← hpq]; exact hf), hi]
theorem filter_nodup {m : List (ByteArray × β)} (h : (gkeys m).Nodup) (f : ByteArray × β → Bool) : (gkeys (m.filter f)).Nodup := by
  unfold gkeys at *
  exact h.sublist ((List.filter_sublist (p := f) (l := m)).map _)
end

def forgetC (ls : List Lim) (σ : List (ByteArray × List Ctr)) (t : Int) : List (ByteArray × List Ctr) := σ.filter fun q => !freshC ls q.2 t
def forgetR (ls : List Lim) (π : List (ByteArray × List AskD)) (t : Int) : List (ByteArray × List AskD) := π.filter fun q => !freshR ls q.2 t
theorem Both.forget {ls : List Lim} (hl : ∀ l ∈ ls, RLim' l) {σ : List (ByteArray × List Ctr)} {π : List (ByteArray × List AskD)} {τ t : Int} (h : Both ls σ π τ) (hσ : (gkeys σ).Nodup) (hπ : (gkeys π).Nodup) (ht : τ ≤ t) : Both ls (forgetC ls σ t) (forgetR ls π t) t := by
  have ht0 := h.t0
  have hrel : ∀ k cs p, gget σ k = some cs → gget π k = some p → freshC ls cs t = freshR ls p t := fun k cs p h1 h2 => by
    have h3 := h.rel k
    unfold curC curR at h3
    rw [h1, h2] at h3
    exact fresh_eq hl (h.past k p h2) h3 ht
  refine ⟨by omega, ?_, fun who p hg => ?_, fun who => ?_⟩
  · exact filter_keys h.keys (fun k v v' h1 h2 => by simp only; rw [hrel k v v' (gget_mem hσ h1) (gget_mem hπ h2)])
  · unfold forgetR at hg
    rw [gget_filter hπ] at hg
    cases e : gget π who with
    | none => rw [e] at hg; cases hg
    | some q =>
      rw [e] at hg
      simp only [Option.bind_some] at hg
      split at hg
      · injection hg with hg
        subst hg
        exact past_later (h.past who q e) ht
      · cases hg
  · unfold curC curR forgetC forgetR
    rw [gget_filter hσ, gget_filter hπ]
    have hs := gkeys_isSome h.keys who
    cases e : gget σ who with
    | none =>
      rw [e] at hs
      cases e2 : gget π who with
      | none => exact relL_later hl (relL_new hl) (by omega)
      | some p => rw [e2] at hs; cases hs
    | some cs =>
      rw [e] at hs
      cases e2 : gget π who with
      | none => rw [e2] at hs; cases hs
      | some p =>
        have h3 := h.rel who
        unfold curC curR at h3
        rw [e, e2] at h3
        have h4 := hrel who cs p e e2
        simp only [Option.bind_some, h4]
        cases freshR ls p t with
        | true => exact relL_later hl (relL_new hl) (by omega)
        | false => exact relL_later hl h3 ht

end Go.Proofs.YtinnckbffblecaaGreat
