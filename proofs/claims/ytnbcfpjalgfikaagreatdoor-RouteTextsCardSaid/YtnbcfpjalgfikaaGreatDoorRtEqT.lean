/- Right routes: both writings are one text. No program in sight. No conditions. -/
import Derived.Test.YtnbcfpjalgfikaaGreatDoorTxLawGrp
namespace Go.Proofs.YtnbcfpjalgfikaaGreatDoor
open Go.RowKit
set_option linter.unusedVariables false
set_option linter.unusedSimpArgs false

theorem eachF_zero {α : Type} {f : List α → α → Int} : ∀ {l b : List α}, eachF f b l = 0 → ∀ x ∈ l, ∃ b', f b' x = 0
  | [], b, _, x, hx => by cases hx
  | y :: l, b, h, x, hx => by
    rw [eachF] at h
    split at h
    · next h1 => exact absurd h h1
    · next h1 =>
      rcases List.mem_cons.1 hx with rfl | hx
      · exact ⟨b, Classical.byContradiction (fun q => h1 q)⟩
      · exact eachF_zero h x hx
theorem cut_cases (c : UInt8) (t : ByteArray) : ((cutL c t.data.toList).2.2 = false ∧ Lib.indexB t ⟨#[c]⟩ = -1) ∨ ∃ i : Nat, (cutL c t.data.toList).2.2 = true ∧ Lib.indexB t ⟨#[c]⟩ = i ∧ (⟨(cutL c t.data.toList).2.1.toArray⟩ : ByteArray) = t.extract (i + 1) t.size := by
  have e : Lib.cut t.data.toList (⟨#[c]⟩ : ByteArray).data.toList = cutL c t.data.toList := cut_eq c _
  rcases Lib.indexB_cases t ⟨#[c]⟩ with h | ⟨i, h, hi⟩
  · obtain ⟨q1, q2, q3⟩ := Lib.cutB_miss t ⟨#[c]⟩ h
    rw [e] at q1 q2 q3
    exact .inl ⟨q3, h⟩
  · obtain ⟨q1, q2, q3⟩ := Lib.cutB_hit t ⟨#[c]⟩ i h
    rw [e] at q1 q2 q3
    exact .inr ⟨i, q3, h, q2⟩
/-- the last piece ends as the text does -/
theorem last_piece {c d : UInt8} (hcd : c ≠ d) : ∀ (k : Nat) (t : ByteArray), Lib.countB t ⟨#[c]⟩ = k → t.data.toList.getLast? = some d → ∃ x, (Lib.splitB ⟨#[c]⟩ 0 k t).getLast? = some x ∧ x.data.toList.getLast? = some d
  | 0, t, _, h => ⟨t, rfl, h⟩
  | k + 1, t, hk, h => by
    rcases cut_cases c t with ⟨q1, q2⟩ | ⟨i, q1, q2, q3⟩
    · rw [Lib.splitB_miss _ 0 _ t q2]
      exact ⟨t, rfl, h⟩
    · rw [Lib.splitB_hit _ 0 k t i q2]
      have hj := cutL_join c t.data.toList
      rw [q1, if_pos rfl] at hj
      have h2 : t.data.toList.getLast? = ((cutL c t.data.toList).1 ++ c :: (cutL c t.data.toList).2.1).getLast? := congrArg List.getLast? hj
      rw [h, List.getLast?_append, List.getLast?_cons] at h2
      have hr : (t.extract (i + 1) t.size).data.toList = (cutL c t.data.toList).2.1 := by rw [← q3]
      have hl : (t.extract (i + 1) t.size).data.toList.getLast? = some d := by
        rw [hr]
        cases hq : (cutL c t.data.toList).2.1.getLast? with
        | none => rw [hq] at h2; simp at h2; exact absurd h2.symm hcd
        | some z => rw [hq] at h2; simp at h2; rw [h2]
      have hc : Lib.countB (t.extract (i + 1) t.size) ⟨#[c]⟩ = k := by
        have := Lib.countB_hit t ⟨#[c]⟩ i (Nat.le_refl _) q2
        have e1 : (⟨#[c]⟩ : ByteArray).size = 1 := rfl
        rw [e1] at this
        omega
      obtain ⟨x, hx1, hx2⟩ := last_piece hcd k _ hc hl
      refine ⟨x, ?_, hx2⟩
      have e1 : (⟨#[c]⟩ : ByteArray).size = 1 := rfl
      rw [e1, List.getLast?_cons, hx1]
      rfl
theorem noSuffix {l : List UInt8} {d e : UInt8} (h : l.getLast? = some d) (hd : d ≠ e) : Lib.hasSuffix l [e] = false := by
  cases hq : Lib.hasSuffix l [e]
  · rfl
  · unfold Lib.hasSuffix at hq
    rw [List.isSuffixOf_iff_suffix] at hq
    obtain ⟨t, ht⟩ := hq
    rw [← ht] at h
    simp at h
    exact absurd h.symm hd
theorem partOf_blank {x : ByteArray} {acc : List PartD} {last : Bool} (h : x.data.toList.getLast? = some 32) : (partOf x acc last).1 ≠ 0 := by
  unfold partOf
  split
  · rw [noSuffix h (by decide)]
    simp
  · have hm : (32 : UInt8) ∈ x.data.toList := List.mem_of_getLast? h
    rw [if_pos (List.any_eq_true.2 ⟨32, hm, by decide⟩)]
    simp
theorem partsOf_last : ∀ {xs : List ByteArray} {acc : List PartD}, (partsOf xs acc).1 = 0 → ∀ x, xs.getLast? = some x → ∃ acc' last, (partOf x acc' last).1 = 0
  | [], acc, _, x, hx => by cases hx
  | y :: xs, acc, h, x, hx => by
    rw [partsOf] at h
    split at h
    · next h1 => exact absurd h h1
    · next h1 =>
      cases xs with
      | nil =>
        simp at hx
        subst hx
        exact ⟨acc, true, Classical.byContradiction (fun q => h1 q)⟩
      | cons z zs =>
        rw [List.getLast?_cons_cons] at hx
        exact partsOf_last h x hx
theorem tpl_blank {s : ByteArray} (h : (tplOf s).1 = 0) : s.data.toList.getLast? ≠ some 32 := by
  intro hl
  unfold tplOf at h
  split at h
  · simp at h
  · split at h
    · simp at h
    · next h1 h2 =>
      have hp : Lib.hasPrefix s.data.toList [47] = true := by simpa using h2
      have ht : (templateOf (pieces (s.extract 1 s.size) slB)).1 = 0 := h
      have hps : (partsOf (pieces (s.extract 1 s.size) slB) []).1 = 0 := by
        unfold templateOf at ht
        split at ht
        · next q => exact absurd ht q
        · next q => exact Classical.byContradiction (fun e => q e)
      obtain ⟨r, hr⟩ : ∃ r, s.data.toList = 47 :: r := by
        unfold Lib.hasPrefix at hp
        rw [List.isPrefixOf_iff_prefix] at hp
        obtain ⟨t, ht⟩ := hp
        exact ⟨t, ht.symm⟩
      have hx : (s.extract 1 s.size).data.toList = r := by
        have h1 := Lib.extract_toList s 1 s.size
        rw [ByteArray.toList_eq, hr] at h1
        rw [h1]
        have h3 : s.size = r.length + 1 := by
          have : s.data.toList.length = s.size := rfl
          rw [← this, hr]; rfl
        rw [h3]
        simp
      have hrl : r.getLast? = some 32 := by
        rw [hr] at hl
        cases r with
        | nil => simp at hl
        | cons a r => rw [List.getLast?_cons_cons] at hl; exact hl
      obtain ⟨x, hx1, hx2⟩ := last_piece (c := 47) (d := 32) (by decide) _ (s.extract 1 s.size) rfl (by rw [hx]; exact hrl)
      obtain ⟨acc, last, hz⟩ := partsOf_last hps x hx1
      exact partOf_blank hx2 hz
theorem fld_blank {s : ByteArray} (h : isFld s = true) : s.data.toList.getLast? ≠ some 32 := by
  intro hl
  unfold isFld at h
  simp only [Bool.and_eq_true, decide_eq_true_eq] at h
  exact ((trimS_one _ _).1 h.2).2 hl
theorem needs_fld {l : List (ByteArray × ByteArray)} (h : needsF l = 0) : ∀ p ∈ l, isFld p.2 = true := fun p hp => by
  unfold needsF at h
  split at h
  · simp at h
  · obtain ⟨b, hb⟩ := eachF_zero h p hp
    unfold needF at hb
    split at hb
    · simp at hb
    · split at hb
      · simp at hb
      · next q => simpa using q
theorem routeF_parts {r : RtD} (h : routeF r = 0) : (r.dest = ⟨#[]⟩ ∨ (tplOf r.dest).1 = 0) ∧ needsF r.needs = 0 := by
  unfold routeF at h
  split at h
  · simp at h
  · split at h
    · next q => exact absurd h q
    · split at h
      · next q => exact absurd h q
      · split at h
        · next q => exact absurd h q
        · split at h
          · next q => exact absurd h q
          · next q =>
            refine ⟨?_, Classical.byContradiction (fun e => q e)⟩
            split at h
            · next q => exact .inl q
            · split at h
              · next q => exact absurd h q
              · next q => exact .inr (Classical.byContradiction (fun e => q e))
theorem routeR_eq {r : RtD} (h : routeF r = 0) : routeR r = routeP r := by
  obtain ⟨h1, h2⟩ := routeF_parts h
  unfold routeR routeP
  rw [headR_eq (by
    rcases h1 with e | e
    · rw [arr_empty.1 e]; simp
    · exact tpl_blank e)]
  congr 3
  have : ∀ l : List (ByteArray × ByteArray), (∀ p ∈ l, isFld p.2 = true) → l.flatMap needR = l.flatMap needP := by
    intro l hl
    induction l with
    | nil => rfl
    | cons p l ih =>
      rw [List.flatMap_cons, List.flatMap_cons, ih (fun q hq => hl q (List.mem_cons_of_mem _ hq)), needR_eq (fld_blank (hl p List.mem_cons_self))]
  exact this _ (needs_fld h2)
theorem routesR_right {l : List RtD} (h : routesF l = 0) : routesR l = routesP l := by
  have hall : ∀ r ∈ l, routeF r = 0 := fun r hr => by
    unfold routesF at h
    split at h
    · simp at h
    · obtain ⟨b, hb⟩ := eachF_zero h r hr
      unfold rtF at hb
      split at hb
      · next q => exact absurd hb q
      · next q => exact Classical.byContradiction (fun e => q e)
  clear h
  unfold routesR routesP
  induction l with
  | nil => rfl
  | cons r l ih => rw [List.flatMap_cons, List.flatMap_cons, ih (fun q hq => hall q (List.mem_cons_of_mem _ hq)), routeR_eq (hall r List.mem_cons_self)]
end Go.Proofs.YtnbcfpjalgfikaaGreatDoor
