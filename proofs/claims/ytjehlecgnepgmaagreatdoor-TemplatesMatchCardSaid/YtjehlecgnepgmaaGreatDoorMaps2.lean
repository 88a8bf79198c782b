/- Maps that are only looked up and stored into, said of total functions; the two halves of a store in a tuple assignment. No conditions. -/
import Derived.Test.YtjehlecgnepgmaaGreatDoorMaps
namespace Go.Proofs.YtjehlecgnepgmaaGreatDoor
open Go.RowKit Go.MapKept
set_option linter.unusedVariables false
set_option linter.unusedSimpArgs false

def fupd {κ β : Type} [DecidableEq κ] (f : κ → β) (k : κ) (v : β) : κ → β := fun x => if x = k then v else f x

section
variable {κ : Type} [DecidableEq κ]
theorem aget_nil (k : κ) : aget ([] : List (κ × Value)) k = none := rfl
theorem aget_cons (p : κ × Value) (m : List (κ × Value)) (k : κ) : aget (p :: m) k = if p.1 = k then some p.2 else aget m k := by
  unfold aget
  rw [List.find?_cons]
  by_cases h : p.1 = k <;> simp [h]
theorem aget_append (m : List (κ × Value)) (p : κ × Value) (k : κ) : aget (m ++ [p]) k = (aget m k).or (if p.1 = k then some p.2 else none) := by
  induction m with
  | nil => rw [List.nil_append, aget_cons]; simp [aget_nil]
  | cons q m ih =>
    rw [List.cons_append, aget_cons, aget_cons, ih]
    by_cases h : q.1 = k <;> simp [h]
theorem aget_map (m : List (κ × Value)) (k : κ) (v : Value) (k' : κ) : aget (m.map (fun p => if p.1 = k then (p.1, v) else p)) k' = if k' = k then (aget m k').map (fun _ => v) else aget m k' := by
  induction m with
  | nil => simp [aget_nil]
  | cons q m ih =>
    rw [List.map_cons, aget_cons, aget_cons, ih]
    by_cases h : q.1 = k
    · by_cases h2 : k' = k
      · subst h2; simp [h]
      · have h3 : ¬ k = k' := fun e => h2 e.symm
        simp [h, h2, h3]
    · by_cases h2 : k' = k
      · subst h2; simp [h]
      · simp [h, h2]
theorem aget_aput (m : List (κ × Value)) (k : κ) (v : Value) (k' : κ) : aget (aput m k v) k' = if k' = k then some v else aget m k' := by
  unfold aput
  by_cases hs : (aget m k).isSome = true
  · rw [if_pos hs, aget_map]
    by_cases h : k' = k
    · subst h
      obtain ⟨u, hu⟩ := Option.isSome_iff_exists.1 hs
      simp [hu]
    · simp [h]
  · rw [if_neg hs, aget_append]
    have hn : aget m k = none := by simpa using hs
    by_cases h : k' = k
    · subst h; simp [hn]
    · have h3 : ¬ k = k' := fun e => h e.symm
      simp [h, h3]

/-- block b is a map that reads as f; what is not there reads as z -/
def FMap (K : Keys κ) (w : World) (b : Nat) (z : Value) (f : κ → Value) : Prop := ∃ m, MapOf K w b m ∧ ∀ k, (aget m k).getD z = f k
variable {K : Keys κ} {w w' : World} {b : Nat} {z : Value} {f : κ → Value} {P : Program}
theorem FMap.lt (h : FMap K w b z f) : b < w.heap.size := by obtain ⟨m, h, _⟩ := h; exact h.lt
theorem FMap.mod {S : Nat → Prop} (h : FMap K w b z f) (hm : Mod S w w') (hs : ¬ S b) : FMap K w' b z f := by obtain ⟨m, h, hf⟩ := h; exact ⟨m, h.mod hm hs, hf⟩
theorem FMap.made (h : w.heap[b]? = some (.map #[] 0)) : FMap K w b z (fun _ => z) := ⟨[], MapOf.made h, fun _ => rfl⟩
theorem FMap.ne_blk {g : Nat} {t : TypeId} (h : FMap K w b z f) (hg : TB w g t) : g ≠ b := by obtain ⟨m, h, _⟩ := h; exact h.ne_blk hg
theorem FMap.look (h : FMap K w b z f) {t kt e : TypeId} (ht : P.underlying t = some (.map kt e)) (hk : P.underlying kt = some K.desc) (hz : (zeroValue e).run P w = .ok z w) (k : κ) : (Instr.lookup t (.map (some b)) (K.enc k) false).run P w = .ok (f k) w := by
  obtain ⟨m, h, hf⟩ := h
  rw [run_lookup ht hk hz h k, hf]

theorem wpList_fput {ops : Array Oper} {rest : List Oper} {o : Oper} {a : Act} {Q : Exit → Act → World → Prop} (hg : o.guard = none) (mo x v : Operand) (t : TypeId) (hop : o.op = Op.mapUpdate t mo x v)
    {kt e : TypeId} (ht : P.underlying t = some (.map kt e)) (hk : P.underlying kt = some K.desc) (hm : a.eval mo = .map (some b)) (h : FMap K w b z f) (k : κ) (hx : a.eval x = K.enc k) (u : Value) (hv : a.eval v = u)
    (hK : ∀ w', FMap K w' b z (fupd f k u) → Only b w w' → w'.heap.size = w.heap.size → wpList P ops Q rest (a.put o.dst undef) w') : wpList P ops Q (o :: rest) a w := by
  obtain ⟨m, h, hf⟩ := h
  refine wpList_mapPut hg mo x v t hop ht hk hm h k hx u hv (fun w' h1 h2 h3 => hK w' ⟨_, h1, fun k' => ?_⟩ h2 h3)
  rw [aget_aput]
  unfold fupd
  by_cases e : k' = k
  · simp [e]
  · simp [e, hf]

/-- the map's entry of key k bears the stamp st -/
def FEnt (K : Keys κ) (w : World) (b : Nat) (z : Value) (f : κ → Value) (k : κ) (st : Nat) : Prop :=
  ∃ (es : Array MapEntry) (clock : Nat) (m : List (κ × Value)) (j : Nat) (e : MapEntry), w.heap[b]? = some (.map es clock) ∧ Stamped es clock ∧ es.toList.map (fun e => (e.key, e.val)) = m.map (fun p => (K.enc p.1, p.2)) ∧ (∀ k, (aget m k).getD z = f k) ∧ es[j]? = some e ∧ e.key = K.enc k ∧ e.born = st
theorem FEnt.mod {S : Nat → Prop} {k : κ} {st : Nat} (h : FEnt K w b z f k st) (hm : Mod S w w') (hs : ¬ S b) : FEnt K w' b z f k st := by
  obtain ⟨es, clock, m, j, e, hb, hr⟩ := h
  exact ⟨es, clock, m, j, e, (hm.block b (heap_lt hb) hs).trans hb, hr⟩

theorem run_mapEntry (h : FMap K w b z f) {t kt e : TypeId} (ht : P.underlying t = some (.map kt e)) (hk : P.underlying kt = some K.desc) (hz : (zeroValue e).run P w = .ok z w) (k : κ) :
    ∃ (st : Nat) (w' : World), (Instr.mapEntry t (.map (some b)) (K.enc k)).run P w = .ok (.tuple #[f k, goInt st]) w' ∧ FEnt K w' b z f k st ∧ Only b w w' ∧ w'.heap.size = w.heap.size := by
  obtain ⟨m, ⟨es, clock, hb, hs, he⟩, hf⟩ := h
  rcases MapOf.find hs he k with ⟨h1, h2, h3⟩ | ⟨j, e0, p, h1, h2, h3, h4, h5, h6, h7⟩
  · refine ⟨clock, { w with heap := w.heap.setIfInBounds b (.map (es.push { key := K.enc k, val := z, born := clock }) (clock + 1)) }, ?_, ⟨_, _, m ++ [(k, z)], es.size, _, (heap_set hb).1, stamped_push hs h3, ?_, ?_, by simp; rfl, rfl, rfl⟩, Mod.setBlock _, by simp⟩
    · have hfk : f k = z := by rw [← hf, h2]; rfl
      simp [Instr.mapEntry, run_underlying ht, MapKept.run_getObj_map hb, MapKept.run_checkKey hk (K.isKey k), MapKept.run_findKey hk h1, MapKept.run_setObj_map _ hb, hz, Result.andThen, hfk]
    · simp [he]
    · intro k'
      rw [aget_append, ← hf]
      by_cases e : k = k'
      · subst e; simp [h2]
      · simp [e]
  · have hes : es[j]? = some e0 := by simpa using h2
    have hst := stamped_modify hs j (fun e => { e with key := K.enc k }) (fun _ _ => rfl) (fun e _ hej => by rw [hes] at hej; injection hej with hej; subst hej; exact h3.symm)
    have hsame : es.modify j (fun e => { e with key := K.enc k }) = es := by
      apply Array.ext_getElem?
      intro i
      rw [Array.getElem?_modify]
      by_cases hij : j = i
      · subst hij; simp [hes, ← h3]
      · simp [hij]
    refine ⟨e0.born, { w with heap := w.heap.setIfInBounds b (.map (es.modify j fun e => { e with key := K.enc k }) clock) }, ?_, ⟨_, _, m, j, e0, (heap_set hb).1, hst, by rw [hsame]; exact he, hf, by rw [hsame]; exact hes, h3, rfl⟩, Mod.setBlock _, by simp⟩
    have hfk : f k = e0.val := by rw [← hf, h7]; rfl
    simp [Instr.mapEntry, run_underlying ht, MapKept.run_getObj_map hb, MapKept.run_checkKey hk (K.isKey k), MapKept.run_findKey hk h1, MapKept.run_setObj_map _ hb, Result.andThen, hes, h3, MapKept.run_keyThatStays (K.isKey k), hfk]

theorem run_entryStore {k : κ} {st : Nat} (h : FEnt K w b z f k st) (t : TypeId) (u : Value) :
    ∃ w', (Instr.entryStore t (.map (some b)) (goInt st) u).run P w = .ok () w' ∧ FMap K w' b z (fupd f k u) ∧ Only b w w' ∧ w'.heap.size = w.heap.size := by
  obtain ⟨es, clock, m, j, e, hb, hs, he, hf, hes, hek, hst⟩ := h
  subst hst
  have hjl : j < es.size := (Array.getElem?_eq_some_iff.1 hes).1
  have hej : es[j] = e := (Array.getElem?_eq_some_iff.1 hes).2
  have hfi : es.findIdx? (fun e' => ((e'.born : Int) == (e.born : Int))) = some j := by
    rw [Array.findIdx?_eq_some_iff_getElem]
    refine ⟨hjl, by simp [hej], fun i hi => ?_⟩
    simp only [beq_eq_false_iff_ne, Bool.not_eq_true, ne_eq]
    intro hc
    have hnd := hs.2.1
    have hil : i < es.size := by omega
    have e1 : (es.toList.map (·.born))[i]'(by simpa using hil) = (es.toList.map (·.born))[j]'(by simpa using hjl) := by
      simp [hej]; omega
    have := (List.getElem_inj hnd).1 e1
    omega
  refine ⟨{ w with heap := w.heap.setIfInBounds b (.map (es.modify j fun e => { e with val := u }) clock) }, ?_, ⟨m.map (fun p => if p.1 = k then (p.1, u) else p), ⟨_, _, (heap_set hb).1, stamped_modify hs _ _ (fun _ _ => rfl) (fun _ _ _ => rfl), ?_⟩, ?_⟩, Mod.setBlock _, by simp⟩
  · simp [Instr.entryStore, MapKept.run_getObj_map hb, Result.andThen, asInt, asIntOf, goInt, hfi, MapKept.run_setObj_map _ hb]
  · apply List.ext_getElem?
    intro i
    have hi : (es.toList.map (fun e => (e.key, e.val)))[i]? = (m.map (fun p => (K.enc p.1, p.2)))[i]? := by rw [he]
    simp only [List.getElem?_map, Array.getElem?_toList] at hi
    simp only [List.getElem?_map, Array.getElem?_toList, Array.getElem?_modify]
    have hnd := MapOf.nodup hs he
    by_cases hij : j = i
    · subst hij
      rw [hes] at hi
      cases hmj : m[j]? with
      | none => rw [hmj] at hi; cases hi
      | some q =>
        rw [hmj] at hi
        simp only [Option.map_some, Option.some.injEq, Prod.mk.injEq] at hi
        have hqk : q.1 = k := K.inj _ _ (hi.1.symm.trans hek)
        simp [hes, hqk, hek]
    · rw [if_neg hij, hi]
      cases hmi : m[i]? with
      | none => rfl
      | some q =>
        have hqk : q.1 ≠ k := by
          intro hq
          have hj2 : (es.toList.map (fun e => (e.key, e.val)))[j]? = (m.map (fun p => (K.enc p.1, p.2)))[j]? := by rw [he]
          simp only [List.getElem?_map, Array.getElem?_toList, hes] at hj2
          cases hmj : m[j]? with
          | none => rw [hmj] at hj2; cases hj2
          | some q2 =>
            rw [hmj] at hj2
            simp only [Option.map_some, Option.some.injEq, Prod.mk.injEq] at hj2
            have hq2 : q2.1 = k := K.inj _ _ (hj2.1.symm.trans hek)
            obtain ⟨hil, hie⟩ := List.getElem?_eq_some_iff.1 hmi
            obtain ⟨hjl2, hje⟩ := List.getElem?_eq_some_iff.1 hmj
            have hij2 : (m.map (·.1))[i]'(by simpa using hil) = (m.map (·.1))[j]'(by simpa using hjl2) := by simp [hie, hje, hq, hq2]
            have := (List.getElem_inj hnd).1 hij2
            omega
        simp [hqk]
  · intro k'
    rw [aget_map]
    unfold fupd
    by_cases ek : k' = k
    · subst ek
      have hsome : (aget m k').isSome = true := by
        have hj2 : (es.toList.map (fun e => (e.key, e.val)))[j]? = (m.map (fun p => (K.enc p.1, p.2)))[j]? := by rw [he]
        simp only [List.getElem?_map, Array.getElem?_toList, hes] at hj2
        cases hmj : m[j]? with
        | none => rw [hmj] at hj2; cases hj2
        | some q2 =>
          rw [hmj] at hj2
          simp only [Option.map_some, Option.some.injEq, Prod.mk.injEq] at hj2
          have hq2 : q2.1 = k' := K.inj _ _ (hj2.1.symm.trans hek)
          unfold aget
          rw [Option.isSome_map, List.find?_isSome]
          exact ⟨q2, List.mem_of_getElem? hmj, by simpa using hq2⟩
      obtain ⟨v, hv⟩ := Option.isSome_iff_exists.1 hsome
      simp [hv]
    · simp [ek, hf]
end

end Go.Proofs.YtjehlecgnepgmaaGreatDoor
