/- Several texts in one. (1) Maps, said of lists of pairs: looking up, storing, counting, deleting. No conditions. (2) Maps that are only looked up and stored into, said of total functions; the two halves of a store in a tuple assignment. No conditions. -/
import Derived.Test.YtjmnkdkdjnmejaaGreatDoorBaseGrp
import Derived.MapKept
import Derived.Maps.OwnSet
import Derived.Maps.OwnOps

namespace Go.Proofs.YtjmnkdkdjnmejaaGreatDoor
open Go.RowKit Go.MapKept
set_option linter.unusedVariables false
set_option linter.unusedSimpArgs false

/-- how the keys of a map are written as values -/
structure Keys (κ : Type) where
  enc : κ → Value
  desc : TypeDesc
  inj : ∀ a b, enc a = enc b → a = b
  isKey : ∀ a, IsKey desc (enc a)
def strKeys : Keys ByteArray := ⟨Value.string, .string, fun a b h => by injection h, fun _ => trivial⟩
section
variable {κ : Type} [DecidableEq κ]
def aget (m : List (κ × Value)) (k : κ) : Option Value := (m.find? fun p => decide (p.1 = k)).map (·.2)
/-- block b is a map that reads as m -/
def MapOf (K : Keys κ) (w : World) (b : Nat) (m : List (κ × Value)) : Prop :=
  ∃ es clock, w.heap[b]? = some (.map es clock) ∧ Stamped es clock ∧ es.toList.map (fun e => (e.key, e.val)) = m.map (fun p => (K.enc p.1, p.2))

variable {K : Keys κ} {w w' : World} {b : Nat} {m : List (κ × Value)} {P : Program}
omit [DecidableEq κ] in
theorem MapOf.lt (h : MapOf K w b m) : b < w.heap.size := by obtain ⟨es, clock, hb, _⟩ := h; exact heap_lt hb
omit [DecidableEq κ] in
theorem MapOf.mod {S : Nat → Prop} (h : MapOf K w b m) (hm : Mod S w w') (hs : ¬ S b) : MapOf K w' b m := by
  obtain ⟨es, clock, hb, hr⟩ := h
  exact ⟨es, clock, (hm.block b (heap_lt hb) hs).trans hb, hr⟩
omit [DecidableEq κ] in
theorem MapOf.made (h : w.heap[b]? = some (.map #[] 0)) : MapOf K w b [] := ⟨#[], 0, h, stamped_empty 0, rfl⟩
omit [DecidableEq κ] in
theorem MapOf.ne_blk {g : Nat} {t : TypeId} (h : MapOf K w b m) (hg : TB w g t) : g ≠ b := by
  rintro rfl
  obtain ⟨es, clock, hb, _⟩ := h
  obtain ⟨cs, fr, hg⟩ := hg
  rw [hb] at hg
  cases hg

omit [DecidableEq κ] in
theorem MapOf.keys {es : Array MapEntry} (he : es.toList.map (fun e => (e.key, e.val)) = m.map (fun p => (K.enc p.1, p.2))) : ∀ x ∈ es.toList, IsKey K.desc x.key := by
  intro x hx
  have : (x.key, x.val) ∈ m.map (fun p => (K.enc p.1, p.2)) := by rw [← he]; exact List.mem_map.2 ⟨x, hx, rfl⟩
  obtain ⟨p, _, hp⟩ := List.mem_map.1 this
  injection hp with h1 h2
  rw [← h1]; exact K.isKey _
omit [DecidableEq κ] in
theorem MapOf.nodup {es : Array MapEntry} {clock : Nat} (hs : Stamped es clock) (he : es.toList.map (fun e => (e.key, e.val)) = m.map (fun p => (K.enc p.1, p.2))) : (m.map (·.1)).Nodup := by
  have h1 : es.toList.map (·.key) = (m.map (·.1)).map K.enc := by
    have := congrArg (List.map Prod.fst) he
    simpa [List.map_map, Function.comp_def] using this
  have h2 := hs.2.2
  rw [h1] at h2
  exact List.Pairwise.of_map K.enc (fun a b hab e => hab (by rw [e])) h2

/-- where a key stands, if anywhere -/
theorem MapOf.find {es : Array MapEntry} {clock : Nat} (hs : Stamped es clock) (he : es.toList.map (fun e => (e.key, e.val)) = m.map (fun p => (K.enc p.1, p.2))) (k : κ) :
    (Instr.findNow K.desc (K.enc k) es.toList 0 = some none ∧ aget m k = none ∧ ∀ x ∈ es.toList, x.key ≠ K.enc k) ∨
    ∃ j e p, Instr.findNow K.desc (K.enc k) es.toList 0 = some (some (j, e.val)) ∧ es.toList[j]? = some e ∧ e.key = K.enc k ∧ m[j]? = some p ∧ p.1 = k ∧ p.2 = e.val ∧ aget m k = some e.val := by
  rcases findNow_spec (K.isKey k) es.toList 0 (MapOf.keys he) with ⟨h1, h2⟩ | ⟨j, e, h1, h2, h3⟩
  · refine .inl ⟨h1, ?_, h2⟩
    unfold aget
    rw [Option.map_eq_none_iff, List.find?_eq_none]
    intro p hp
    have : (K.enc p.1, p.2) ∈ es.toList.map (fun e => (e.key, e.val)) := by rw [he]; exact List.mem_map.2 ⟨p, hp, rfl⟩
    obtain ⟨x, hx, hxe⟩ := List.mem_map.1 this
    injection hxe with hx1 _
    intro hk
    have hk : p.1 = k := by simpa using hk
    exact h2 x hx (by rw [hx1, hk])
  · have hj : (m.map (fun p => (K.enc p.1, p.2)))[j]? = some (e.key, e.val) := by rw [← he]; simp [h2]
    rw [List.getElem?_map] at hj
    cases hm : m[j]? with
    | none => rw [hm] at hj; cases hj
    | some p =>
      rw [hm] at hj
      simp only [Option.map_some, Option.some.injEq, Prod.mk.injEq] at hj
      have hpk : p.1 = k := K.inj _ _ (hj.1.trans h3)
      refine .inr ⟨j, e, p, by simpa using h1, h2, h3, by rw [hm], hpk, hj.2, ?_⟩
      unfold aget
      have hnd := MapOf.nodup hs he
      have hpm : p ∈ m := List.mem_of_getElem? hm
      have : m.find? (fun q => decide (q.1 = k)) = some p := by
        rw [List.find?_eq_some_iff_getElem]
        obtain ⟨hjl, hje⟩ := List.getElem?_eq_some_iff.1 hm
        refine ⟨by simpa using hpk, j, hjl, hje, fun i hi => ?_⟩
        simp only [Bool.not_eq_true', decide_eq_false_iff_not]
        intro hik
        have hij : (m.map (·.1))[i]'(by simp; omega) = (m.map (·.1))[j]'(by simp; omega) := by simp [hik, hje, hpk]
        have := (List.getElem_inj hnd).1 hij
        omega
      rw [this, ← hj.2]; rfl

theorem run_lookup {t kt e : TypeId} (ht : P.underlying t = some (.map kt e)) (hk : P.underlying kt = some K.desc) {z : Value} (hz : (zeroValue e).run P w = .ok z w) (h : MapOf K w b m) (k : κ) :
    (Instr.lookup t (.map (some b)) (K.enc k) false).run P w = .ok ((aget m k).getD z) w := by
  obtain ⟨es, clock, hb, hs, he⟩ := h
  rcases MapOf.find hs he k with ⟨h1, h2, _⟩ | ⟨j, e0, p, h1, h2, h3, h4, h5, h6, h7⟩
  · simp [Instr.lookup, run_underlying ht, MapKept.run_getObj_map hb, MapKept.run_checkKey hk (K.isKey k), MapKept.run_findKey hk h1, hz, Result.andThen, h2]
  · simp [Instr.lookup, run_underlying ht, MapKept.run_getObj_map hb, MapKept.run_checkKey hk (K.isKey k), MapKept.run_findKey hk h1, Result.andThen, h7]
theorem Mod.setBlock {w : World} {b : Nat} (o : Obj) : Only b w { w with heap := w.heap.setIfInBounds b o } :=
  ⟨rfl, rfl, rfl, by simp, fun i hi hs => by
    show (w.heap.setIfInBounds b o)[i]? = _
    rw [Array.getElem?_setIfInBounds_ne (fun e => hs e.symm)]⟩

end

end Go.Proofs.YtjmnkdkdjnmejaaGreatDoor

namespace Go.Proofs.YtjmnkdkdjnmejaaGreatDoor
open Go.RowKit Go.MapKept
set_option linter.unusedVariables false
set_option linter.unusedSimpArgs false

def fupd {κ β : Type} [DecidableEq κ] (f : κ → β) (k : κ) (v : β) : κ → β := fun x => if x = k then v else f x

section
variable {κ : Type} [DecidableEq κ]
theorem aget_nil (k : κ) : aget ([] : List (κ × Value)) k = none := rfl
theorem aget_cons (p : κ × Value) (m : List (κ × Value)) (k : κ) : aget (p :: m) k = if p.1 = k then some p.2 else aget m k := by
  unfold aget
  rw [List.find?_cons]
  by_cases h : p.1 = k <;> simp [h]
theorem aget_append (m : List (κ × Value)) (p : κ × Value) (k : κ) : aget (m ++ [p]) k = (aget m k).or (if p.1 = k then some p.2 else none) := by
  induction m with
  | nil => rw [List.nil_append, aget_cons]; simp [aget_nil]
  | cons q m ih =>
    rw [List.cons_append, aget_cons, aget_cons, ih]
    by_cases h : q.1 = k <;> simp [h]
theorem aget_map (m : List (κ × Value)) (k : κ) (v : Value) (k' : κ) : aget (m.map (fun p => if p.1 = k then (p.1, v) else p)) k' = if k' = k then (aget m k').map (fun _ => v) else aget m k' := by
  induction m with
  | nil => simp [aget_nil]
  | cons q m ih =>
    rw [List.map_cons, aget_cons, aget_cons, ih]
    by_cases h : q.1 = k
    · by_cases h2 : k' = k
      · subst h2; simp [h]
      · have h3 : ¬ k = k' := fun e => h2 e.symm
        simp [h, h2, h3]
    · by_cases h2 : k' = k
      · subst h2; simp [h]
      · simp [h, h2]
/-- block b is a map that reads as f; what is not there reads as z -/
def FMap (K : Keys κ) (w : World) (b : Nat) (z : Value) (f : κ → Value) : Prop := ∃ m, MapOf K w b m ∧ ∀ k, (aget m k).getD z = f k
variable {K : Keys κ} {w w' : World} {b : Nat} {z : Value} {f : κ → Value} {P : Program}
theorem FMap.lt (h : FMap K w b z f) : b < w.heap.size := by obtain ⟨m, h, _⟩ := h; exact h.lt
theorem FMap.mod {S : Nat → Prop} (h : FMap K w b z f) (hm : Mod S w w') (hs : ¬ S b) : FMap K w' b z f := by obtain ⟨m, h, hf⟩ := h; exact ⟨m, h.mod hm hs, hf⟩
theorem FMap.made (h : w.heap[b]? = some (.map #[] 0)) : FMap K w b z (fun _ => z) := ⟨[], MapOf.made h, fun _ => rfl⟩
theorem FMap.ne_blk {g : Nat} {t : TypeId} (h : FMap K w b z f) (hg : TB w g t) : g ≠ b := by obtain ⟨m, h, _⟩ := h; exact h.ne_blk hg
theorem FMap.look (h : FMap K w b z f) {t kt e : TypeId} (ht : P.underlying t = some (.map kt e)) (hk : P.underlying kt = some K.desc) (hz : (zeroValue e).run P w = .ok z w) (k : κ) : (Instr.lookup t (.map (some b)) (K.enc k) false).run P w = .ok (f k) w := by
  obtain ⟨m, h, hf⟩ := h
  rw [run_lookup ht hk hz h k, hf]

/-- the map's entry of key k bears the stamp st -/
def FEnt (K : Keys κ) (w : World) (b : Nat) (z : Value) (f : κ → Value) (k : κ) (st : Nat) : Prop :=
  ∃ (es : Array MapEntry) (clock : Nat) (m : List (κ × Value)) (j : Nat) (e : MapEntry), w.heap[b]? = some (.map es clock) ∧ Stamped es clock ∧ es.toList.map (fun e => (e.key, e.val)) = m.map (fun p => (K.enc p.1, p.2)) ∧ (∀ k, (aget m k).getD z = f k) ∧ es[j]? = some e ∧ e.key = K.enc k ∧ e.born = st
theorem FEnt.mod {S : Nat → Prop} {k : κ} {st : Nat} (h : FEnt K w b z f k st) (hm : Mod S w w') (hs : ¬ S b) : FEnt K w' b z f k st := by
  obtain ⟨es, clock, m, j, e, hb, hr⟩ := h
  exact ⟨es, clock, m, j, e, (hm.block b (heap_lt hb) hs).trans hb, hr⟩

theorem run_mapEntry (h : FMap K w b z f) {t kt e : TypeId} (ht : P.underlying t = some (.map kt e)) (hk : P.underlying kt = some K.desc) (hz : (zeroValue e).run P w = .ok z w) (k : κ) :
    ∃ (st : Nat) (w' : World), (Instr.mapEntry t (.map (some b)) (K.enc k)).run P w = .ok (.tuple #[f k, goInt st]) w' ∧ FEnt K w' b z f k st ∧ Only b w w' ∧ w'.heap.size = w.heap.size := by
  obtain ⟨m, ⟨es, clock, hb, hs, he⟩, hf⟩ := h
  rcases MapOf.find hs he k with ⟨h1, h2, h3⟩ | ⟨j, e0, p, h1, h2, h3, h4, h5, h6, h7⟩
  · refine ⟨clock, { w with heap := w.heap.setIfInBounds b (.map (es.push { key := K.enc k, val := z, born := clock }) (clock + 1)) }, ?_, ⟨_, _, m ++ [(k, z)], es.size, _, (heap_set hb).1, stamped_push hs h3, ?_, ?_, by simp; rfl, rfl, rfl⟩, Mod.setBlock _, by simp⟩
    · have hfk : f k = z := by rw [← hf, h2]; rfl
      simp [Instr.mapEntry, run_underlying ht, MapKept.run_getObj_map hb, MapKept.run_checkKey hk (K.isKey k), MapKept.run_findKey hk h1, MapKept.run_setObj_map _ hb, hz, Result.andThen, hfk]
    · simp [he]
    · intro k'
      rw [aget_append, ← hf]
      by_cases e : k = k'
      · subst e; simp [h2]
      · simp [e]
  · have hes : es[j]? = some e0 := by simpa using h2
    have hst := stamped_modify hs j (fun e => { e with key := K.enc k }) (fun _ _ => rfl) (fun e _ hej => by rw [hes] at hej; injection hej with hej; subst hej; exact h3.symm)
    have hsame : es.modify j (fun e => { e with key := K.enc k }) = es := by
      apply Array.ext_getElem?
      intro i
      rw [Array.getElem?_modify]
      by_cases hij : j = i
      · subst hij; simp [hes, ← h3]
      · simp [hij]
    refine ⟨e0.born, { w with heap := w.heap.setIfInBounds b (.map (es.modify j fun e => { e with key := K.enc k }) clock) }, ?_, ⟨_, _, m, j, e0, (heap_set hb).1, hst, by rw [hsame]; exact he, hf, by rw [hsame]; exact hes, h3, rfl⟩, Mod.setBlock _, by simp⟩
    have hfk : f k = e0.val := by rw [← hf, h7]; rfl
    simp [Instr.mapEntry, run_underlying ht, MapKept.run_getObj_map hb, MapKept.run_checkKey hk (K.isKey k), MapKept.run_findKey hk h1, MapKept.run_setObj_map _ hb, Result.andThen, hes, h3, MapKept.run_keyThatStays (K.isKey k), hfk]

theorem run_entryStore {k : κ} {st : Nat} (h : FEnt K w b z f k st) (t : TypeId) (u : Value) :
    ∃ w', (Instr.entryStore t (.map (some b)) (goInt st) u).run P w = .ok () w' ∧ FMap K w' b z (fupd f k u) ∧ Only b w w' ∧ w'.heap.size = w.heap.size := by
  obtain ⟨es, clock, m, j, e, hb, hs, he, hf, hes, hek, hst⟩ := h
  subst hst
  have hjl : j < es.size := (Array.getElem?_eq_some_iff.1 hes).1
  have hej : es[j] = e := (Array.getElem?_eq_some_iff.1 hes).2
  have hfi : es.findIdx? (fun e' => ((e'.born : Int) == (e.born : Int))) = some j := by
    rw [Array.findIdx?_eq_some_iff_getElem]
    refine ⟨hjl, by simp [hej], fun i hi => ?_⟩
    simp only [beq_eq_false_iff_ne, Bool.not_eq_true, ne_eq]
    intro hc
    have hnd := hs.2.1
    have hil : i < es.size := by omega
    have e1 : (es.toList.map (·.born))[i]'(by simpa using hil) = (es.toList.map (·.born))[j]'(by simpa using hjl) := by
      simp [hej]; omega
    have := (List.getElem_inj hnd).1 e1
    omega
  refine ⟨{ w with heap := w.heap.setIfInBounds b (.map (es.modify j fun e => { e with val := u }) clock) }, ?_, ⟨m.map (fun p => if p.1 = k then (p.1, u) else p), ⟨_, _, (heap_set hb).1, stamped_modify hs _ _ (fun _ _ => rfl) (fun _ _ _ => rfl), ?_⟩, ?_⟩, Mod.setBlock _, by simp⟩
  · simp [Instr.entryStore, MapKept.run_getObj_map hb, Result.andThen, asInt, asIntOf, goInt, hfi, MapKept.run_setObj_map _ hb]
  · apply List.ext_getElem?
    intro i
    have hi : (es.toList.map (fun e => (e.key, e.val)))[i]? = (m.map (fun p => (K.enc p.1, p.2)))[i]? := by rw [he]
    simp only [List.getElem?_map, Array.getElem?_toList] at hi
    simp only [List.getElem?_map, Array.getElem?_toList, Array.getElem?_modify]
    have hnd := MapOf.nodup hs he
    by_cases hij : j = i
    · subst hij
      rw [hes] at hi
      cases hmj : m[j]? with
      | none => rw [hmj] at hi; cases hi
      | some q =>
        rw [hmj] at hi
        simp only [Option.map_some, Option.some.injEq, Prod.mk.injEq] at hi
        have hqk : q.1 = k := K.inj _ _ (hi.1.symm.trans hek)
        simp [hes, hqk, hek]
    · rw [if_neg hij, hi]
      cases hmi : m[i]? with
      | none => rfl
      | some q =>
        have hqk : q.1 ≠ k := by
          intro hq
          have hj2 : (es.toList.map (fun e => (e.key, e.val)))[j]? = (m.map (fun p => (K.enc p.1, p.2)))[j]? := by rw [he]
          simp only [List.getElem?_map, Array.getElem?_toList, hes] at hj2
          cases hmj : m[j]? with
          | none => rw [hmj] at hj2; cases hj2
          | some q2 =>
            rw [hmj] at hj2
            simp only [Option.map_some, Option.some.injEq, Prod.mk.injEq] at hj2
            have hq2 : q2.1 = k := K.inj _ _ (hj2.1.symm.trans hek)
            obtain ⟨hil, hie⟩ := List.getElem?_eq_some_iff.1 hmi
            obtain ⟨hjl2, hje⟩ := List.getElem?_eq_some_iff.1 hmj
            have hij2 : (m.map (·.1))[i]'(by simpa using hil) = (m.map (·.1))[j]'(by simpa using hjl2) := by simp [hie, hje, hq, hq2]
            have := (List.getElem_inj hnd).1 hij2
            omega
        simp [hqk]
  · intro k'
    rw [aget_map]
    unfold fupd
    by_cases ek : k' = k
    · subst ek
      have hsome : (aget m k').isSome = true := by
        have hj2 : (es.toList.map (fun e => (e.key, e.val)))[j]? = (m.map (fun p => (K.enc p.1, p.2)))[j]? := by rw [he]
        simp only [List.getElem?_map, Array.getElem?_toList, hes] at hj2
        cases hmj : m[j]? with
        | none => rw [hmj] at hj2; cases hj2
        | some q2 =>
          rw [hmj] at hj2
          simp only [Option.map_some, Option.some.injEq, Prod.mk.injEq] at hj2
          have hq2 : q2.1 = k' := K.inj _ _ (hj2.1.symm.trans hek)
          unfold aget
          rw [Option.isSome_map, List.find?_isSome]
          exact ⟨q2, List.mem_of_getElem? hmj, by simpa using hq2⟩
      obtain ⟨v, hv⟩ := Option.isSome_iff_exists.1 hsome
      simp [hv]
    · simp [ek, hf]
end

end Go.Proofs.YtjmnkdkdjnmejaaGreatDoor
