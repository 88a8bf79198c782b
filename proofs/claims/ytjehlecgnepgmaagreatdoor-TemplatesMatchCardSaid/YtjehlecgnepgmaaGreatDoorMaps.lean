/- Maps, said of lists of pairs: looking up, storing, counting, deleting. No conditions. -/
import Derived.Test.YtjehlecgnepgmaaGreatDoorBase
import Derived.MapKept
import Derived.Maps.OwnSet
import Derived.Maps.OwnOps
namespace Go.Proofs.YtjehlecgnepgmaaGreatDoor
open Go.RowKit Go.MapKept
set_option linter.unusedVariables false
set_option linter.unusedSimpArgs false

/-- how the keys of a map are written as values -/
structure Keys (κ : Type) where
  enc : κ → Value
  desc : TypeDesc
  inj : ∀ a b, enc a = enc b → a = b
  isKey : ∀ a, IsKey desc (enc a)
def strKeys : Keys ByteArray := ⟨Value.string, .string, fun a b h => by injection h, fun _ => trivial⟩
def intKeys : Keys Int := ⟨Value.int .i64, .int .i64, fun a b h => by injection h, fun _ => rfl⟩

section
variable {κ : Type} [DecidableEq κ]
def aget (m : List (κ × Value)) (k : κ) : Option Value := (m.find? fun p => decide (p.1 = k)).map (·.2)
def aput (m : List (κ × Value)) (k : κ) (v : Value) : List (κ × Value) := if (aget m k).isSome then m.map (fun p => if p.1 = k then (p.1, v) else p) else m ++ [(k, v)]
def adel (m : List (κ × Value)) (k : κ) : List (κ × Value) := m.filter fun p => decide (p.1 ≠ k)

/-- block b is a map that reads as m -/
def MapOf (K : Keys κ) (w : World) (b : Nat) (m : List (κ × Value)) : Prop :=
  ∃ es clock, w.heap[b]? = some (.map es clock) ∧ Stamped es clock ∧ es.toList.map (fun e => (e.key, e.val)) = m.map (fun p => (K.enc p.1, p.2))

variable {K : Keys κ} {w w' : World} {b : Nat} {m : List (κ × Value)} {P : Program}
omit [DecidableEq κ] in
theorem MapOf.lt (h : MapOf K w b m) : b < w.heap.size := by obtain ⟨es, clock, hb, _⟩ := h; exact heap_lt hb
omit [DecidableEq κ] in
theorem MapOf.mod {S : Nat → Prop} (h : MapOf K w b m) (hm : Mod S w w') (hs : ¬ S b) : MapOf K w' b m := by
  obtain ⟨es, clock, hb, hr⟩ := h
  exact ⟨es, clock, (hm.block b (heap_lt hb) hs).trans hb, hr⟩
omit [DecidableEq κ] in
theorem MapOf.made (h : w.heap[b]? = some (.map #[] 0)) : MapOf K w b [] := ⟨#[], 0, h, stamped_empty 0, rfl⟩
omit [DecidableEq κ] in
theorem MapOf.ne_blk {g : Nat} {t : TypeId} (h : MapOf K w b m) (hg : TB w g t) : g ≠ b := by
  rintro rfl
  obtain ⟨es, clock, hb, _⟩ := h
  obtain ⟨cs, fr, hg⟩ := hg
  rw [hb] at hg
  cases hg

omit [DecidableEq κ] in
theorem MapOf.keys {es : Array MapEntry} (he : es.toList.map (fun e => (e.key, e.val)) = m.map (fun p => (K.enc p.1, p.2))) : ∀ x ∈ es.toList, IsKey K.desc x.key := by
  intro x hx
  have : (x.key, x.val) ∈ m.map (fun p => (K.enc p.1, p.2)) := by rw [← he]; exact List.mem_map.2 ⟨x, hx, rfl⟩
  obtain ⟨p, _, hp⟩ := List.mem_map.1 this
  injection hp with h1 h2
  rw [← h1]; exact K.isKey _
omit [DecidableEq κ] in
theorem MapOf.nodup {es : Array MapEntry} {clock : Nat} (hs : Stamped es clock) (he : es.toList.map (fun e => (e.key, e.val)) = m.map (fun p => (K.enc p.1, p.2))) : (m.map (·.1)).Nodup := by
  have h1 : es.toList.map (·.key) = (m.map (·.1)).map K.enc := by
    have := congrArg (List.map Prod.fst) he
    simpa [List.map_map, Function.comp_def] using this
  have h2 := hs.2.2
  rw [h1] at h2
  exact List.Pairwise.of_map K.enc (fun a b hab e => hab (by rw [e])) h2

/-- where a key stands, if anywhere -/
theorem MapOf.find {es : Array MapEntry} {clock : Nat} (hs : Stamped es clock) (he : es.toList.map (fun e => (e.key, e.val)) = m.map (fun p => (K.enc p.1, p.2))) (k : κ) :
    (Instr.findNow K.desc (K.enc k) es.toList 0 = some none ∧ aget m k = none ∧ ∀ x ∈ es.toList, x.key ≠ K.enc k) ∨
    ∃ j e p, Instr.findNow K.desc (K.enc k) es.toList 0 = some (some (j, e.val)) ∧ es.toList[j]? = some e ∧ e.key = K.enc k ∧ m[j]? = some p ∧ p.1 = k ∧ p.2 = e.val ∧ aget m k = some e.val := by
  rcases findNow_spec (K.isKey k) es.toList 0 (MapOf.keys he) with ⟨h1, h2⟩ | ⟨j, e, h1, h2, h3⟩
  · refine .inl ⟨h1, ?_, h2⟩
    unfold aget
    rw [Option.map_eq_none_iff, List.find?_eq_none]
    intro p hp
    have : (K.enc p.1, p.2) ∈ es.toList.map (fun e => (e.key, e.val)) := by rw [he]; exact List.mem_map.2 ⟨p, hp, rfl⟩
    obtain ⟨x, hx, hxe⟩ := List.mem_map.1 this
    injection hxe with hx1 _
    intro hk
    have hk : p.1 = k := by simpa using hk
    exact h2 x hx (by rw [hx1, hk])
  · have hj : (m.map (fun p => (K.enc p.1, p.2)))[j]? = some (e.key, e.val) := by rw [← he]; simp [h2]
    rw [List.getElem?_map] at hj
    cases hm : m[j]? with
    | none => rw [hm] at hj; cases hj
    | some p =>
      rw [hm] at hj
      simp only [Option.map_some, Option.some.injEq, Prod.mk.injEq] at hj
      have hpk : p.1 = k := K.inj _ _ (hj.1.trans h3)
      refine .inr ⟨j, e, p, by simpa using h1, h2, h3, by rw [hm], hpk, hj.2, ?_⟩
      unfold aget
      have hnd := MapOf.nodup hs he
      have hpm : p ∈ m := List.mem_of_getElem? hm
      have : m.find? (fun q => decide (q.1 = k)) = some p := by
        rw [List.find?_eq_some_iff_getElem]
        obtain ⟨hjl, hje⟩ := List.getElem?_eq_some_iff.1 hm
        refine ⟨by simpa using hpk, j, hjl, hje, fun i hi => ?_⟩
        simp only [Bool.not_eq_true', decide_eq_false_iff_not]
        intro hik
        have hij : (m.map (·.1))[i]'(by simp; omega) = (m.map (·.1))[j]'(by simp; omega) := by simp [hik, hje, hpk]
        have := (List.getElem_inj hnd).1 hij
        omega
      rw [this, ← hj.2]; rfl

theorem run_lookup {t kt e : TypeId} (ht : P.underlying t = some (.map kt e)) (hk : P.underlying kt = some K.desc) {z : Value} (hz : (zeroValue e).run P w = .ok z w) (h : MapOf K w b m) (k : κ) :
    (Instr.lookup t (.map (some b)) (K.enc k) false).run P w = .ok ((aget m k).getD z) w := by
  obtain ⟨es, clock, hb, hs, he⟩ := h
  rcases MapOf.find hs he k with ⟨h1, h2, _⟩ | ⟨j, e0, p, h1, h2, h3, h4, h5, h6, h7⟩
  · simp [Instr.lookup, run_underlying ht, MapKept.run_getObj_map hb, MapKept.run_checkKey hk (K.isKey k), MapKept.run_findKey hk h1, hz, Result.andThen, h2]
  · simp [Instr.lookup, run_underlying ht, MapKept.run_getObj_map hb, MapKept.run_checkKey hk (K.isKey k), MapKept.run_findKey hk h1, Result.andThen, h7]
theorem run_lookup_ok {t kt e : TypeId} (ht : P.underlying t = some (.map kt e)) (hk : P.underlying kt = some K.desc) {z : Value} (hz : (zeroValue e).run P w = .ok z w) (h : MapOf K w b m) (k : κ) :
    (Instr.lookup t (.map (some b)) (K.enc k) true).run P w = .ok (.tuple #[(aget m k).getD z, .bool (aget m k).isSome]) w := by
  obtain ⟨es, clock, hb, hs, he⟩ := h
  rcases MapOf.find hs he k with ⟨h1, h2, _⟩ | ⟨j, e0, p, h1, h2, h3, h4, h5, h6, h7⟩
  · simp [Instr.lookup, run_underlying ht, MapKept.run_getObj_map hb, MapKept.run_checkKey hk (K.isKey k), MapKept.run_findKey hk h1, hz, Result.andThen, h2]
  · simp [Instr.lookup, run_underlying ht, MapKept.run_getObj_map hb, MapKept.run_checkKey hk (K.isKey k), MapKept.run_findKey hk h1, Result.andThen, h7]

theorem Mod.setBlock {w : World} {b : Nat} (o : Obj) : Only b w { w with heap := w.heap.setIfInBounds b o } :=
  ⟨rfl, rfl, rfl, by simp, fun i hi hs => by
    show (w.heap.setIfInBounds b o)[i]? = _
    rw [Array.getElem?_setIfInBounds_ne (fun e => hs e.symm)]⟩

theorem run_mapUpdate {t kt e : TypeId} (ht : P.underlying t = some (.map kt e)) (hk : P.underlying kt = some K.desc) (h : MapOf K w b m) (k : κ) (v : Value) :
    ∃ w', (Instr.mapUpdate t (.map (some b)) (K.enc k) v).run P w = .ok () w' ∧ MapOf K w' b (aput m k v) ∧ Only b w w' ∧ w'.heap.size = w.heap.size := by
  obtain ⟨es, clock, hb, hs, he⟩ := h
  rcases MapOf.find hs he k with ⟨h1, h2, h3⟩ | ⟨j, e0, p, h1, h2, h3, h4, h5, h6, h7⟩
  · refine ⟨{ w with heap := w.heap.setIfInBounds b (.map (es.push { key := K.enc k, val := v, born := clock }) (clock + 1)) }, ?_, ⟨_, _, (heap_set hb).1, stamped_push hs h3, ?_⟩, Mod.setBlock _, by simp⟩
    · simp [Instr.mapUpdate, run_underlying ht, MapKept.run_getObj_map hb, MapKept.run_checkKey hk (K.isKey k), MapKept.run_findKey hk h1, MapKept.run_setObj_map _ hb, Result.andThen]
    · simp [aput, h2, he]
  · have hes : es[j]? = some e0 := by simpa using h2
    refine ⟨{ w with heap := w.heap.setIfInBounds b (.map (es.modify j fun e => { e with key := K.enc k, val := v }) clock) }, ?_, ⟨_, _, (heap_set hb).1, stamped_modify hs j _ (fun _ _ => rfl) (fun e _ hej => ?_), ?_⟩, Mod.setBlock _, by simp⟩
    · simp [Instr.mapUpdate, run_underlying ht, MapKept.run_getObj_map hb, MapKept.run_checkKey hk (K.isKey k), MapKept.run_findKey hk h1, MapKept.run_setObj_map _ hb, Result.andThen, hes, h3, MapKept.run_keyThatStays (K.isKey k)]
    · rw [hes] at hej; injection hej with hej; subst hej; exact h3.symm
    · have hnd := MapOf.nodup hs he
      apply List.ext_getElem?
      intro i
      simp only [aput, h7, Option.isSome_some, if_true, List.getElem?_map, Array.getElem?_toList, Array.getElem?_modify]
      have hi : (es.toList.map (fun e => (e.key, e.val)))[i]? = (m.map (fun p => (K.enc p.1, p.2)))[i]? := by rw [he]
      simp only [List.getElem?_map, Array.getElem?_toList] at hi
      by_cases hij : j = i
      · subst hij
        simp [hes, h4, h5]
      · rw [if_neg hij, hi]
        cases hmi : m[i]? with
        | none => rfl
        | some q =>
          have hqk : q.1 ≠ k := by
            intro hq
            obtain ⟨hil, hie⟩ := List.getElem?_eq_some_iff.1 hmi
            obtain ⟨hjl, hje⟩ := List.getElem?_eq_some_iff.1 h4
            have hij2 : (m.map (·.1))[i]'(by simpa using hil) = (m.map (·.1))[j]'(by simpa using hjl) := by simp [hie, hje, hq, h5]
            have := (List.getElem_inj hnd).1 hij2
            omega
          simp [hqk]

omit [DecidableEq κ] in
theorem run_len_map (t ty : TypeId) {kt e : TypeId} (ht : P.underlying t = some (.map kt e)) (h : MapOf K w b m) :
    (Builtin.len_ #[t] ty #[.map (some b)]).run P w = .ok (.int .i64 (m.length : Int)) w := by
  obtain ⟨es, clock, hb, hs, he⟩ := h
  have hl : es.size = m.length := by have := congrArg List.length he; simpa using this
  simp [Builtin.len_, run_underlying ht, MapKept.run_getObj_map hb, Result.andThen, hl]
  rfl

theorem wpList_mapPut {ops : Array Oper} {rest : List Oper} {o : Oper} {a : Act} {Q : Exit → Act → World → Prop} (hg : o.guard = none) (mo x v : Operand) (t : TypeId) (hop : o.op = Op.mapUpdate t mo x v)
    {kt e : TypeId} (ht : P.underlying t = some (.map kt e)) (hk : P.underlying kt = some K.desc) (hm : a.eval mo = .map (some b)) (h : MapOf K w b m) (k : κ) (hx : a.eval x = K.enc k) (u : Value) (hv : a.eval v = u)
    (hK : ∀ w', MapOf K w' b (aput m k u) → Only b w w' → w'.heap.size = w.heap.size → wpList P ops Q rest (a.put o.dst undef) w') : wpList P ops Q (o :: rest) a w := by
  refine wpList_plain hg fun K' hK' => ?_
  obtain ⟨w', hrun, r1, r2, r3⟩ := run_mapUpdate ht hk h k u
  unfold Oper.wp
  simp [execOp, hop, hm, hx, hv, hrun, Result.andThen]
  exact hK' _ _ (hK w' r1 r2 r3)
end

end Go.Proofs.YtjehlecgnepgmaaGreatDoor
