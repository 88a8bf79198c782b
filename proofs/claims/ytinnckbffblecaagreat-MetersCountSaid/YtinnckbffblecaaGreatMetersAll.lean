/- Several texts in one. (1) The plain law of meters, seventh part: what is left, by the program and by the reference. Conditions: right limits, moments that rise. (2) The plain law of meters, eighth part: forgetting, said by names; what both meters know behind each call. Conditions: right limits, names that stand once. (3) Ranging over a map with names as keys while some of the entries are deleted in the round. No function of the program in sight. No conditions. (4) Meter.Forget. Conditions: limits were checked, modest numbers. (5) The reference's meter: asking. Conditions: limits were checked, few subjects, few asks. (6) The reference's meter: asking in time. Conditions: limits were checked, few subjects, few asks. (7) The reference's meter: forgetting. Conditions: limits were checked, what was let in was checked. (8) The program's meter and the reference's, side by side in memory. Conditions: limits were checked, modest numbers. (9) The law MetersCount, walked. Conditions: the argument is a slice of ints that can be read. -/
import Derived.Test.YtinnckbffblecaaGreatRefCounter1
import Derived.Test.YtinnckbffblecaaGreatMeterLaw6
import Derived.Test.YtinnckbffblecaaGreatMaps
import Derived.Maps.RangeRun
import Derived.Test.YtinnckbffblecaaGreatMeter5
import Derived.Test.YtinnckbffblecaaGreatLaw
import Derived.Deep.CutBlock
import Derived.Test.YtinnckbffblecaaGreatLimsMake
import Derived.Test.YtinnckbffblecaaGreatLimited
import Derived.Test.YtinnckbffblecaaGreatCmp

namespace Go.Proofs.YtinnckbffblecaaGreat
open Go.RowKit
set_option linter.unusedVariables false
set_option linter.unusedSimpArgs false

theorem left_eq {ls : List Lim} (hl : ∀ l ∈ ls, RLim' l) {p : List AskD} {τ t : Int} {cs : List Ctr} (hp : PastOk p τ) (h : RelL ls p τ cs) (ht : τ ≤ t) : leftRL ls p t = leftL ls cs t := by
  induction ls generalizing cs with
  | nil => cases cs with
    | nil => rfl
    | cons c cs => exact h.elim
  | cons l ls ih => cases cs with
    | nil => exact h.elim
    | cons c cs =>
      have h1 := rel_left (hl l (by simp)) hp h.1 ht
      have h2 := ih (fun x hx => hl x (by simp [hx])) h.2
      unfold leftRL leftL at *
      simp only [List.map_cons, List.zipWith_cons_cons, h1, h2]
theorem Both.left {ls : List Lim} (hl : ∀ l ∈ ls, RLim' l) {σ : List (ByteArray × List Ctr)} {π : List (ByteArray × List AskD)} {τ t : Int} (h : Both ls σ π τ) (ht : τ ≤ t) (who : ByteArray) : leftRL ls (curR π who) t = leftL ls (curC ls σ who) t :=
  left_eq hl (h.pastCur who) (h.rel who) ht

end Go.Proofs.YtinnckbffblecaaGreat

namespace Go.Proofs.YtinnckbffblecaaGreat
open Go.RowKit
set_option linter.unusedVariables false
set_option linter.unusedSimpArgs false

def fshC (ls : List Lim) (σ : List (ByteArray × List Ctr)) (t : Int) (who : ByteArray) : Bool := freshC ls (curC ls σ who) t
def fshR (ls : List Lim) (π : List (ByteArray × List AskD)) (t : Int) (who : ByteArray) : Bool := freshR ls (curR π who) t
theorem forgetC_key {ls : List Lim} {σ : List (ByteArray × List Ctr)} {t : Int} (h : (gkeys σ).Nodup) : forgetC ls σ t = σ.filter fun q => !fshC ls σ t q.1 := by
  unfold forgetC fshC
  apply List.filter_congr
  intro q hq
  unfold curC
  rw [gget_mem h (show (q.1, q.2) ∈ σ from hq)]
  rfl
theorem forgetR_key {ls : List Lim} {π : List (ByteArray × List AskD)} {t : Int} (h : (gkeys π).Nodup) : forgetR ls π t = π.filter fun q => !fshR ls π t q.1 := by
  unfold forgetR fshR
  apply List.filter_congr
  intro q hq
  unfold curR
  rw [gget_mem h (show (q.1, q.2) ∈ π from hq)]
  rfl
theorem gmap_keys {β γ : Type} (f : β → γ) (m : List (ByteArray × β)) : gkeys (gmap f m) = gkeys m := by
  unfold gmap gkeys
  rw [List.map_map]
  rfl
theorem gmap_filter {β γ : Type} (f : β → γ) (g : ByteArray → Bool) (m : List (ByteArray × β)) : gmap f (m.filter fun q => g q.1) = (gmap f m).filter fun q => g q.1 := by
  unfold gmap
  rw [List.filter_map]
  rfl
/-- what the law keeps of both meters -/
structure Joint (ls : List Lim) (σ : List (ByteArray × List Ctr)) (π : List (ByteArray × List AskD)) (τ : Int) : Prop where
  both : Both ls σ π τ
  pb : ∀ who p, gget π who = some p → PastB ls p
theorem Joint.inv {ls : List Lim} {σ : List (ByteArray × List Ctr)} {π : List (ByteArray × List AskD)} {τ : Int} (h : Joint ls σ π τ) : RInv ls π τ := ⟨⟨σ, h.both⟩, h.pb⟩
theorem Joint.start {ls : List Lim} (hl : ∀ l ∈ ls, RLim' l) : Joint ls [] [] 0 := ⟨Both.start hl, fun who p h => by simp [gget_nil] at h⟩
theorem Joint.later {ls : List Lim} (hl : ∀ l ∈ ls, RLim' l) {σ : List (ByteArray × List Ctr)} {π : List (ByteArray × List AskD)} {τ τ' : Int} (h : Joint ls σ π τ) (ht : τ ≤ τ') : Joint ls σ π τ' := ⟨h.both.later hl ht, h.pb⟩
theorem Joint.put {ls : List Lim} (hl : ∀ l ∈ ls, RLim' l) {σ : List (ByteArray × List Ctr)} {π : List (ByteArray × List AskD)} {τ : Int} (h : Joint ls σ π τ) {a : AskD} (ha : RAskD a) (ht : τ ≤ a.at_) : Joint ls (putC ls σ a) (putR ls π a) a.at_ :=
  ⟨h.both.put hl ht ha.cost.1 ha.long.1, (h.inv.step hl ha ht).pb⟩
theorem Joint.forget {ls : List Lim} (hl : ∀ l ∈ ls, RLim' l) {σ : List (ByteArray × List Ctr)} {π : List (ByteArray × List AskD)} {τ t : Int} (h : Joint ls σ π τ) (hσ : (gkeys σ).Nodup) (hπ : (gkeys π).Nodup) (ht : τ ≤ t) :
    Joint ls (forgetC ls σ t) (forgetR ls π t) t ∧ (forgetC ls σ t).length = (forgetR ls π t).length := by
  have hb := h.both.forget hl hσ hπ ht
  refine ⟨⟨hb, fun who p hg => ?_⟩, ?_⟩
  · unfold forgetR at hg
    rw [gget_filter hπ] at hg
    cases e : gget π who with
    | none => rw [e] at hg; cases hg
    | some q =>
      rw [e] at hg
      simp only [Option.bind_some] at hg
      split at hg
      · injection hg with hg; subst hg; exact h.pb who q e
      · cases hg
  · have := congrArg List.length hb.keys
    simpa [gkeys] using this

end Go.Proofs.YtinnckbffblecaaGreat

namespace Go.Proofs.YtinnckbffblecaaGreat
open Go.RowKit Go.MapKept
set_option linter.unusedVariables false
set_option linter.unusedSimpArgs false

def strOf : Value → ByteArray
  | .string s => s
  | _ => ⟨#[]⟩
def frK (fr : ByteArray → Bool) (e : MapEntry) : Bool := fr (strOf e.key)
theorem eraseIdx_filter {L : List MapEntry} (hn : (L.map (·.born)).Nodup) {j : Nat} {e : MapEntry} (hj : L[j]? = some e) : L.eraseIdx j = L.filter fun x => !(x.born == e.born) := by
  induction L generalizing j with
  | nil => cases hj
  | cons a L ih =>
    rw [List.map_cons, List.nodup_cons] at hn
    cases j with
    | zero =>
      injection hj with hj
      subst hj
      rw [List.filter_cons_of_neg (by simp), List.eraseIdx_cons_zero]
      symm
      rw [List.filter_eq_self]
      intro x hx
      simp only [Bool.not_eq_true', beq_eq_false_iff_ne]
      intro e
      exact hn.1 (List.mem_map.2 ⟨x, hx, e⟩)
    | succ j =>
      have hj' : L[j]? = some e := by simpa using hj
      have hne : ¬ a.born = e.born := fun e1 => hn.1 (List.mem_map.2 ⟨e, List.mem_of_getElem? hj', e1.symm⟩)
      rw [List.filter_cons_of_pos (by simpa using hne), List.eraseIdx_cons_succ, ih hn.2 hj']
theorem born_inj {L : List MapEntry} (hn : (L.map (·.born)).Nodup) {x y : MapEntry} (hx : x ∈ L) (hy : y ∈ L) (h : x.born = y.born) : x = y := by
  induction L with
  | nil => cases hx
  | cons a L ih =>
    rw [List.map_cons, List.nodup_cons] at hn
    rcases List.mem_cons.1 hx with hx1 | hx1 <;> rcases List.mem_cons.1 hy with hy1 | hy1
    · rw [hx1, hy1]
    · exact absurd (List.mem_map.2 ⟨y, hy1, by rw [← h, hx1]⟩) hn.1
    · exact absurd (List.mem_map.2 ⟨x, hx1, by rw [h, hy1]⟩) hn.1
    · exact ih hn.2 hx1 hy1
theorem key_inj {L : List MapEntry} (hn : (L.map (·.key)).Pairwise (· ≠ ·)) {x y : MapEntry} (hx : x ∈ L) (hy : y ∈ L) (h : x.key = y.key) : x = y := by
  induction L with
  | nil => cases hx
  | cons a L ih =>
    rw [List.map_cons, List.pairwise_cons] at hn
    rcases List.mem_cons.1 hx with hx1 | hx1 <;> rcases List.mem_cons.1 hy with hy1 | hy1
    · rw [hx1, hy1]
    · exact absurd (by rw [← hx1]; exact h) (hn.1 _ (List.mem_map.2 ⟨y, hy1, rfl⟩))
    · exact absurd (by rw [← hy1]; exact h.symm) (hn.1 _ (List.mem_map.2 ⟨x, hx1, rfl⟩))
    · exact ih hn.2 hx1 hy1

/-- the round's state: the entries that were seen and are to go have gone -/
structure SweepX (w : World) (it mb : Nat) (m : List (ByteArray × Value)) (fr : ByteArray → Bool) (es0 : Array MapEntry) (clock : Nat) (seen : Array Nat) (es : Array MapEntry) : Prop where
  iter : w.heap[it]? = some (.mapIter (some mb) clock seen clock)
  map : w.heap[mb]? = some (.map es clock)
  st : Stamped es0 clock
  rd : es0.toList.map (fun e => (e.key, e.val)) = m.map (fun p => (strKeys.enc p.1, p.2))
  eq : es.toList = es0.toList.filter fun e => !(seen.contains e.born && frK fr e)
theorem SweepX.sub {w : World} {it mb : Nat} {m : List (ByteArray × Value)} {fr : ByteArray → Bool} {es0 : Array MapEntry} {clock : Nat} {seen : Array Nat} {es : Array MapEntry} (h : SweepX w it mb m fr es0 clock seen es) : es.toList.Sublist es0.toList := by
  rw [h.eq]; exact List.filter_sublist
theorem SweepX.stamped {w : World} {it mb : Nat} {m : List (ByteArray × Value)} {fr : ByteArray → Bool} {es0 : Array MapEntry} {clock : Nat} {seen : Array Nat} {es : Array MapEntry} (h : SweepX w it mb m fr es0 clock seen es) : Stamped es clock :=
  ⟨fun x hx => h.st.1 x (h.sub.subset hx), h.st.2.1.sublist (h.sub.map _), h.st.2.2.sublist (h.sub.map _)⟩
def SweepAt (w : World) (it mb : Nat) (m : List (ByteArray × Value)) (fr : ByteArray → Bool) : Prop := mb ≠ it ∧ ∃ es0 clock seen es, SweepX w it mb m fr es0 clock seen es
structure SweepCurX (w : World) (it mb : Nat) (m : List (ByteArray × Value)) (fr : ByteArray → Bool) (p : ByteArray × Value) (n : Nat) (es0 : Array MapEntry) (clock : Nat) (seen : Array Nat) (es : Array MapEntry) (e : MapEntry) : Prop where
  iter : w.heap[it]? = some (.mapIter (some mb) clock (seen.push e.born) clock)
  map : w.heap[mb]? = some (.map es clock)
  st : Stamped es0 clock
  rd : es0.toList.map (fun e => (e.key, e.val)) = m.map (fun p => (strKeys.enc p.1, p.2))
  eq : es.toList = es0.toList.filter fun e => !(seen.contains e.born && frK fr e)
  mem : e ∈ es.toList
  key : e.key = .string p.1
  val : e.val = p.2
  less : (leftOf es (seen.push e.born)).size < n
def SweepCur (w : World) (it mb : Nat) (m : List (ByteArray × Value)) (fr : ByteArray → Bool) (p : ByteArray × Value) (n : Nat) : Prop := mb ≠ it ∧ ∃ es0 clock seen es e, SweepCurX w it mb m fr p n es0 clock seen es e
def sweepLeft (it : Nat) (w : World) : Nat := match w.heap[it]? with
  | some (.mapIter (some mb) _ seen _) => (match w.heap[mb]? with | some (.map es _) => (leftOf es seen).size | _ => 0)
  | _ => 0
theorem SweepX.left {w : World} {it mb : Nat} {m : List (ByteArray × Value)} {fr : ByteArray → Bool} {es0 : Array MapEntry} {clock : Nat} {seen : Array Nat} {es : Array MapEntry} (h : SweepX w it mb m fr es0 clock seen es) : sweepLeft it w = (leftOf es seen).size := by
  simp [sweepLeft, h.iter, h.map]

variable {P : Program} {w : World} {it mb : Nat} {m : List (ByteArray × Value)} {fr : ByteArray → Bool}
theorem SweepAt.mod {S : Nat → Prop} {w' : World} (h : SweepAt w it mb m fr) (hm : Mod S w w') (h1 : ¬ S it) (h2 : ¬ S mb) : SweepAt w' it mb m fr ∧ sweepLeft it w' = sweepLeft it w := by
  obtain ⟨hne, es0, clock, seen, es, h⟩ := h
  have h' : SweepX w' it mb m fr es0 clock seen es := ⟨(hm.block it (heap_lt h.iter) h1).trans h.iter, (hm.block mb (heap_lt h.map) h2).trans h.map, h.st, h.rd, h.eq⟩
  exact ⟨⟨hne, _, _, _, _, h'⟩, by rw [h'.left, h.left]⟩
theorem SweepCur.mod {S : Nat → Prop} {w' : World} {p : ByteArray × Value} {n : Nat} (h : SweepCur w it mb m fr p n) (hm : Mod S w w') (h1 : ¬ S it) (h2 : ¬ S mb) : SweepCur w' it mb m fr p n := by
  obtain ⟨hne, es0, clock, seen, es, e, h⟩ := h
  exact ⟨hne, es0, clock, seen, es, e, ⟨(hm.block it (heap_lt h.iter) h1).trans h.iter, (hm.block mb (heap_lt h.map) h2).trans h.map, h.st, h.rd, h.eq, h.mem, h.key, h.val, h.less⟩⟩
theorem SweepCur.entry {p : ByteArray × Value} {n : Nat} (h : SweepCur w it mb m fr p n) : (Instr.entry (.pointer (some ⟨it, 0, none⟩))).run P w = .ok (.tuple #[.string p.1, p.2]) w := by
  obtain ⟨hne, es0, clock, seen, es, e, h⟩ := h
  have hsub : es.toList.Sublist es0.toList := by rw [h.eq]; exact List.filter_sublist
  rw [run_entry_at w it mb clock seen es clock e h.iter h.map h.mem (h.st.2.1.sublist (hsub.map _)), h.key, h.val]
theorem sweep_start {t kt e : TypeId} (ht : P.underlying t = some (.map kt e)) (h : MapOf strKeys w mb m) (fr : ByteArray → Bool) :
    ∃ o, (Instr.range t (.map (some mb))).run P w = .ok (.pointer (some ⟨w.heap.size, 0, none⟩)) (w.alloc o) ∧ SweepAt (w.alloc o) w.heap.size mb m fr := by
  have hlt := h.lt
  obtain ⟨es, clock, hb, hs, he⟩ := h
  refine ⟨.mapIter (some mb) clock #[] clock, ?_, by omega, es, clock, #[], es, ?_⟩
  · simp [Instr.range, run_underlying ht, MapKept.run_getObj_map hb, Result.andThen]
  · refine ⟨heap_alloc_new w _, ?_, hs, he, ?_⟩
    · rw [heap_alloc_old w _ (by omega)]; exact hb
    · rw [List.filter_eq_self.2]
      intro x hx
      simp
theorem sweep_next (h : SweepAt w it mb m fr) :
    (MapOf strKeys w mb (m.filter fun p => !fr p.1) ∧ ∀ ty, (Instr.next (.pointer (some ⟨it, 0, none⟩)) false ty).run P w = .ok (.tuple #[.bool false]) w) ∨
    ∃ p ∈ m, ∃ wn, (∀ ty, (Instr.next (.pointer (some ⟨it, 0, none⟩)) false ty).run P w = .ok (.tuple #[.bool true, .string p.1, p.2]) wn) ∧ Only it w wn ∧ SweepCur wn it mb m fr p (sweepLeft it w) := by
  obtain ⟨hne, es0, clock, seen, es, h⟩ := h
  rcases run_next_at (P := P) w 0 it mb clock clock seen es clock h.iter h.map (fun x hx => h.st.1 x (h.sub.subset hx)) (Nat.le_refl _) with ⟨h0, h1⟩ | ⟨e, he, w1, hw, h1⟩
  · refine .inl ⟨⟨es, clock, h.map, h.stamped, ?_⟩, fun ty => h1⟩
    have hnil : ∀ x ∈ es.toList, seen.contains x.born = true := by
      have h2 : (leftOf es seen).toList = [] := by simpa using h0
      simp only [leftOf, Array.toList_filter, List.filter_eq_nil_iff] at h2
      intro x hx
      have := h2 x hx
      simpa using this
    have heq : es.toList = es0.toList.filter fun e => !(frK fr e) := by
      rw [h.eq]
      apply List.filter_congr
      intro x hx
      rw [Bool.eq_iff_iff]
      constructor
      · intro h3
        have hxm : x ∈ es.toList := by rw [h.eq]; exact List.mem_filter.2 ⟨hx, h3⟩
        rw [hnil x hxm] at h3
        simpa using h3
      · intro h3
        have : frK fr x = false := by simpa using h3
        simp [this]
    rw [heq]
    have e1 : (es0.toList.filter fun e => !(frK fr e)).map (fun e => (e.key, e.val)) = (es0.toList.map (fun e => (e.key, e.val))).filter fun kv => !(fr (strOf kv.1)) := by
      rw [List.filter_map]; rfl
    have e2 : (m.filter fun p => !fr p.1).map (fun p => (strKeys.enc p.1, p.2)) = (m.map (fun p => (strKeys.enc p.1, p.2))).filter fun kv => !(fr (strOf kv.1)) := by
      rw [List.filter_map]; rfl
    rw [e1, e2, h.rd]
  · have hem : e ∈ es.toList := by simp [leftOf] at he ⊢; exact he.1
    have hm0 : (e.key, e.val) ∈ m.map (fun p => (strKeys.enc p.1, p.2)) := by rw [← h.rd]; exact List.mem_map.2 ⟨e, h.sub.subset hem, rfl⟩
    obtain ⟨p, hp, hpe⟩ := List.mem_map.1 hm0
    injection hpe with hk hv
    have hk' : e.key = .string p.1 := hk.symm
    have hlt := heap_lt h.iter
    have hless : (leftOf es (seen.push e.born)).size < (leftOf es seen).size := by
      rw [← Array.length_toList, ← Array.length_toList]
      have e3 : (leftOf es (seen.push e.born)).toList = (leftOf es seen).toList.filter fun x => !(x.born == e.born) := by
        simp only [leftOf, Array.toList_filter, List.filter_filter]
        apply List.filter_congr
        intro x hx
        rw [Bool.eq_iff_iff]
        simp
        constructor
        · rintro ⟨h1, h2⟩; exact ⟨h2, h1⟩
        · rintro ⟨h1, h2⟩; exact ⟨h2, h1⟩
      rw [e3]
      exact List.length_filter_lt_length_iff_exists.2 ⟨e, he, by simp⟩
    refine .inr ⟨p, hp, _, fun ty => by have h2 := h1; rw [hk', ← hv] at h2; exact h2, ?_, hne, es0, clock, seen, es, e, ⟨?_, ?_, h.st, h.rd, h.eq, hem, hk', hv.symm, by rw [h.left]; exact hless⟩⟩
    · rcases hw with rfl | rfl
      · exact Mod.setBlock _
      · exact (Mod.refl _ w).drew.trans (Mod.setBlock _)
    · rcases hw with rfl | rfl <;> simp [ChangeMaps.setBlock, hlt]
    · rcases hw with rfl | rfl <;> simp only [ChangeMaps.setBlock, Array.getElem?_setIfInBounds_ne (Ne.symm hne)] <;> exact h.map
theorem SweepCurX.inj {p : ByteArray × Value} {n : Nat} {es0 : Array MapEntry} {clock : Nat} {seen : Array Nat} {es : Array MapEntry} {e : MapEntry} (h : SweepCurX w it mb m fr p n es0 clock seen es e) : ∀ x ∈ es0.toList, (seen.push e.born).contains x.born = (seen.contains x.born || (x.born == e.born)) ∧ (x.born = e.born → frK fr x = fr p.1) := by
  intro x hx
  refine ⟨?_, fun hb => ?_⟩
  · rw [Bool.eq_iff_iff]; simp
  · have hsub : es.toList.Sublist es0.toList := by rw [h.eq]; exact List.filter_sublist
    obtain rfl := born_inj h.st.2.1 hx (hsub.subset h.mem) hb
    unfold frK
    rw [h.key]; rfl
theorem SweepCur.keep {p : ByteArray × Value} {n : Nat} (h : SweepCur w it mb m fr p n) (hf : fr p.1 = false) : SweepAt w it mb m fr ∧ sweepLeft it w < n := by
  obtain ⟨hne, es0, clock, seen, es, e, h⟩ := h
  have h' : SweepX w it mb m fr es0 clock (seen.push e.born) es := ⟨h.iter, h.map, h.st, h.rd, by
    rw [h.eq]
    apply List.filter_congr
    intro x hx
    obtain ⟨i1, i2⟩ := h.inj x hx
    rw [i1]
    by_cases hb : x.born = e.born
    · rw [i2 hb, hf]; simp
    · have hb' : (x.born == e.born) = false := by simpa using hb
      simp [hb']⟩
  exact ⟨⟨hne, _, _, _, _, h'⟩, by rw [h'.left]; exact h.less⟩
theorem SweepCur.drop {p : ByteArray × Value} {n : Nat} (h : SweepCur w it mb m fr p n) (hf : fr p.1 = true) {t kt e : TypeId} (ht : P.underlying t = some (.map kt e)) (hk : P.underlying kt = some .string) :
    ∃ w', (∀ ty, (Builtin.delete_ #[t, kt] ty #[.map (some mb), .string p.1]).run P w = .ok (.tuple #[]) w') ∧ SweepAt w' it mb m fr ∧ sweepLeft it w' < n ∧ Only mb w w' ∧ w'.heap.size = w.heap.size := by
  obtain ⟨hne, es0, clock, seen, es, e, h⟩ := h
  have hsub : es.toList.Sublist es0.toList := by rw [h.eq]; exact List.filter_sublist
  have hst : Stamped es clock := ⟨fun x hx => h.st.1 x (hsub.subset hx), h.st.2.1.sublist (hsub.map _), h.st.2.2.sublist (hsub.map _)⟩
  have hkeys : ∀ x ∈ es.toList, IsKey strKeys.desc x.key := fun x hx => MapOf.keys (K := strKeys) h.rd x (hsub.subset hx)
  rcases findNow_spec (strKeys.isKey p.1) es.toList 0 hkeys with ⟨h1, h2⟩ | ⟨j, e0, h1, h2, h3⟩
  · exact absurd h.key (h2 e h.mem)
  · obtain rfl : e0 = e := key_inj hst.2.2 (List.mem_of_getElem? h2) h.mem (by rw [h.key]; exact h3)
    have hjs : j < es.size := by
      have := (List.getElem?_eq_some_iff.1 h2).1
      simpa using this
    have hsub2 : (es.eraseIdxIfInBounds j).toList = es.toList.filter fun x => !(x.born == e0.born) := by
      rw [← eraseIdx_filter hst.2.1 h2]
      unfold Array.eraseIdxIfInBounds
      rw [dif_pos hjs]
      simp
    have hjj : (0 + j : Nat) = j := by omega
    have hk' : P.underlying kt = some strKeys.desc := hk
    refine ⟨{ w with heap := w.heap.setIfInBounds mb (.map (es.eraseIdxIfInBounds j) clock) }, fun ty => ?_, ?_⟩
    · have hc := MapKept.run_checkKey (P := P) (w := w) hk' (strKeys.isKey p.1)
      have hf2 := MapKept.run_findKey (P := P) (w := w) hk' h1
      change (Builtin.delete_ #[t, kt] ty #[.map (some mb), strKeys.enc p.1]).run P w = _
      simp [Builtin.delete_, run_underlying ht, MapKept.run_getObj_map h.map, hc, hf2, MapKept.run_setObj_map _ h.map, Result.andThen]
    · have h' : SweepX { w with heap := w.heap.setIfInBounds mb (.map (es.eraseIdxIfInBounds j) clock) } it mb m fr es0 clock (seen.push e0.born) (es.eraseIdxIfInBounds j) := ⟨by
          show (w.heap.setIfInBounds mb _)[it]? = _
          rw [Array.getElem?_setIfInBounds_ne hne]; exact h.iter, (heap_set h.map).1, h.st, h.rd, by
          rw [hsub2, h.eq, List.filter_filter]
          apply List.filter_congr
          intro x hx
          obtain ⟨i1, i2⟩ := h.inj x hx
          rw [i1]
          by_cases hb : x.born = e0.born
          · rw [i2 hb, hf]; simp [hb]
          · have hb' : (x.born == e0.born) = false := by simpa using hb
            simp [hb']⟩
      refine ⟨⟨hne, _, _, _, _, h'⟩, ?_, Mod.setBlock _, by simp⟩
      rw [h'.left]
      have hle : (leftOf (es.eraseIdxIfInBounds j) (seen.push e0.born)).size ≤ (leftOf es (seen.push e0.born)).size := by
        rw [← Array.length_toList, ← Array.length_toList]
        simp only [leftOf, Array.toList_filter, hsub2]
        exact (List.Sublist.filter _ List.filter_sublist).length_le
      have := h.less
      omega
theorem wpList_sweepDrop {ops : Array Oper} {rest : List Oper} {o : Oper} {a : Act} {Q : Exit → Act → World → Prop} {p : ByteArray × Value} {n : Nat} (hg : o.guard = none) (mo x : Operand) (t kt : TypeId) (hop : o.op = Op.call { callee := Callee.builtin Builtin.delete, args := #[mo, x], argTypes := #[t, kt] })
    {e : TypeId} (ht : P.underlying t = some (.map kt e)) (hk : P.underlying kt = some .string) (hm : a.eval mo = .map (some mb)) (h : SweepCur w it mb m fr p n) (hf : fr p.1 = true) (hx : a.eval x = .string p.1)
    (hK : ∀ w', SweepAt w' it mb m fr → sweepLeft it w' < n → Only mb w w' → w'.heap.size = w.heap.size → wpList P ops Q rest (a.put o.dst (.tuple #[])) w') : wpList P ops Q (o :: rest) a w := by
  refine wpList_plain hg fun K' hK' => ?_
  obtain ⟨w', hrun, r1, r2, r3, r4⟩ := h.drop hf ht hk
  unfold Oper.wp
  simp [execOp, hop, resolve, invoke, builtin, hm, hx, hrun, Result.andThen]
  exact hK' _ _ (hK w' r1 r2 r3 r4)

end Go.Proofs.YtinnckbffblecaaGreat

namespace Go.Proofs.YtinnckbffblecaaGreat
open Go.RowKit Go.MapKept
set_option linter.unusedVariables false
set_option linter.unusedSimpArgs false

def anyB (b : Nat → Bool) (n : Nat) : Bool := (List.range n).any b
theorem anyB_hit {b : Nat → Bool} {n k : Nat} (hk : k < n) (h : b k = true) : anyB b n = true := by
  unfold anyB
  rw [List.any_eq_true]
  exact ⟨k, by simpa using hk, h⟩
theorem anyB_none {b : Nat → Bool} {n : Nat} (h : ∀ i, i < n → b i = false) : anyB b n = false := by
  unfold anyB
  rw [List.any_eq_false]
  intro i hi
  simp [h i (by simpa using hi)]
/-- a closure that answers as b does, whatever has been laid since -/
def CtrPred (w : World) (F : Nat) (cp : Value) (ds : List CtrD) (b : Nat → Bool) : Prop :=
  ∀ i (h : i < ds.length) W, New w W → Calls Tryz.prog F #[ds[i].val, cp] W fun e w' => e = .returned (.bool (b i)) ∧ New W w'

set_option maxHeartbeats 1000000 in
theorem indexFunc_ctrs (F : Nat) (cp : Value) (eg : ∀ args w, (callFunc F args).run Tryz.prog w = .ok (.enter F args) w) (w : World) (A : Option Addr) (n c : Nat) (ds : List CtrD) (hs : Sl w 118 1 valEnc A n (ds.map CtrD.val)) (b : Nat → Bool) (hF : CtrPred w F cp ds b) (hn : n ≤ 1000000) :
    Calls Tryz.prog 85 #[.slice A n c, .func (.func F) #[] #[cp]] w fun e w' => ∃ r : Int, e = .returned (.int .i64 r) ∧ decide (0 ≤ r) = anyB b n ∧ New w w' := by
  have hlen : ds.length = n := by have := hs.1; simpa using this
  have HS := Lib.hid hs
  have HF := Lib.hid hF
  clear hs hF
  go_enter Tryz.func85, Tryz.ntmps85
  go_wp2_with fail
  go_loopw [5, 8] (fun _ i wr => ∃ k : Nat, k ≤ n ∧ i = .int .i64 k ∧ New w wr ∧ Hid (∀ j, j < k → b j = false)) (fun _ i _ => n - (intOf i).toNat)
  case atStart => exact ⟨0, Nat.zero_le _, rfl, Mod.refl _ _, Lib.hid (fun j hj => absurd hj (by omega))⟩
  case round =>
    rename World => wr
    obtain ⟨k, hk, rfl, hm, HA⟩ := hrel
    by_cases hlt : k < n
    · obtain ⟨g, o, hA, hg, hc⟩ := (HS.out.new hm).2 (by omega)
      subst hA
      have ck := hc k (by simpa using (by omega : k < ds.length)) 0 (by omega)
      simp only [List.getElem_map, Nat.add_zero, Nat.mul_one, valEnc] at ck
      have hcall := HF.out k (by omega) wr hm
      have hgl := hg.lt
      have hb1 : (0 : Int) ≤ k := by omega
      have hb2 : (k : Int) < n := by omega
      clear hc
      generalize ds[k]'(by omega) = d at *
      obtain ⟨T, g1, A1, n1, cp1, c1⟩ := d
      simp only [CtrD.val] at *
      cases hq : b k with
      | true =>
        rw [hq] at hcall
        have HQ := Lib.hid hq
        clear hq
        go_wp2_with (refine hcall.mono ?_; clear hcall; rintro e w' ⟨rfl, hm1⟩)
        go_ret
        exact ⟨(k : Int), rfl, by rw [anyB_hit hlt HQ.out]; simp, hm.trans hm1⟩
      | false =>
        rw [hq] at hcall
        have HQ := Lib.hid hq
        clear hq
        go_wp2_with (refine hcall.mono ?_; clear hcall; rintro e w' ⟨rfl, hm1⟩)
        refine ⟨⟨k + 1, by omega, by go_num, hm.trans hm1, Lib.hid (fun j hj => ?_)⟩, by simp [intOf]; omega⟩
        by_cases e : j = k
        · subst e; exact HQ.out
        · exact HA.out j (by omega)
    · obtain rfl : k = n := by omega
      go_wp2_with fail
      go_ret
      exact ⟨-1, rfl, by rw [anyB_none HA.out]; rfl, hm⟩

set_option maxHeartbeats 1000000 in
theorem containsFunc_ctrs (F : Nat) (cp : Value) (eg : ∀ args w, (callFunc F args).run Tryz.prog w = .ok (.enter F args) w) (w : World) (A : Option Addr) (n c : Nat) (ds : List CtrD) (hs : Sl w 118 1 valEnc A n (ds.map CtrD.val)) (b : Nat → Bool) (hF : CtrPred w F cp ds b) (hn : n ≤ 1000000) :
    Calls Tryz.prog 66 #[.slice A n c, .func (.func F) #[] #[cp]] w fun e w' => e = .returned (.bool (anyB b n)) ∧ New w w' := by
  have hif := indexFunc_ctrs F cp eg w A n c ds hs b hF hn
  clear hs hF eg
  generalize anyB b n = X at *
  go_enter Tryz.func66, Tryz.ntmps66
  go_wp2_with (refine hif.mono ?_; clear hif; rintro e w' ⟨r, rfl, hr, hm⟩)
  go_ret
  exact ⟨rfl, hm⟩

theorem enters_forget (args : Array Value) (w : World) : (callFunc 67 args).run Tryz.prog w = .ok (.enter 67 args) w := by go_simp
theorem forget_idle (l : Lim) (d : CtrD) (w : World) (B ga : Nat) (h : d.At w B l) (hl : RLim' l) {τ t : Int} {k : Nat} (hk : CtrOk l τ k d.c) (hkn : k ≤ 1000000) (ht : τ ≤ t) (h0 : 0 ≤ t) (h1 : t ≤ 1000000000000) (hga : Blk w ga 3 #[.int .i64 t]) :
    Calls Tryz.prog 67 #[d.val, .pointer (some ⟨ga, 0, none⟩)] w fun e w' => e = .returned (.bool (!idleC l d.c t)) ∧ New w w' := by
  obtain ⟨fm, mm, hcall⟩ := ctr_idle l d w B h hl hk hkn ht h0 h1
  obtain ⟨mm1, mm2, mm3⟩ := mm
  have hcall := hcall w (Mod.refl _ _)
  have ca := hga.cell 0
  simp at ca
  have hgl := hga.lt
  clear hga hk h
  generalize idleC l d.c t = X at *
  obtain ⟨T, g1, A1, n1, cp1, c1⟩ := d
  simp only [CtrD.val] at *
  go_enter Tryz.func67, Tryz.ntmps67
  go_wp2_with fail
  refine hcall.mono ?_
  clear hcall mm1 mm2 mm3
  rintro e w5 ⟨rfl, hm5⟩
  go_wp2_with fail
  go_ret
  exact ⟨rfl, hm5⟩

theorem any_fresh {ls : List Lim} {ds : List CtrD} {t : Int} (h : ds.length = ls.length) (b : Nat → Bool) (hb : ∀ i (h1 : i < ls.length) (h2 : i < ds.length), b i = !idleC ls[i] ds[i].c t) : anyB b ls.length = !freshC ls (ds.map CtrD.c) t := by
  cases hf : freshC ls (ds.map CtrD.c) t with
  | true =>
    unfold freshC at hf
    rw [List.all_eq_true] at hf
    refine anyB_none fun i hi => ?_
    rw [hb i hi (by omega)]
    have := hf (idleC ls[i] (ds[i]'(by omega)).c t) (List.mem_iff_getElem.2 ⟨i, by simp; omega, by simp⟩)
    simp only [id] at this
    rw [this]; rfl
  | false =>
    unfold freshC at hf
    rw [List.all_eq_false] at hf
    obtain ⟨x, hx, hx2⟩ := hf
    obtain ⟨i, hi, rfl⟩ := List.getElem_of_mem hx
    have hi1 : i < ls.length := by simp at hi; omega
    refine anyB_hit hi1 ?_
    rw [hb i hi1 (by omega)]
    simp only [List.getElem_zipWith, List.getElem_map, id] at hx2
    simpa using hx2

def forF (now t : Int) : Int := if isMoment t then (if t < now then 7 else 0) else 1
def RForget (w : World) (B gm mb : Nat) (Al : Option Addr) (cl : Nat) (ls : List Lim) (now : Int) (σ : List (ByteArray × SubD)) (t : Int) (e : Ending) (w' : World) : Prop :=
  (forF now t ≠ 0 ∧ e = .returned (.tuple #[.int .i64 0, .int .i64 (forF now t)]) ∧ New w w') ∨
  (forF now t = 0 ∧ ∃ σ', e = .returned (.tuple #[.int .i64 (σ'.length : Int), .int .i64 0]) ∧ pureS σ' = forgetC ls (pureS σ) t ∧ (∀ who s, gget σ' who = some s → gget σ who = some s) ∧ σ'.length ≤ σ.length ∧ MeterAt w' B gm mb Al cl ls t σ' ∧ Mod (fun x => x = gm ∨ x = mb) w w')

theorem meter_nodup {w : World} {B gm mb : Nat} {Al : Option Addr} {cl : Nat} {ls : List Lim} {now : Int} {σ : List (ByteArray × SubD)} (h : MeterAt w B gm mb Al cl ls now σ) : (gkeys σ).Nodup := by
  obtain ⟨es, clock, _, hs, he⟩ := h.map
  have := MapOf.nodup hs he
  rw [List.map_map] at this
  exact this

set_option maxRecDepth 100000 in
set_option maxHeartbeats 2000000 in
theorem meter_forget (gm mb B : Nat) (Al : Option Addr) (cl : Nat) (ls : List Lim) (now : Int) (σ : List (ByteArray × SubD)) (k : Nat) (t : Int) (w : World)
    (hM : MeterAt w B gm mb Al cl ls now σ) (hR : ∀ l ∈ ls, RLim' l) (hok : ∀ who s, gget σ who = some s → CtrsOk ls now k s.ds) (hk : k ≤ 1000) (hnow : 0 ≤ now) (hn : ls.length ≤ 1000) :
    Calls Tryz.prog 35 #[.pointer (some ⟨gm, 0, none⟩), .int .i64 t] w (RForget w B gm mb Al cl ls now σ t) := by
  have hgml := hM.blk.lt
  cases hm : isMoment t with
  | false =>
    have HF : Hid (forF now t = 1) := Lib.hid (by unfold forF; simp [hm])
    go_enter Tryz.func35, Tryz.ntmps35
    go_wp2_with fail
    refine (kit_isMoment _ _).mono ?_
    rintro e w1 ⟨rfl, rfl⟩
    go_wp2_with fail
    go_ret2
    exact .inl ⟨by rw [HF.out]; decide, by rw [HF.out]; rfl, (by with_reducible (repeat (first | exact Mod.refl _ _ | refine Mod.drewN ?_ _ | refine Mod.drew ?_ | refine Mod.alloc ?_ _)))⟩
  | true =>
    have hmt : 0 ≤ t ∧ t < 345686400000 := by unfold isMoment at hm; simpa using hm
    have hA0 : New w (w.alloc (.cells #[.int .i64 t] 3)) := (by with_reducible (repeat (first | exact Mod.refl _ _ | refine Mod.drewN ?_ _ | refine Mod.drew ?_ | refine Mod.alloc ?_ _)))
    have hM0 := hM.new hA0
    have bt := Blk.new w 3 #[.int .i64 t]
    by_cases hlt : t < now
    · have HF : Hid (forF now t = 7) := Lib.hid (by unfold forF; simp [hm, hlt])
      have htf := meter_timeFault2 gm _ _ now t (w.alloc (.cells #[.int .i64 t] 3)) hM0.blk hlt
      go_enter Tryz.func35, Tryz.ntmps35
      go_wp2_with fail
      refine (kit_isMoment _ _).mono ?_
      rintro e w1 ⟨rfl, rfl⟩
      go_wp2_with fail
      refine htf.mono ?_
      clear htf
      rintro e w1 ⟨rfl, rfl⟩
      go_wp2_with fail
      go_ret2
      exact .inl ⟨by rw [HF.out]; decide, by rw [HF.out]; rfl, hA0⟩
    · have HF : Hid (forF now t = 0) := Lib.hid (by unfold forF; simp [hm, hlt])
      have htf := meter_timeFault gm _ _ now t (w.alloc (.cells #[.int .i64 t] 3)) hM0.blk (by omega)
      have HA0 := Lib.hid hA0
      have HM0 := Lib.hid hM0
      have HBT := Lib.hid bt
      have HR := Lib.hid hR
      have HOK := Lib.hid hok
      have hND := meter_nodup hM
      have HND := Lib.hid hND
      clear hA0 hM0 bt hR hok hM hm hND
      go_enter Tryz.func35, Tryz.ntmps35
      go_wp2_with fail
      refine (kit_isMoment _ _).mono ?_
      rintro e w1 ⟨rfl, rfl⟩
      have hmt' : isMoment t = true := by unfold isMoment; simpa using hmt
      generalize w.alloc (.cells #[.int .i64 t] 3) = w0 at *
      have c1 := HM0.out.blk.cell 1
      have c2 := HM0.out.blk.cell 2
      have fg := HM0.out.blk.frozen 1
      have hg0 := HM0.out.blk.lt
      have ct := HBT.out.cell 0
      have htl := HBT.out.lt
      simp at c1 c2 ct
      go_wp2_with fail
      refine htf.mono ?_
      clear htf
      rintro e w1 ⟨rfl, rfl⟩
      go_upto_region 7 with (fail)
      have hM1 := HM0.out.setNow t
      have bt1 := HBT.out.mod (Mod.setCell (S := fun k => k = gm) (p := ⟨gm, 1, none⟩) (Mod.refl _ w0) (.inl rfl) (.int .i64 t)) (fun e => by have := HM0.out.blk.tb.ne HBT.out.tb (by decide); omega)
      have hO1 : Only gm w0 (w0.setCell ⟨gm, 1, none⟩ (.int .i64 t)) := Mod.setCell (S := fun k => k = gm) (p := ⟨gm, 1, none⟩) (Mod.refl _ _) (.inl rfl) _
      generalize w0.setCell ⟨gm, 1, none⟩ (.int .i64 t) = w1 at *
      have HM1 := Lib.hid hM1
      have HBT1 := Lib.hid bt1
      have HO1 := Lib.hid hO1
      clear c1 c2 fg hg0 ct htl hM1 bt1 hO1
      have c2 := HM1.out.blk.cell 2
      have hg1 := HM1.out.blk.lt
      simp at c2
      obtain ⟨o, hrange, hsw⟩ := sweep_start (P := Tryz.prog) Tryz.underlying111 HM1.out.map (fshC ls (pureS σ) t)
      have HSW := Lib.hid hsw
      clear hsw
      go_wp2_with fail
      clear hrange
      have hmb1 := HM1.out.map.lt
      have hgmb : gm ≠ mb := fun e => HM1.out.map.ne_blk HM1.out.blk.tb e
      go_loopw [7, 8] (fun _ _ wr => SweepAt wr w1.heap.size mb (σ.map fun p => (p.1, p.2.val ls.length)) (fshC ls (pureS σ) t) ∧ Only mb w1 wr) (fun _ _ wr => sweepLeft w1.heap.size wr)
      case atStart => exact ⟨HSW.out, (Mod.refl _ _).alloc _⟩
      case round =>
        rename_i wr
        obtain ⟨hswr, hor⟩ := hrel
        have HOR := Lib.hid hor
        rcases sweep_next (P := Tryz.prog) hswr with ⟨hmap, hn⟩ | ⟨p, hp, wn, hn, hon, hcur⟩
        · have hmap' : MapOf strKeys wr mb ((σ.filter fun q => !fshC ls (pureS σ) t q.1).map fun p => (p.1, p.2.val ls.length)) := by
            rw [List.filter_map] at hmap
            exact hmap
          have hlm := fun ty => run_len_map (P := Tryz.prog) 111 ty Tryz.underlying111 hmap'
          simp only [List.length_map] at hlm
          have b1 := HM1.out.blk.mod hor hgmb
          have d2 := b1.cell 2
          have hgr := b1.lt
          simp at d2
          have HMAP := Lib.hid hmap'
          have HB1 := Lib.hid b1
          clear hmap hmap' hswr hor b1
          go_wp2_with fail
          go_ret2
          refine .inr ⟨HF.out, σ.filter fun q => !fshC ls (pureS σ) t q.1, rfl, ?_, ?_, List.length_filter_le _ _, ?_, ?_⟩
          · have h1 := gmap_filter (fun s : SubD => s.ds.map CtrD.c) (fun who => !fshC ls (pureS σ) t who) σ
            rw [forgetC_key (by unfold pureS; rw [gmap_keys]; exact HND.out)]
            exact h1
          · intro who s hg
            rw [gget_filter HND.out] at hg
            cases e : gget σ who with
            | none => rw [e] at hg; cases hg
            | some q =>
              rw [e] at hg
              simp only [Option.bind_some] at hg
              split at hg
              · exact hg
              · cases hg
          · have hsub : ∀ who s, gget (σ.filter fun q => !fshC ls (pureS σ) t q.1) who = some s → gget σ who = some s := fun who s hg => by
              rw [gget_filter HND.out] at hg
              cases e : gget σ who with
              | none => rw [e] at hg; cases hg
              | some q =>
                rw [e] at hg
                simp only [Option.bind_some] at hg
                split at hg
                · exact hg
                · cases hg
            have hfar : ∀ x, SF σ x → ¬ x = mb := fun x hx e => by
              obtain ⟨_, T, _, ht⟩ := SF.tb HM1.out hx
              exact HM1.out.map.ne_blk ht e
            exact ⟨HM1.out.b0, HB1.out, HM1.out.lims.mod HOR.out (fun x hx e => by
                rcases HM1.out.lims.blk with ⟨h1, _⟩ | ⟨g', h1, _, ht⟩
                · rw [h1] at hx; cases hx
                · rw [h1] at hx; injection hx with hx; simp only at hx; subst hx; exact HM1.out.map.ne_blk ht e), HMAP.out, fun who s hg => (HM1.out.subs who s (hsub who s hg)).mod HOR.out (fun x hx => hfar x ⟨who, s, hsub who s hg, hx⟩), fun a b s s' hab h1 h2 => HM1.out.apart a b s s' hab (hsub a s h1) (hsub b s' h2)⟩
          · refine ((HA0.out.mono (fun _ _ e => e.elim)).step HO1.out (fun i _ e => .inl e)).step HOR.out (fun i _ e => .inr e)
        · obtain ⟨⟨who, s⟩, hq, hpe⟩ := List.mem_map.1 hp
          subst hpe
          have hgs := gget_mem HND.out hq
          have hnd2 : Only mb w1 wn := hor.step hon (fun i hi e => by omega)
          have hsu := (HM1.out.subs who s hgs).mod hnd2 (fun x hx e => by
            obtain ⟨_, T, _, ht⟩ := SF.tb HM1.out ⟨who, s, hgs, hx⟩
            exact HM1.out.map.ne_blk ht e)
          have hcc : fshC ls (pureS σ) t who = freshC ls (s.ds.map CtrD.c) t := by
            unfold fshC
            rw [curC_pure, hgs]; rfl
          have hcok := HOK.out who s hgs
          have hbtn := HBT1.out.mod hnd2 (fun e => HM1.out.map.ne_blk HBT1.out.tb e)
          have hcf := containsFunc_ctrs 67 (.pointer (some ⟨w.heap.size, 0, none⟩)) enters_forget wn s.A ls.length s.cp s.ds hsu.own.sl (fun i => if h1 : i < ls.length then (if h2 : i < s.ds.length then !idleC ls[i] s.ds[i].c t else false) else false) (fun i hi W hW => by
            have hi1 : i < ls.length := by have := hsu.ctrs.len; omega
            simp only [dif_pos hi1, dif_pos hi]
            exact forget_idle ls[i] s.ds[i] W B w.heap.size ((hsu.ctrs.each i hi1 hi).new hW) (HR.out _ (List.getElem_mem hi1)) (hcok i hi1 hi) (by omega) (by omega) hmt.1 (by omega) (hbtn.new'' hW)) (by omega)
          rw [any_fresh (t := t) hsu.ctrs.len _ (fun i h1 h2 => by simp only [dif_pos h1, dif_pos h2]), ← hcc] at hcf
          have hent := hcur.entry (P := Tryz.prog)
          have HCUR := Lib.hid hcur
          have HN2 := Lib.hid hnd2
          simp only [SubD.val] at hn hent
          have hmf : ∀ W, (Instr.makeFunc (Fn.func 67) #[] #[.pointer (some ⟨w.heap.size, 0, none⟩)]).run Tryz.prog W = .ok (.func (.func 67) #[] #[.pointer (some ⟨w.heap.size, 0, none⟩)]) W := fun W => by first | rfl | simp [Instr.makeFunc]
          clear hcur hcok hsu hcc hbtn hswr
          cases hfr : fshC ls (pureS σ) t who with
          | true =>
            have HFR := Lib.hid hfr
            rw [hfr] at hcf
            clear hfr
            go_wp2_with fail
            refine hcf.mono ?_
            clear hcf
            rintro e w5 ⟨rfl, m5⟩
            have hc5 := HCUR.out.mod m5 (fun e => e) (fun e => e)
            have b5 := (HM1.out.blk.mod HN2.out hgmb).mod m5 (fun e => e)
            have d2 := b5.cell 2
            have hgr := b5.lt
            simp at d2
            have HN5 : Hid (Only mb w1 w5) := Lib.hid (HN2.out.step m5 (fun i _ e => e.elim))
            clear b5
            go_wp2_with (at_delete; refine wpList_sweepDrop rfl _ _ _ _ rfl Tryz.underlying111 Tryz.underlying9 rfl hc5 HFR.out rfl ?_; intro w6 hs6 hl6 ho6 hz6)
            exact ⟨⟨_, _, _, _, _, _, _, _, _, _, _, _, _, _, _, _, ⟨hs6, HN5.out.trans ho6⟩, rfl⟩, hl6⟩
          | false =>
            have HFR := Lib.hid hfr
            rw [hfr] at hcf
            clear hfr
            go_wp2_with fail
            refine hcf.mono ?_
            clear hcf
            rintro e w5 ⟨rfl, m5⟩
            have hc5 := HCUR.out.mod m5 (fun e => e) (fun e => e)
            have HN5 : Hid (Only mb w1 w5) := Lib.hid (HN2.out.step m5 (fun i _ e => e.elim))
            obtain ⟨hs6, hl6⟩ := hc5.keep HFR.out
            clear hc5
            go_wp2_with fail
            exact ⟨⟨hs6, HN5.out⟩, hl6⟩

end Go.Proofs.YtinnckbffblecaaGreat

namespace Go.Proofs.YtinnckbffblecaaGreat
open Go.RowKit Go.MapKept
set_option linter.unusedVariables false
set_option linter.unusedSimpArgs false


def RAskR (w : World) (B gc mb : Nat) (Al : Option Addr) (cl : Nat) (ls : List Lim) (now : Int) (π : List (ByteArray × PastD)) (a : AskD) (e : Ending) (w' : World) : Prop :=
  (askE now a ≠ 0 ∧ e = .returned (.tuple #[vdz.val, .int .i64 (askE now a)]) ∧ New w w') ∨
  (askE now a = 0 ∧ ∃ π', e = .returned (.tuple #[(verdR ls (curR (pureR π) a.who) a vd0).val, .int .i64 0]) ∧ pureR π' = putR ls (pureR π) a ∧ CounterAt w' B gc mb Al cl ls a.at_ π' ∧ π'.length ≤ π.length + 1 ∧
    (∀ n, (∀ who s, gget π who = some s → s.p.length ≤ n) → ∀ who s, gget π' who = some s → s.p.length ≤ n + 1) ∧ Mod (fun x => x = gc ∨ x = mb ∨ blkOf (curD π a.who).A = some x) w w')

set_option maxRecDepth 100000 in
set_option maxHeartbeats 4000000 in
theorem counter_ask_err (gc : Nat) (v0 v1 : Value) (now : Int) (a : AskD) (w : World) (hb : Blk w gc 109 #[v0, v1, .int .i64 now]) (hws : a.who.size ≤ maxLen) (he : askE now a ≠ 0) :
    Calls Tryz.prog 40 #[.pointer (some ⟨gc, 0, none⟩), a.val] w fun e w' => e = .returned (.tuple #[vdz.val, .int .i64 (askE now a)]) ∧ New w w' := by
  have hfa := ref_askFault a
  have HB := Lib.hid hb
  by_cases hf : askFault a = 0
  · have hlt : a.at_ < now := by
      unfold askE at he
      rw [if_neg (by simpa using hf)] at he
      by_cases h : a.at_ < now
      · exact h
      · rw [if_neg h] at he; exact absurd rfl he
    have HE : Hid (askE now a = 7) := Lib.hid (by unfold askE; rw [if_neg (by simpa using hf), if_pos hlt])
    rw [hf] at hfa
    obtain ⟨at_, who, cost, long⟩ := a
    simp only [AskD.val] at *
    clear hf he hb
    go_enter Tryz.func40, Tryz.ntmps40
    go_wp2_with fail
    refine (hfa _ hws).mono ?_
    clear hfa
    rintro e w1 ⟨rfl, hm⟩
    obtain ⟨hm1, hz1, n1⟩ := hm.pre
    have b1 : Blk w1 (w.heap.size + 1) 57 #[.bool false, .string ⟨#[]⟩, .int .i64 0] := by
      have := n1 (fun h => h)
      rw [show (w.alloc (Obj.cells #[.int .i64 at_, .string who, .int .i64 cost, .int .i64 long] 70)).heap.size = w.heap.size + 1 by simp] at this
      exact this
    obtain ⟨hm2, hz2, n2⟩ := hm1.pre
    have b0 : Blk w1 w.heap.size 70 _ := n2 (fun h => h)
    clear hm hm1 n1 n2
    have e0 := b0.cell 0
    simp at e0
    have r0 := b1.cell 0
    have r1 := b1.cell 1
    have r2 := b1.cell 2
    have fr := b1.frozen
    have hrl := b1.lt
    simp at r0 r1 r2
    have bg := HB.out.new'' hm2
    have g2 := bg.cell 2
    have hgl := bg.lt
    simp at g2
    go_wp2_with fail
    go_quiet (fail)
    go_wp2_with fail
    refine bodyPost_ret (v := .tuple #[Vd.val vdz, .int .i64 7]) (by simp [results, Tryz.results40, go_sem, r0, r1, r2, fr, Vd.val, vdz]) rfl ⟨by rw [HE.out], ?_⟩
    refine Mod.setCell (Mod.setCell (Mod.setCell (hm2.drewN _) (.inr ?_) _) (.inr ?_) _) (.inr ?_) _ <;> simp
  · have HE : Hid (askE now a = askFault a) := Lib.hid (by unfold askE; rw [if_pos (by simpa using hf)])
    have hf' : (askFault a != 0) = true := by simpa using hf
    generalize askFault a = F at *
    obtain ⟨at_, who, cost, long⟩ := a
    simp only [AskD.val] at *
    clear hf he hb
    go_enter Tryz.func40, Tryz.ntmps40
    go_wp2_with fail
    refine (hfa _ hws).mono ?_
    clear hfa
    rintro e w1 ⟨rfl, hm⟩
    obtain ⟨hm1, hz1, n1⟩ := hm.pre
    have b1 : Blk w1 (w.heap.size + 1) 57 #[.bool false, .string ⟨#[]⟩, .int .i64 0] := by
      have := n1 (fun h => h)
      rw [show (w.alloc (Obj.cells #[.int .i64 at_, .string who, .int .i64 cost, .int .i64 long] 70)).heap.size = w.heap.size + 1 by simp] at this
      exact this
    obtain ⟨hm2, hz2, n2⟩ := hm1.pre
    clear hm hm1 n1 n2
    have r0 := b1.cell 0
    have r1 := b1.cell 1
    have r2 := b1.cell 2
    have fr := b1.frozen
    have hrl := b1.lt
    simp at r0 r1 r2
    go_wp2_with fail
    refine bodyPost_ret (v := .tuple #[Vd.val vdz, .int .i64 F]) (by simp [results, Tryz.results40, go_sem, r0, r1, r2, fr, Vd.val, vdz]) rfl ⟨by rw [HE.out], ?_⟩
    refine Mod.setCell (Mod.setCell (Mod.setCell hm2 (.inr ?_) _) (.inr ?_) _) (.inr ?_) _ <;> simp

end Go.Proofs.YtinnckbffblecaaGreat

namespace Go.Proofs.YtinnckbffblecaaGreat
open Go.RowKit Go.MapKept
set_option linter.unusedVariables false
set_option linter.unusedSimpArgs false


theorem CounterAt.setGc {w : World} {B gc mb : Nat} {Al : Option Addr} {cl : Nat} {ls : List Lim} {now : Int} {π : List (ByteArray × PastD)} (h : CounterAt w B gc mb Al cl ls now π) {w' : World} (hm : New w w') (t : Int) : CounterAt (w'.setCell ⟨gc, 2, none⟩ (.int .i64 t)) B gc mb Al cl ls t π := (h.new hm).setNow t

theorem CounterAt.mod {S : Nat → Prop} {w w' : World} {B gc mb : Nat} {Al : Option Addr} {cl : Nat} {ls : List Lim} {now : Int} {π : List (ByteArray × PastD)} (h : CounterAt w B gc mb Al cl ls now π) (hm : Mod S w w') (h1 : ¬ S gc) (h2 : ¬ S mb)
    (h3 : ∀ g, TB w g 70 → ¬ S g) (h4 : ∀ g, TB w g 28 → ¬ S g) : CounterAt w' B gc mb Al cl ls now π := by
  refine ⟨h.b0, h.blk.mod hm h1, ⟨h.ref.b0, h.ref.map.mod hm h2, fun who s hg => (h.ref.own who s hg).mod hm (fun x hx => ?_), h.ref.apart⟩, h.lims.mod hm h4⟩
  rcases (h.ref.own who s hg).blk with ⟨e, _⟩ | ⟨g', e, _, ht⟩
  · rw [e] at hx; cases hx
  · rw [e] at hx; injection hx with hx; simp only at hx; subst hx; exact h3 _ ht
/-- a block of a type that the reference's meter has none of -/
theorem CounterAt.only {w w' : World} {B gc mb : Nat} {Al : Option Addr} {cl : Nat} {ls : List Lim} {now : Int} {π : List (ByteArray × PastD)} (h : CounterAt w B gc mb Al cl ls now π) {g : Nat} {T : TypeId} (hg : TB w g T) (hm : Only g w w')
    (h1 : T ≠ 109) (h2 : T ≠ 70) (h3 : T ≠ 28) : CounterAt w' B gc mb Al cl ls now π :=
  h.mod hm (fun e => h.blk.tb.ne hg h1.symm e) (fun e => h.ref.map.ne_blk hg e.symm) (fun g' ht e => ht.ne hg h2.symm e) (fun g' ht e => ht.ne hg h3.symm e)



set_option maxRecDepth 100000 in
set_option maxHeartbeats 4000000 in
theorem counter_ask (gc mb B : Nat) (Al : Option Addr) (cl : Nat) (ls : List Lim) (now : Int) (π : List (ByteArray × PastD)) (a : AskD) (w : World)
    (hM : CounterAt w B gc mb Al cl ls now π) (hR : ∀ l ∈ ls, RLim' l) (hI : RInv ls (pureR π) now) (hpl : ∀ who s, gget π who = some s → s.p.length ≤ 10000) (hnow : 0 ≤ now) (hws : a.who.size ≤ maxLen) (hn : ls.length ≤ 1000) (hπ : π.length < 2000) (hB : B ≤ w.heap.size) :
    Calls Tryz.prog 40 #[.pointer (some ⟨gc, 0, none⟩), a.val] w (RAskR w B gc mb Al cl ls now π a) := by
  by_cases he : askE now a ≠ 0
  · exact (counter_ask_err gc _ _ now a w hM.blk hws he).mono fun e w' h => .inl ⟨he, h⟩
  have he : askE now a = 0 := by simpa using he
  have hf : askFault a = 0 := by
    by_cases h : askFault a = 0
    · exact h
    · unfold askE at he; rw [if_pos (by simpa using h)] at he; exact absurd he h
  have hat : ¬ a.at_ < now := fun h => by
    unfold askE at he; rw [if_neg (by simpa using hf), if_pos h] at he; cases he
  have hra := askFault_right hf
  have hfa := ref_askFault a
  rw [hf] at hfa
  have hcp := hI.cur a.who
  have hpo := hI.pour a.who (show now ≤ a.at_ by omega)
  rw [curR_pure] at hcp hpo
  have hcl : (curD π a.who).p.length ≤ 10000 := by
    unfold curD
    cases e : gget π a.who with
    | none => simp [past0]
    | some s => exact hpl _ _ e
  have hvd := fun W (hW : New w W) => ref_verdictOf Al (curD π a.who).A ls.length cl _ (curD π a.who).cp ls (curD π a.who).p a W (hM.lims.new hW) ((hM.ref.cur a.who).sl.new hW) hR hcp.1.each hpo hra hn hcl
  have hlk : ∀ W, New w W → (Instr.lookup 106 (.map (some mb)) (.string a.who) false).run Tryz.prog W = .ok (.slice (curD π a.who).A (curD π a.who).p.length (curD π a.who).cp) W := fun W hW => by
    have h1 := run_lookup (P := Tryz.prog) (K := strKeys) Tryz.underlying106 Tryz.underlying9 (z := .slice none 0 0) (by kernel_rfl) (hM.ref.new hW).map a.who
    rw [aget_val PastD.val] at h1
    refine h1.trans ?_
    unfold curD
    cases gget π a.who <;> rfl
  have hlo : ∀ W, New w W → (Instr.lookup 106 (.map (some mb)) (.string a.who) true).run Tryz.prog W = .ok (.tuple #[.slice (curD π a.who).A (curD π a.who).p.length (curD π a.who).cp, .bool (gget π a.who).isSome]) W := fun W hW => by
    have h1 := run_lookup_ok (P := Tryz.prog) (K := strKeys) Tryz.underlying106 Tryz.underlying9 (z := .slice none 0 0) (by kernel_rfl) (hM.ref.new hW).map a.who
    rw [aget_val PastD.val] at h1
    refine h1.trans ?_
    unfold curD
    cases gget π a.who <;> rfl
  have hll : ∀ W, New w W → ∀ ty, (Builtin.len_ #[106] ty #[.map (some mb)]).run Tryz.prog W = .ok (.int .i64 (π.length : Int)) W := fun W hW ty => by
    have := run_len_map (P := Tryz.prog) 106 ty Tryz.underlying106 (hM.ref.new hW).map
    simpa only [List.length_map] using this
  have HPUT : Hid (putR ls (pureR π) a = if (verdR ls (curD π a.who).p a vd0).ok = true then gput (pureR π) a.who ((curD π a.who).p ++ [a]) else pureR π) := Lib.hid (by unfold putR; rw [curR_pure])
  have HCR : Hid (curR (pureR π) a.who = (curD π a.who).p) := Lib.hid (curR_pure π a.who)
  have HVD := Lib.hid hvd
  have HLK := Lib.hid hlk
  have HLO := Lib.hid hlo
  have HLL := Lib.hid hll
  have HM := Lib.hid hM
  have HE := Lib.hid he
  have hp1 : ¬ (2000 : Int) ≤ (π.length : Int) := by omega
  have hp2 : decide ((2000 : Int) ≤ (π.length : Int)) = false := by simpa using hp1
  clear hvd hlk hlo hll hM hpo hcp hI hR hpl he hf
  generalize hcur : curD π a.who = cur at *
  have HCUR := Lib.hid hcur
  clear hcur
  generalize hvv : verdR ls cur.p a vd0 = v at *
  have HVV := Lib.hid hvv
  clear hvv
  obtain ⟨at_, who, cost, long⟩ := a
  obtain ⟨ok, by_, wt⟩ := v
  simp only [AskD.val, Vd.val] at *
  go_enter Tryz.func40, Tryz.ntmps40
  go_wp2_with fail
  refine (hfa _ hws).mono ?_
  clear hfa
  rintro e w1 ⟨rfl, hm⟩
  obtain ⟨hm1, hz1, n1⟩ := hm.pre
  have b1 : Blk w1 (w.heap.size + 1) 57 #[.bool false, .string ⟨#[]⟩, .int .i64 0] := by
    have := n1 (fun h => h)
    rw [show (w.alloc (Obj.cells #[.int .i64 at_, .string who, .int .i64 cost, .int .i64 long] 70)).heap.size = w.heap.size + 1 by simp] at this
    exact this
  obtain ⟨hm2, hz2, n2⟩ := hm1.pre
  have b0 : Blk w1 w.heap.size 70 #[.int .i64 at_, .string who, .int .i64 cost, .int .i64 long] := n2 (fun h => h)
  clear hm hm1 n1 n2
  have HB0 := Lib.hid b0
  have HB1 := Lib.hid b1
  have HM2 := Lib.hid hm2
  have bg := HM.out.blk.new'' hm2
  have e0 := b0.cell 0
  have e1 := b0.cell 1
  have e2 := b0.cell 2
  have e3 := b0.cell 3
  have g0 := bg.cell 0
  have g1 := bg.cell 1
  have g2 := bg.cell 2
  have hgl := bg.lt
  have hel := b0.lt
  simp at g0 g1 g2 e0 e1 e2 e3
  have hd : decide (at_ < now) = false := by simpa using hat
  have hzz : w.heap.size + 1 < w1.heap.size := by have := b1.lt; omega
  clear b0 b1 bg hm2
  go_wp2_with fail
  go_quiet (fail)
  go_upto_region 6 with (fail)
  have hK : ∀ W, New w W → W.cell? ⟨gc, 0, none⟩ = some (.slice Al ls.length cl) ∧ W.cell? ⟨gc, 1, none⟩ = some (.map (some mb)) ∧ gc < W.heap.size := fun W hW => by
    have b := HM.out.blk.new'' hW
    exact ⟨(b.cell 0).trans rfl, (b.cell 1).trans rfl, b.lt⟩
  have hA : ∀ W, New w1 W → W.cell? ⟨w.heap.size, 0, none⟩ = some (.int .i64 at_) ∧ W.cell? ⟨w.heap.size, 1, none⟩ = some (.string who) ∧ W.cell? ⟨w.heap.size, 2, none⟩ = some (.int .i64 cost) ∧ W.cell? ⟨w.heap.size, 3, none⟩ = some (.int .i64 long) ∧ w.heap.size < W.heap.size := fun W hW => by
    have b := HB0.out.new'' hW
    exact ⟨(b.cell 0).trans rfl, (b.cell 1).trans rfl, (b.cell 2).trans rfl, (b.cell 3).trans rfl, b.lt⟩
  have hS : ∀ W, New w1 W → (W.cell? ⟨gc, 0, none⟩ = some (.slice Al ls.length cl) ∧ W.cell? ⟨gc, 1, none⟩ = some (.map (some mb)) ∧ W.cell? ⟨w.heap.size, 0, none⟩ = some (.int .i64 at_) ∧ W.cell? ⟨w.heap.size, 1, none⟩ = some (.string who) ∧ W.cell? ⟨w.heap.size, 2, none⟩ = some (.int .i64 cost) ∧ W.cell? ⟨w.heap.size, 3, none⟩ = some (.int .i64 long) ∧ gc < W.heap.size ∧ w.heap.size < W.heap.size) := fun W hW => by
    obtain ⟨a1, a2, a3⟩ := hK W (HM2.out.trans hW)
    obtain ⟨c1, c2, c3, c4, c5⟩ := hA W hW
    exact ⟨a1, a2, c1, c2, c3, c4, a3, c5⟩
  have HS := Lib.hid hS
  clear hK hA hS
  have hq1 := fun q : Nat => HLK.out (w1.drewN q) (HM2.out.drewN q)
  have hq2 := fun (q : Nat) o => HLK.out ((w1.drewN q).alloc o) ((HM2.out.drewN q).alloc o)
  go_cut [7] (fun s7 wx => ∃ bv, s7 = .pointer (some ⟨bv, 0, none⟩) ∧ Blk wx bv 57 #[.bool ok, .string by_, .int .i64 wt] ∧ w1.heap.size ≤ bv ∧ New w1 wx)
  case first =>
    go_region_held3 (fun W => W.cell? ⟨gc, 0, none⟩ = some (.slice Al ls.length cl) ∧ W.cell? ⟨gc, 1, none⟩ = some (.map (some mb)) ∧ W.cell? ⟨w.heap.size, 0, none⟩ = some (.int .i64 at_) ∧ W.cell? ⟨w.heap.size, 1, none⟩ = some (.string who) ∧ W.cell? ⟨w.heap.size, 2, none⟩ = some (.int .i64 cost) ∧ W.cell? ⟨w.heap.size, 3, none⟩ = some (.int .i64 long) ∧ gc < W.heap.size ∧ w.heap.size < W.heap.size)
      ((refine HS.out _ ?_; with_reducible (repeat' (first | assumption | exact Mod.refl _ _ | refine Mod.drewN ?_ _ | refine Mod.drew ?_ | refine Mod.alloc ?_ _ | refine Mod.trans ?_ hmc | refine Mod.setCell ?_ (Or.inr ?_) _)); all_goals (first | done | (simp; done) | (simp; omega))))
      (first
        | (go_at_call 59; refine (HVD.out _ (HM2.out.trans (by with_reducible (repeat (first | assumption | exact Mod.refl _ _ | refine Mod.drewN ?_ _ | refine Mod.drew ?_ | refine Mod.alloc ?_ _))))).mono ?_; rintro e wc ⟨rfl, hmc⟩; try (obtain ⟨hmd, hzc, nb⟩ := hmc.pre; have bz : Blk wc _ 57 #[.bool false, .string ⟨#[]⟩, .int .i64 0] := nb (fun h => h); have z0 := bz.cell 0; have z1 := bz.cell 1; have z2 := bz.cell 2; have zf := bz.frozen; have hzl := bz.lt; simp at z0 z1 z2 zf hzl)))
    all_goals go_wp2_with fail
    all_goals go_meet
    all_goals refine ⟨_, rfl, (by first | exact Blk.new _ _ _ | exact Blk.copy3 bz _ _ _), ?_, ?_⟩
    all_goals first
      | exact Nat.le_refl _
      | exact (((Mod.refl _ w1).drewN _).trans hmc).alloc _
      | exact Mod.setCell (Mod.setCell (Mod.setCell ((((Mod.refl _ w1).drewN _).alloc _).trans hmc) (.inr (Nat.le_refl _)) _) (.inr (Nat.le_refl _)) _) (.inr (Nat.le_refl _)) _
      | (have := hmc.size; simpa using this)
  case rest =>
    obtain ⟨bv, rfl, bV, hbv, hmV⟩ := hcut
    clear hq1 hq2 e0 e1 e2 e3 g0 g1 g2 hgl hel
    have HMV := Lib.hid hmV
    have HBV := Lib.hid bV
    have bA := HB0.out.new'' hmV
    have HBA := Lib.hid bA
    have bg := HM.out.blk.new'' (HM2.out.trans hmV)
    have e0 := bA.cell 0
    have e1 := bA.cell 1
    have e2 := bA.cell 2
    have e3 := bA.cell 3
    have g0 := bg.cell 0
    have g1 := bg.cell 1
    have g2 := bg.cell 2
    have gf := bg.frozen 2
    have v0 := bV.cell 0
    have v1 := bV.cell 1
    have v2 := bV.cell 2
    have hgl := bg.lt
    have hel := bA.lt
    have hvl := bV.lt
    simp at g0 g1 g2 e0 e1 e2 e3 v0 v1 v2
    have hq3 := fun q : Nat => HLO.out (wc.drewN q) ((HM2.out.trans hmV).drewN q)
    have hq4 := fun (q : Nat) ty => HLL.out (wc.drewN q) ((HM2.out.trans hmV).drewN q) ty
    clear bA bg bV hmV
    have hgv : gc ≠ bv := by
      have := HM.out.blk.lt
      have := HM2.out.size
      omega
    have hga : gc ≠ w.heap.size := by have := HM.out.blk.lt; omega
    have hgr : gc ≠ w.heap.size + 1 := by have := HM.out.blk.lt; omega
    cases ok with
    | false =>
      go_wp2_with fail
      go_quiet (fail)
      go_upto_region 10 with (fail)
      have hX : New w (wc.drewN nq) := (HM2.out.trans HMV.out).drewN nq
      have hX1 : New w1 (wc.drewN nq) := HMV.out.drewN nq
      have hCX := HM.out.setGc hX at_
      have hon : Only gc (wc.drewN nq) ((wc.drewN nq).setCell ⟨gc, 2, none⟩ (.int .i64 at_)) := Mod.setCell (S := fun k => k = gc) (p := ⟨gc, 2, none⟩) (Mod.refl _ _) (.inl rfl) _
      have bV := (HBV.out.new'' ((Mod.refl (fun _ => False) wc).drewN nq)).mod hon (fun e => hgv e.symm)
      have bA := (HBA.out.new'' ((Mod.refl (fun _ => False) wc).drewN nq)).mod hon (fun e => hga e.symm)
      have bR := (HB1.out.new'' hX1).mod hon (fun e => hgr e.symm)
      have hfr : Mod (fun x => x = gc) w ((wc.drewN nq).setCell ⟨gc, 2, none⟩ (.int .i64 at_)) := (hX.mono (fun _ _ e => e.elim)).trans hon
      have hlkX := (run_lookup (P := Tryz.prog) (K := strKeys) Tryz.underlying106 Tryz.underlying9 (z := .slice none 0 0) (by kernel_rfl) hCX.ref.map who)
      go_upto_region 11 with (fail)
      have hzX : w1.heap.size ≤ ((wc.drewN nq).setCell ⟨gc, 2, none⟩ (.int .i64 at_)).heap.size := by have := hX1.size; simp at this ⊢; omega
      generalize (wc.drewN nq).setCell ⟨gc, 2, none⟩ (.int .i64 at_) = X at *
      clear e0 e1 e2 e3 g0 g1 g2 v0 v1 v2 hgl hel hvl hq3 hq4 gf hX hX1 hon
      have HCX := Lib.hid hCX
      have HFR := Lib.hid hfr
      have HBVX := Lib.hid bV
      have HBAX := Lib.hid bA
      have HBRX := Lib.hid bR
      have v0 := bV.cell 0
      have v1 := bV.cell 1
      have v2 := bV.cell 2
      have hvl := bV.lt
      simp at v0 v1 v2
      have r0 := bR.cell 0
      have r1 := bR.cell 1
      have r2 := bR.cell 2
      have fr := bR.frozen
      have hrl := bR.lt
      simp at r0 r1 r2
      clear hCX hfr bV bA bR hlkX
      go_wp2_with fail
      refine bodyPost_ret (v := .tuple #[.agg #[.bool false, .string by_, .int .i64 wt], .int .i64 0]) (by simp [results, Tryz.results40, go_sem, r0, r1, r2, fr, v0, v1, v2]) rfl (.inr ⟨HE.out, π, by rw [HCR.out, HVV.out]; rfl, by rw [HPUT.out]; simp, ?_, by omega, fun n h who s hg => by have := h who s hg; omega, ?_⟩)
      · exact HCX.out.only HBRX.out.tb (Only.cell3 _ _ _ _ _) (by decide) (by decide) (by decide)
      · exact (HFR.out.mono (fun _ _ e => .inl e)).step (Only.cell3 _ _ _ _ _) (fun i hi e => by omega)
    | true =>
      cases hh : (gget π who).isSome
      · rw [hh] at hq3
        go_wp2_with fail
        go_quiet (fail)
        go_upto_region 10 with (fail)
        have hX : New w (wc.drewN nq) := (HM2.out.trans HMV.out).drewN nq
        have hX1 : New w1 (wc.drewN nq) := HMV.out.drewN nq
        have hCX := HM.out.setGc hX at_
        have hon : Only gc (wc.drewN nq) ((wc.drewN nq).setCell ⟨gc, 2, none⟩ (.int .i64 at_)) := Mod.setCell (S := fun k => k = gc) (p := ⟨gc, 2, none⟩) (Mod.refl _ _) (.inl rfl) _
        have bV := (HBV.out.new'' ((Mod.refl (fun _ => False) wc).drewN nq)).mod hon (fun e => hgv e.symm)
        have bA := (HBA.out.new'' ((Mod.refl (fun _ => False) wc).drewN nq)).mod hon (fun e => hga e.symm)
        have bR := (HB1.out.new'' hX1).mod hon (fun e => hgr e.symm)
        have hfr : Mod (fun x => x = gc) w ((wc.drewN nq).setCell ⟨gc, 2, none⟩ (.int .i64 at_)) := (hX.mono (fun _ _ e => e.elim)).trans hon
        have hlkX := (run_lookup (P := Tryz.prog) (K := strKeys) Tryz.underlying106 Tryz.underlying9 (z := .slice none 0 0) (by kernel_rfl) hCX.ref.map who)
        go_upto_region 11 with (fail)
        have hzX : w1.heap.size ≤ ((wc.drewN nq).setCell ⟨gc, 2, none⟩ (.int .i64 at_)).heap.size := by have := hX1.size; simp at this ⊢; omega
        generalize (wc.drewN nq).setCell ⟨gc, 2, none⟩ (.int .i64 at_) = X at *
        clear e0 e1 e2 e3 g0 g1 g2 v0 v1 v2 hgl hel hvl hq3 hq4 gf hX hX1 hon
        have HCX := Lib.hid hCX
        have HFR := Lib.hid hfr
        have HBVX := Lib.hid bV
        have HBAX := Lib.hid bA
        have HBRX := Lib.hid bR
        have v0 := bV.cell 0
        have v1 := bV.cell 1
        have v2 := bV.cell 2
        have hvl := bV.lt
        simp at v0 v1 v2
        have a0 := bA.cell 0
        have a1 := bA.cell 1
        have a2 := bA.cell 2
        have a3 := bA.cell 3
        have hal := bA.lt
        have bG := hCX.blk
        have g1 := bG.cell 1
        have hgl := bG.lt
        simp at g1 a0 a1 a2 a3
        have hlkx : ∀ W, New X W → (Instr.lookup 106 (.map (some mb)) (.string who) false).run Tryz.prog W = .ok (.slice cur.A cur.p.length cur.cp) W := fun W hW => by
          have h1 := run_lookup (P := Tryz.prog) (K := strKeys) Tryz.underlying106 Tryz.underlying9 (z := .slice none 0 0) (by kernel_rfl) (HCX.out.ref.new hW).map who
          rw [aget_val PastD.val] at h1
          refine h1.trans ?_
          rw [← HCUR.out]
          unfold curD
          cases gget π who <;> rfl
        have HLKX := Lib.hid hlkx
        have hPO : PastOwn X B cur := by rw [← HCUR.out]; exact HCX.out.ref.cur who
        have HPO := Lib.hid hPO
        have HSg : Hid (∀ W, Blk W gc 109 #[.slice Al ls.length cl, .map (some mb), .int .i64 at_] → Blk W w.heap.size 70 #[.int .i64 at_, .string who, .int .i64 cost, .int .i64 long] → (Instr.lookup 106 (.map (some mb)) (.string who) false).run Tryz.prog W = .ok (.slice cur.A cur.p.length cur.cp) W →
            (W.cell? ⟨gc, 1, none⟩ = some (.map (some mb)) ∧ W.cell? ⟨w.heap.size, 0, none⟩ = some (.int .i64 at_) ∧ W.cell? ⟨w.heap.size, 1, none⟩ = some (.string who) ∧ W.cell? ⟨w.heap.size, 2, none⟩ = some (.int .i64 cost) ∧ W.cell? ⟨w.heap.size, 3, none⟩ = some (.int .i64 long) ∧ (Instr.lookup 106 (.map (some mb)) (.string who) false).run Tryz.prog W = .ok (.slice cur.A cur.p.length cur.cp) W ∧ gc < W.heap.size ∧ w.heap.size < W.heap.size)) :=
          Lib.hid (fun W k1 k2 k3 => ⟨(k1.cell 1).trans rfl, (k2.cell 0).trans rfl, (k2.cell 1).trans rfl, (k2.cell 2).trans rfl, (k2.cell 3).trans rfl, k3, k1.lt, k2.lt⟩)
        clear hCX hfr bV bA bR hlkX bG hlkx hPO
        go_wp2_with fail
        refine wp_region_held_ord (fun W => W.cell? ⟨gc, 1, none⟩ = some (.map (some mb)) ∧ W.cell? ⟨w.heap.size, 0, none⟩ = some (.int .i64 at_) ∧ W.cell? ⟨w.heap.size, 1, none⟩ = some (.string who) ∧ W.cell? ⟨w.heap.size, 2, none⟩ = some (.int .i64 cost) ∧ W.cell? ⟨w.heap.size, 3, none⟩ = some (.int .i64 long) ∧ (Instr.lookup 106 (.map (some mb)) (.string who) false).run Tryz.prog W = .ok (.slice cur.A cur.p.length cur.cp) W ∧ gc < W.heap.size ∧ w.heap.size < W.heap.size) [14, 15] [0, 1, 2, 3, 4, 5, 6, 7, 8, 9, 10, 11, 12, 13, 14, 15] (by kernel_rfl) (by kernel_rfl) (fun _ _ d _ _ h => by cases d <;> exact h) ?_ (fun hHeld => ?_)
        · exact HSg.out _ (HCX.out.blk.new'' ((Mod.refl _ _).drew)) (HBAX.out.new'' ((Mod.refl _ _).drew)) (HLKX.out _ ((Mod.refl _ _).drew))
        simp only [List.length_cons, List.length_nil, List.drop_succ_cons, List.drop_zero]
        refine heldO_take ?_ (by rfl) (by rfl) (by rfl) (fun w hSw => ?_) ?_
        rotate_left
        · (try dsimp only at hSw); go_simp; any_goals (with_reducible rfl)
        simp only [Act.put, List.setIfInBounds_toArray, List.set_cons_zero, List.set_cons_succ]
        refine heldO_take ?_ (by rfl) (by rfl) (by rfl) (fun w hSw => ?_) ?_
        rotate_left
        · (try dsimp only at hSw); go_simp; any_goals (with_reducible rfl)
        simp only [Act.put, List.setIfInBounds_toArray, List.set_cons_zero, List.set_cons_succ]
        refine heldO_take ?_ (by rfl) (by rfl) (by rfl) (fun w hSw => ?_) ?_
        rotate_left
        · (try dsimp only at hSw); go_simp; any_goals (with_reducible rfl)
        simp only [Act.put, List.setIfInBounds_toArray, List.set_cons_zero, List.set_cons_succ]
        refine heldO_take ?_ (by rfl) (by rfl) (by rfl) (fun w hSw => ?_) ?_
        rotate_left
        · (try dsimp only at hSw); go_simp; any_goals (with_reducible rfl)
        simp only [Act.put, List.setIfInBounds_toArray, List.set_cons_zero, List.set_cons_succ]
        refine heldO_take ?_ (by rfl) (by rfl) (by rfl) (fun w hSw => ?_) ?_
        rotate_left
        · (try dsimp only at hSw); go_simp; any_goals (with_reducible rfl)
        simp only [Act.put, List.setIfInBounds_toArray, List.set_cons_zero, List.set_cons_succ]
        refine heldO_take ?_ (by rfl) (by rfl) (by rfl) (fun w hSw => ?_) ?_
        rotate_left
        · (try dsimp only at hSw); go_simp; any_goals (with_reducible rfl)
        simp only [Act.put, List.setIfInBounds_toArray, List.set_cons_zero, List.set_cons_succ]
        refine heldO_take ?_ (by rfl) (by rfl) (by rfl) (fun w hSw => ?_) ?_
        rotate_left
        · (try dsimp only at hSw); go_simp; any_goals (with_reducible rfl)
        simp only [Act.put, List.setIfInBounds_toArray, List.set_cons_zero, List.set_cons_succ]
        refine heldO_take ?_ (by rfl) (by rfl) (by rfl) (fun w hSw => ?_) ?_
        rotate_left
        · (try dsimp only at hSw); go_simp; any_goals (with_reducible rfl)
        simp only [Act.put, List.setIfInBounds_toArray, List.set_cons_zero, List.set_cons_succ]
        refine heldO_take ?_ (by rfl) (by rfl) (by rfl) (fun w hSw => ?_) ?_
        rotate_left
        · (try dsimp only at hSw); go_simp; any_goals (with_reducible rfl)
        simp only [Act.put, List.setIfInBounds_toArray, List.set_cons_zero, List.set_cons_succ]
        refine heldO_take ?_ (by rfl) (by rfl) (by rfl) (fun w hSw => ?_) ?_
        rotate_left
        · (try dsimp only at hSw); go_simp; any_goals (with_reducible rfl)
        simp only [Act.put, List.setIfInBounds_toArray, List.set_cons_zero, List.set_cons_succ]
        refine heldO_take ?_ (by rfl) (by rfl) (by rfl) (fun w hSw => ?_) ?_
        rotate_left
        · (try dsimp only at hSw); go_simp; any_goals (with_reducible rfl)
        simp only [Act.put, List.setIfInBounds_toArray, List.set_cons_zero, List.set_cons_succ]
        refine heldO_take ?_ (by rfl) (by rfl) (by rfl) (fun w hSw => ?_) ?_
        rotate_left
        · (try dsimp only at hSw); go_simp; any_goals (with_reducible rfl)
        simp only [Act.put, List.setIfInBounds_toArray, List.set_cons_zero, List.set_cons_succ]
        refine heldO_take ?_ (by rfl) (by rfl) (by rfl) (fun w hSw => ?_) ?_
        rotate_left
        · (try dsimp only at hSw); go_simp; any_goals (with_reducible rfl)
        simp only [Act.put, List.setIfInBounds_toArray, List.set_cons_zero, List.set_cons_succ]
        refine heldO_take ?_ (by rfl) (by rfl) (by rfl) (fun w hSw => ?_) ?_
        rotate_left
        · (try dsimp only at hSw); go_simp; any_goals (with_reducible rfl)
        simp only [Act.put, List.setIfInBounds_toArray, List.set_cons_zero, List.set_cons_succ]
        refine heldO_step (by rfl) (by rfl) (by rfl) (fun K hK => ?_)
        go_simp
        have m4 : New X ((X.drewN 1).alloc (.cells #[.int .i64 at_, .string who, .int .i64 cost, .int .i64 long] 70)) := ((Mod.refl _ X).drewN 1).alloc _
        refine hK.out _ _ (HSg.out _ (HCX.out.blk.new'' m4) (HBAX.out.new'' m4) (HLKX.out _ m4)) (fun hHeld => ?_)
        clear hK K
        try simp only [Act.put, List.setIfInBounds_toArray, List.set_cons_zero, List.set_cons_succ]
        have own4 : PastOwn ((X.drewN 1).alloc (.cells #[.int .i64 at_, .string who, .int .i64 cost, .int .i64 long] 70)) B cur := HPO.out.new m4
        have blk4 : Blk ((X.drewN 1).alloc (.cells #[.int .i64 at_, .string who, .int .i64 cost, .int .i64 long] 70)) X.heap.size 70 (encL 4 AskD.enc ⟨at_, who, cost, long⟩).toArray := Blk.new (X.drewN 1) _ _
        have r4 := HCX.out.ref.new m4
        have hBX : B ≤ ((X.drewN 1).alloc (.cells #[.int .i64 at_, .string who, .int .i64 cost, .int .i64 long] 70)).heap.size := by have := HM2.out.size; simp; omega
        have hfarA : ∀ x, blkOf cur.A = some x → x < w.heap.size := fun x hx => by
          have h0 : PastOwn w B cur := by rw [← HCUR.out]; exact HM.out.ref.cur who
          rcases h0.blk with ⟨h1, _⟩ | ⟨g', h1, _, ht⟩
          · rw [h1] at hx; cases hx
          · rw [h1] at hx; injection hx with hx; simp only at hx; subst hx; exact ht.lt
        have HFA := Lib.hid hfarA
        have HBX := Lib.hid hBX
        clear hfarA hBX
        refine heldO_step (by rfl) (by rfl) (by rfl) (fun K hK => ?_)
        refine wp_push (.tmp 81) (.tmp 83) _ rfl 40 Tryz.underlying47 einfo_ask rfl (by exact own4) ⟨at_, who, cost, long⟩ X.heap.size rfl (by exact blk4) (fun j hj => AskD.one _ j hj) (by omega) (by omega) HBX.out ?_
        intro g5 cap5 w5 own5 hm5 hat5 hlt5
        have hcb : ∀ x, blkOf cur.A = some x → TB ((X.drewN 1).alloc (.cells #[.int .i64 at_, .string who, .int .i64 cost, .int .i64 long] 70)) x 70 := fun x hx => by
          rcases own4.blk with ⟨h1, _⟩ | ⟨g', h1, h2, ht⟩
          · rw [h1] at hx; cases hx
          · rw [h1] at hx; injection hx with hx; simp only at hx; subst hx; exact ht
        have b5 := (HBAX.out.new'' m4).mod hm5 (fun e => by have := HFA.out _ e; omega)
        have bg5 := (HCX.out.blk.new'' m4).mod hm5 (fun e => (HCX.out.blk.new'' m4).tb.ne (hcb _ e) (by decide) rfl)
        have map5 := r4.map.mod hm5 (r4.ne (who := who) own4)
        have hlk5 : (Instr.lookup 106 (.map (some mb)) (.string who) false).run Tryz.prog w5 = .ok (.slice cur.A cur.p.length cur.cp) w5 := by
          have h1 := run_lookup (P := Tryz.prog) (K := strKeys) Tryz.underlying106 Tryz.underlying9 (z := .slice none 0 0) (by kernel_rfl) map5 who
          rw [aget_val PastD.val] at h1
          refine h1.trans ?_
          rw [← HCUR.out]
          unfold curD
          cases gget π who <;> rfl
        refine hK.out _ _ (HSg.out _ bg5 b5 hlk5) (fun hHeld => ?_)
        clear hK K hlk5
        try simp only [Act.put, List.setIfInBounds_toArray, List.set_cons_zero, List.set_cons_succ]
        refine heldO_nil ?_
        at_mapUpdate
        refine wpList_mapPut (K := strKeys) rfl _ _ _ _ rfl Tryz.underlying106 Tryz.underlying9 rfl map5 who rfl (.slice (some ⟨g5, 0, none⟩) (cur.p.length + 1) cap5) rfl ?_
        intro w6 map6 ho6 hs6
        clear hs6
        have hs' : PastOwn w5 B ⟨some ⟨g5, 0, none⟩, cap5, cur.p ++ [⟨at_, who, cost, long⟩]⟩ := by
          show Own w5 B 70 4 AskD.enc (some ⟨g5, 0, none⟩) (cur.p ++ [(⟨at_, who, cost, long⟩ : AskD)]).length cap5 _
          rw [List.length_append]; exact own5
        have hmap6 : MapOf strKeys w6 mb ((gput π who ⟨some ⟨g5, 0, none⟩, cap5, cur.p ++ [⟨at_, who, cost, long⟩]⟩).map fun p => (p.1, p.2.val)) := by
          rw [← aput_val PastD.val]
          show MapOf strKeys w6 mb (aput _ who (.slice (some ⟨g5, 0, none⟩) (cur.p ++ [(⟨at_, who, cost, long⟩ : AskD)]).length cap5))
          rw [List.length_append]; exact map6
        have refW : RefAt w6 B mb (gput π who ⟨some ⟨g5, 0, none⟩, cap5, cur.p ++ [⟨at_, who, cost, long⟩]⟩) := by
          refine r4.put (who := who) (w1 := w5) (by rw [HCUR.out]; exact hm5) hs' (fun x hx => ?_) hmap6 ho6
          rw [HCUR.out]
          injection hx with hx
          simp only at hx
          subst hx
          rcases hat5 with h1 | h1
          · exact .inl h1
          · right; rw [h1]; exact Nat.le_refl _
        have hne5 : ∀ g T, TB w5 g T → ¬ g = mb := fun g T ht e => map5.ne_blk ht e
        have hC6 : CounterAt w6 B gc mb Al cl ls at_ (gput π who ⟨some ⟨g5, 0, none⟩, cap5, cur.p ++ [⟨at_, who, cost, long⟩]⟩) :=
          ⟨HCX.out.b0, bg5.mod ho6 (hne5 _ _ bg5.tb), refW, ((HCX.out.lims.new m4).mod hm5 (fun g ht e => ht.ne (hcb _ e) (by decide) rfl)).mod ho6 (fun g ht e => hne5 _ _ ht e)⟩
        have v5 := (HBVX.out.new'' m4).mod hm5 (fun e => (HBVX.out.new'' m4).tb.ne (hcb _ e) (by decide) rfl)
        have bV6 := v5.mod ho6 (hne5 _ _ v5.tb)
        have rr5 := (HBRX.out.new'' m4).mod hm5 (fun e => (HBRX.out.new'' m4).tb.ne (hcb _ e) (by decide) rfl)
        have bR6 := rr5.mod ho6 (hne5 _ _ rr5.tb)
        have hF6 : Mod (fun x => x = gc ∨ x = mb ∨ blkOf cur.A = some x) w w6 := (((HFR.out.mono (fun _ _ e => .inl e)).step m4 (fun i _ e => e.elim)).step hm5 (fun i _ e => .inr (.inr e))).step ho6 (fun i _ e => .inr (.inl e))
        have HP2 : Hid (pureR (gput π who ⟨some ⟨g5, 0, none⟩, cap5, cur.p ++ [⟨at_, who, cost, long⟩]⟩) = putR ls (pureR π) ⟨at_, who, cost, long⟩) := Lib.hid (by
          rw [HPUT.out, if_pos trivial]
          unfold pureR
          rw [gput_gmap])
        have HLE : Hid ((gput π who (⟨some ⟨g5, 0, none⟩, cap5, cur.p ++ [⟨at_, who, cost, long⟩]⟩ : PastD)).length ≤ π.length + 1) := Lib.hid (gput_length π who _)
        have HLN : Hid (∀ n, (∀ who s, gget π who = some s → s.p.length ≤ n) → ∀ who' s, gget (gput π who (⟨some ⟨g5, 0, none⟩, cap5, cur.p ++ [⟨at_, who, cost, long⟩]⟩ : PastD)) who' = some s → s.p.length ≤ n + 1) := Lib.hid (fun n hh who' s' hg => by
          rw [gget_gput] at hg
          split at hg
          · injection hg with hg
            subst hg
            simp only [List.length_append, List.length_cons, List.length_nil]
            rw [← HCUR.out]
            unfold curD
            cases e : gget π who with
            | none => simp [past0]
            | some s0 => have := hh who s0 e; simp only [Option.getD_some]; omega
          · have := hh who' s' hg; omega)
        clear hmap6 hs' map6 map5 b5 bg5 r4 own4 blk4 own5 hm5 hat5 v5 rr5 hne5 hcb refW m4 a0 a1 a2 a3 g1 v0 v1 v2 hal hgl hvl hlt5 ho6
        generalize gput π who (⟨some ⟨g5, 0, none⟩, cap5, cur.p ++ [⟨at_, who, cost, long⟩]⟩ : PastD) = π' at *
        have HC6 := Lib.hid hC6
        have HF6 := Lib.hid hF6
        have HBR6 := Lib.hid bR6
        have v0 := bV6.cell 0
        have v1 := bV6.cell 1
        have v2 := bV6.cell 2
        have hvl := bV6.lt
        have r0 := bR6.cell 0
        have r1 := bR6.cell 1
        have r2 := bR6.cell 2
        have fr := bR6.frozen
        have hrl := bR6.lt
        simp at v0 v1 v2 r0 r1 r2
        clear hC6 hF6 bR6 bV6
        go_wp2_with fail
        refine bodyPost_ret (v := .tuple #[.agg #[.bool true, .string by_, .int .i64 wt], .int .i64 0]) (by simp [results, Tryz.results40, go_sem, r0, r1, r2, fr, v0, v1, v2]) rfl (.inr ⟨HE.out, π', by rw [HCR.out, HVV.out]; rfl, HP2.out, ?_, HLE.out, HLN.out, ?_⟩)
        · exact HC6.out.only HBR6.out.tb (Only.cell3 _ _ _ _ _) (by decide) (by decide) (by decide)
        · rw [HCUR.out]
          exact HF6.out.step (Only.cell3 _ _ _ _ _) (fun i hi e => by omega)
      · rw [hh] at hq3
        go_wp2_with fail
        go_quiet (fail)
        go_upto_region 10 with (fail)
        have hX : New w (wc.drewN nq) := (HM2.out.trans HMV.out).drewN nq
        have hX1 : New w1 (wc.drewN nq) := HMV.out.drewN nq
        have hCX := HM.out.setGc hX at_
        have hon : Only gc (wc.drewN nq) ((wc.drewN nq).setCell ⟨gc, 2, none⟩ (.int .i64 at_)) := Mod.setCell (S := fun k => k = gc) (p := ⟨gc, 2, none⟩) (Mod.refl _ _) (.inl rfl) _
        have bV := (HBV.out.new'' ((Mod.refl (fun _ => False) wc).drewN nq)).mod hon (fun e => hgv e.symm)
        have bA := (HBA.out.new'' ((Mod.refl (fun _ => False) wc).drewN nq)).mod hon (fun e => hga e.symm)
        have bR := (HB1.out.new'' hX1).mod hon (fun e => hgr e.symm)
        have hfr : Mod (fun x => x = gc) w ((wc.drewN nq).setCell ⟨gc, 2, none⟩ (.int .i64 at_)) := (hX.mono (fun _ _ e => e.elim)).trans hon
        have hlkX := (run_lookup (P := Tryz.prog) (K := strKeys) Tryz.underlying106 Tryz.underlying9 (z := .slice none 0 0) (by kernel_rfl) hCX.ref.map who)
        go_upto_region 11 with (fail)
        have hzX : w1.heap.size ≤ ((wc.drewN nq).setCell ⟨gc, 2, none⟩ (.int .i64 at_)).heap.size := by have := hX1.size; simp at this ⊢; omega
        generalize (wc.drewN nq).setCell ⟨gc, 2, none⟩ (.int .i64 at_) = X at *
        clear e0 e1 e2 e3 g0 g1 g2 v0 v1 v2 hgl hel hvl hq3 hq4 gf hX hX1 hon
        have HCX := Lib.hid hCX
        have HFR := Lib.hid hfr
        have HBVX := Lib.hid bV
        have HBAX := Lib.hid bA
        have HBRX := Lib.hid bR
        have v0 := bV.cell 0
        have v1 := bV.cell 1
        have v2 := bV.cell 2
        have hvl := bV.lt
        simp at v0 v1 v2
        have a0 := bA.cell 0
        have a1 := bA.cell 1
        have a2 := bA.cell 2
        have a3 := bA.cell 3
        have hal := bA.lt
        have bG := hCX.blk
        have g1 := bG.cell 1
        have hgl := bG.lt
        simp at g1 a0 a1 a2 a3
        have hlkx : ∀ W, New X W → (Instr.lookup 106 (.map (some mb)) (.string who) false).run Tryz.prog W = .ok (.slice cur.A cur.p.length cur.cp) W := fun W hW => by
          have h1 := run_lookup (P := Tryz.prog) (K := strKeys) Tryz.underlying106 Tryz.underlying9 (z := .slice none 0 0) (by kernel_rfl) (HCX.out.ref.new hW).map who
          rw [aget_val PastD.val] at h1
          refine h1.trans ?_
          rw [← HCUR.out]
          unfold curD
          cases gget π who <;> rfl
        have HLKX := Lib.hid hlkx
        have hPO : PastOwn X B cur := by rw [← HCUR.out]; exact HCX.out.ref.cur who
        have HPO := Lib.hid hPO
        have HSg : Hid (∀ W, Blk W gc 109 #[.slice Al ls.length cl, .map (some mb), .int .i64 at_] → Blk W w.heap.size 70 #[.int .i64 at_, .string who, .int .i64 cost, .int .i64 long] → (Instr.lookup 106 (.map (some mb)) (.string who) false).run Tryz.prog W = .ok (.slice cur.A cur.p.length cur.cp) W →
            (W.cell? ⟨gc, 1, none⟩ = some (.map (some mb)) ∧ W.cell? ⟨w.heap.size, 0, none⟩ = some (.int .i64 at_) ∧ W.cell? ⟨w.heap.size, 1, none⟩ = some (.string who) ∧ W.cell? ⟨w.heap.size, 2, none⟩ = some (.int .i64 cost) ∧ W.cell? ⟨w.heap.size, 3, none⟩ = some (.int .i64 long) ∧ (Instr.lookup 106 (.map (some mb)) (.string who) false).run Tryz.prog W = .ok (.slice cur.A cur.p.length cur.cp) W ∧ gc < W.heap.size ∧ w.heap.size < W.heap.size)) :=
          Lib.hid (fun W k1 k2 k3 => ⟨(k1.cell 1).trans rfl, (k2.cell 0).trans rfl, (k2.cell 1).trans rfl, (k2.cell 2).trans rfl, (k2.cell 3).trans rfl, k3, k1.lt, k2.lt⟩)
        clear hCX hfr bV bA bR hlkX bG hlkx hPO
        go_wp2_with fail
        refine wp_region_held_ord (fun W => W.cell? ⟨gc, 1, none⟩ = some (.map (some mb)) ∧ W.cell? ⟨w.heap.size, 0, none⟩ = some (.int .i64 at_) ∧ W.cell? ⟨w.heap.size, 1, none⟩ = some (.string who) ∧ W.cell? ⟨w.heap.size, 2, none⟩ = some (.int .i64 cost) ∧ W.cell? ⟨w.heap.size, 3, none⟩ = some (.int .i64 long) ∧ (Instr.lookup 106 (.map (some mb)) (.string who) false).run Tryz.prog W = .ok (.slice cur.A cur.p.length cur.cp) W ∧ gc < W.heap.size ∧ w.heap.size < W.heap.size) [14, 15] [0, 1, 2, 3, 4, 5, 6, 7, 8, 9, 10, 11, 12, 13, 14, 15] (by kernel_rfl) (by kernel_rfl) (fun _ _ d _ _ h => by cases d <;> exact h) ?_ (fun hHeld => ?_)
        · exact HSg.out _ (HCX.out.blk.new'' ((Mod.refl _ _).drew)) (HBAX.out.new'' ((Mod.refl _ _).drew)) (HLKX.out _ ((Mod.refl _ _).drew))
        simp only [List.length_cons, List.length_nil, List.drop_succ_cons, List.drop_zero]
        refine heldO_take ?_ (by rfl) (by rfl) (by rfl) (fun w hSw => ?_) ?_
        rotate_left
        · (try dsimp only at hSw); go_simp; any_goals (with_reducible rfl)
        simp only [Act.put, List.setIfInBounds_toArray, List.set_cons_zero, List.set_cons_succ]
        refine heldO_take ?_ (by rfl) (by rfl) (by rfl) (fun w hSw => ?_) ?_
        rotate_left
        · (try dsimp only at hSw); go_simp; any_goals (with_reducible rfl)
        simp only [Act.put, List.setIfInBounds_toArray, List.set_cons_zero, List.set_cons_succ]
        refine heldO_take ?_ (by rfl) (by rfl) (by rfl) (fun w hSw => ?_) ?_
        rotate_left
        · (try dsimp only at hSw); go_simp; any_goals (with_reducible rfl)
        simp only [Act.put, List.setIfInBounds_toArray, List.set_cons_zero, List.set_cons_succ]
        refine heldO_take ?_ (by rfl) (by rfl) (by rfl) (fun w hSw => ?_) ?_
        rotate_left
        · (try dsimp only at hSw); go_simp; any_goals (with_reducible rfl)
        simp only [Act.put, List.setIfInBounds_toArray, List.set_cons_zero, List.set_cons_succ]
        refine heldO_take ?_ (by rfl) (by rfl) (by rfl) (fun w hSw => ?_) ?_
        rotate_left
        · (try dsimp only at hSw); go_simp; any_goals (with_reducible rfl)
        simp only [Act.put, List.setIfInBounds_toArray, List.set_cons_zero, List.set_cons_succ]
        refine heldO_take ?_ (by rfl) (by rfl) (by rfl) (fun w hSw => ?_) ?_
        rotate_left
        · (try dsimp only at hSw); go_simp; any_goals (with_reducible rfl)
        simp only [Act.put, List.setIfInBounds_toArray, List.set_cons_zero, List.set_cons_succ]
        refine heldO_take ?_ (by rfl) (by rfl) (by rfl) (fun w hSw => ?_) ?_
        rotate_left
        · (try dsimp only at hSw); go_simp; any_goals (with_reducible rfl)
        simp only [Act.put, List.setIfInBounds_toArray, List.set_cons_zero, List.set_cons_succ]
        refine heldO_take ?_ (by rfl) (by rfl) (by rfl) (fun w hSw => ?_) ?_
        rotate_left
        · (try dsimp only at hSw); go_simp; any_goals (with_reducible rfl)
        simp only [Act.put, List.setIfInBounds_toArray, List.set_cons_zero, List.set_cons_succ]
        refine heldO_take ?_ (by rfl) (by rfl) (by rfl) (fun w hSw => ?_) ?_
        rotate_left
        · (try dsimp only at hSw); go_simp; any_goals (with_reducible rfl)
        simp only [Act.put, List.setIfInBounds_toArray, List.set_cons_zero, List.set_cons_succ]
        refine heldO_take ?_ (by rfl) (by rfl) (by rfl) (fun w hSw => ?_) ?_
        rotate_left
        · (try dsimp only at hSw); go_simp; any_goals (with_reducible rfl)
        simp only [Act.put, List.setIfInBounds_toArray, List.set_cons_zero, List.set_cons_succ]
        refine heldO_take ?_ (by rfl) (by rfl) (by rfl) (fun w hSw => ?_) ?_
        rotate_left
        · (try dsimp only at hSw); go_simp; any_goals (with_reducible rfl)
        simp only [Act.put, List.setIfInBounds_toArray, List.set_cons_zero, List.set_cons_succ]
        refine heldO_take ?_ (by rfl) (by rfl) (by rfl) (fun w hSw => ?_) ?_
        rotate_left
        · (try dsimp only at hSw); go_simp; any_goals (with_reducible rfl)
        simp only [Act.put, List.setIfInBounds_toArray, List.set_cons_zero, List.set_cons_succ]
        refine heldO_take ?_ (by rfl) (by rfl) (by rfl) (fun w hSw => ?_) ?_
        rotate_left
        · (try dsimp only at hSw); go_simp; any_goals (with_reducible rfl)
        simp only [Act.put, List.setIfInBounds_toArray, List.set_cons_zero, List.set_cons_succ]
        refine heldO_take ?_ (by rfl) (by rfl) (by rfl) (fun w hSw => ?_) ?_
        rotate_left
        · (try dsimp only at hSw); go_simp; any_goals (with_reducible rfl)
        simp only [Act.put, List.setIfInBounds_toArray, List.set_cons_zero, List.set_cons_succ]
        refine heldO_step (by rfl) (by rfl) (by rfl) (fun K hK => ?_)
        go_simp
        have m4 : New X ((X.drewN 1).alloc (.cells #[.int .i64 at_, .string who, .int .i64 cost, .int .i64 long] 70)) := ((Mod.refl _ X).drewN 1).alloc _
        refine hK.out _ _ (HSg.out _ (HCX.out.blk.new'' m4) (HBAX.out.new'' m4) (HLKX.out _ m4)) (fun hHeld => ?_)
        clear hK K
        try simp only [Act.put, List.setIfInBounds_toArray, List.set_cons_zero, List.set_cons_succ]
        have own4 : PastOwn ((X.drewN 1).alloc (.cells #[.int .i64 at_, .string who, .int .i64 cost, .int .i64 long] 70)) B cur := HPO.out.new m4
        have blk4 : Blk ((X.drewN 1).alloc (.cells #[.int .i64 at_, .string who, .int .i64 cost, .int .i64 long] 70)) X.heap.size 70 (encL 4 AskD.enc ⟨at_, who, cost, long⟩).toArray := Blk.new (X.drewN 1) _ _
        have r4 := HCX.out.ref.new m4
        have hBX : B ≤ ((X.drewN 1).alloc (.cells #[.int .i64 at_, .string who, .int .i64 cost, .int .i64 long] 70)).heap.size := by have := HM2.out.size; simp; omega
        have hfarA : ∀ x, blkOf cur.A = some x → x < w.heap.size := fun x hx => by
          have h0 : PastOwn w B cur := by rw [← HCUR.out]; exact HM.out.ref.cur who
          rcases h0.blk with ⟨h1, _⟩ | ⟨g', h1, _, ht⟩
          · rw [h1] at hx; cases hx
          · rw [h1] at hx; injection hx with hx; simp only at hx; subst hx; exact ht.lt
        have HFA := Lib.hid hfarA
        have HBX := Lib.hid hBX
        clear hfarA hBX
        refine heldO_step (by rfl) (by rfl) (by rfl) (fun K hK => ?_)
        refine wp_push (.tmp 81) (.tmp 83) _ rfl 40 Tryz.underlying47 einfo_ask rfl (by exact own4) ⟨at_, who, cost, long⟩ X.heap.size rfl (by exact blk4) (fun j hj => AskD.one _ j hj) (by omega) (by omega) HBX.out ?_
        intro g5 cap5 w5 own5 hm5 hat5 hlt5
        have hcb : ∀ x, blkOf cur.A = some x → TB ((X.drewN 1).alloc (.cells #[.int .i64 at_, .string who, .int .i64 cost, .int .i64 long] 70)) x 70 := fun x hx => by
          rcases own4.blk with ⟨h1, _⟩ | ⟨g', h1, h2, ht⟩
          · rw [h1] at hx; cases hx
          · rw [h1] at hx; injection hx with hx; simp only at hx; subst hx; exact ht
        have b5 := (HBAX.out.new'' m4).mod hm5 (fun e => by have := HFA.out _ e; omega)
        have bg5 := (HCX.out.blk.new'' m4).mod hm5 (fun e => (HCX.out.blk.new'' m4).tb.ne (hcb _ e) (by decide) rfl)
        have map5 := r4.map.mod hm5 (r4.ne (who := who) own4)
        have hlk5 : (Instr.lookup 106 (.map (some mb)) (.string who) false).run Tryz.prog w5 = .ok (.slice cur.A cur.p.length cur.cp) w5 := by
          have h1 := run_lookup (P := Tryz.prog) (K := strKeys) Tryz.underlying106 Tryz.underlying9 (z := .slice none 0 0) (by kernel_rfl) map5 who
          rw [aget_val PastD.val] at h1
          refine h1.trans ?_
          rw [← HCUR.out]
          unfold curD
          cases gget π who <;> rfl
        refine hK.out _ _ (HSg.out _ bg5 b5 hlk5) (fun hHeld => ?_)
        clear hK K hlk5
        try simp only [Act.put, List.setIfInBounds_toArray, List.set_cons_zero, List.set_cons_succ]
        refine heldO_nil ?_
        at_mapUpdate
        refine wpList_mapPut (K := strKeys) rfl _ _ _ _ rfl Tryz.underlying106 Tryz.underlying9 rfl map5 who rfl (.slice (some ⟨g5, 0, none⟩) (cur.p.length + 1) cap5) rfl ?_
        intro w6 map6 ho6 hs6
        clear hs6
        have hs' : PastOwn w5 B ⟨some ⟨g5, 0, none⟩, cap5, cur.p ++ [⟨at_, who, cost, long⟩]⟩ := by
          show Own w5 B 70 4 AskD.enc (some ⟨g5, 0, none⟩) (cur.p ++ [(⟨at_, who, cost, long⟩ : AskD)]).length cap5 _
          rw [List.length_append]; exact own5
        have hmap6 : MapOf strKeys w6 mb ((gput π who ⟨some ⟨g5, 0, none⟩, cap5, cur.p ++ [⟨at_, who, cost, long⟩]⟩).map fun p => (p.1, p.2.val)) := by
          rw [← aput_val PastD.val]
          show MapOf strKeys w6 mb (aput _ who (.slice (some ⟨g5, 0, none⟩) (cur.p ++ [(⟨at_, who, cost, long⟩ : AskD)]).length cap5))
          rw [List.length_append]; exact map6
        have refW : RefAt w6 B mb (gput π who ⟨some ⟨g5, 0, none⟩, cap5, cur.p ++ [⟨at_, who, cost, long⟩]⟩) := by
          refine r4.put (who := who) (w1 := w5) (by rw [HCUR.out]; exact hm5) hs' (fun x hx => ?_) hmap6 ho6
          rw [HCUR.out]
          injection hx with hx
          simp only at hx
          subst hx
          rcases hat5 with h1 | h1
          · exact .inl h1
          · right; rw [h1]; exact Nat.le_refl _
        have hne5 : ∀ g T, TB w5 g T → ¬ g = mb := fun g T ht e => map5.ne_blk ht e
        have hC6 : CounterAt w6 B gc mb Al cl ls at_ (gput π who ⟨some ⟨g5, 0, none⟩, cap5, cur.p ++ [⟨at_, who, cost, long⟩]⟩) :=
          ⟨HCX.out.b0, bg5.mod ho6 (hne5 _ _ bg5.tb), refW, ((HCX.out.lims.new m4).mod hm5 (fun g ht e => ht.ne (hcb _ e) (by decide) rfl)).mod ho6 (fun g ht e => hne5 _ _ ht e)⟩
        have v5 := (HBVX.out.new'' m4).mod hm5 (fun e => (HBVX.out.new'' m4).tb.ne (hcb _ e) (by decide) rfl)
        have bV6 := v5.mod ho6 (hne5 _ _ v5.tb)
        have rr5 := (HBRX.out.new'' m4).mod hm5 (fun e => (HBRX.out.new'' m4).tb.ne (hcb _ e) (by decide) rfl)
        have bR6 := rr5.mod ho6 (hne5 _ _ rr5.tb)
        have hF6 : Mod (fun x => x = gc ∨ x = mb ∨ blkOf cur.A = some x) w w6 := (((HFR.out.mono (fun _ _ e => .inl e)).step m4 (fun i _ e => e.elim)).step hm5 (fun i _ e => .inr (.inr e))).step ho6 (fun i _ e => .inr (.inl e))
        have HP2 : Hid (pureR (gput π who ⟨some ⟨g5, 0, none⟩, cap5, cur.p ++ [⟨at_, who, cost, long⟩]⟩) = putR ls (pureR π) ⟨at_, who, cost, long⟩) := Lib.hid (by
          rw [HPUT.out, if_pos trivial]
          unfold pureR
          rw [gput_gmap])
        have HLE : Hid ((gput π who (⟨some ⟨g5, 0, none⟩, cap5, cur.p ++ [⟨at_, who, cost, long⟩]⟩ : PastD)).length ≤ π.length + 1) := Lib.hid (gput_length π who _)
        have HLN : Hid (∀ n, (∀ who s, gget π who = some s → s.p.length ≤ n) → ∀ who' s, gget (gput π who (⟨some ⟨g5, 0, none⟩, cap5, cur.p ++ [⟨at_, who, cost, long⟩]⟩ : PastD)) who' = some s → s.p.length ≤ n + 1) := Lib.hid (fun n hh who' s' hg => by
          rw [gget_gput] at hg
          split at hg
          · injection hg with hg
            subst hg
            simp only [List.length_append, List.length_cons, List.length_nil]
            rw [← HCUR.out]
            unfold curD
            cases e : gget π who with
            | none => simp [past0]
            | some s0 => have := hh who s0 e; simp only [Option.getD_some]; omega
          · have := hh who' s' hg; omega)
        clear hmap6 hs' map6 map5 b5 bg5 r4 own4 blk4 own5 hm5 hat5 v5 rr5 hne5 hcb refW m4 a0 a1 a2 a3 g1 v0 v1 v2 hal hgl hvl hlt5 ho6
        generalize gput π who (⟨some ⟨g5, 0, none⟩, cap5, cur.p ++ [⟨at_, who, cost, long⟩]⟩ : PastD) = π' at *
        have HC6 := Lib.hid hC6
        have HF6 := Lib.hid hF6
        have HBR6 := Lib.hid bR6
        have v0 := bV6.cell 0
        have v1 := bV6.cell 1
        have v2 := bV6.cell 2
        have hvl := bV6.lt
        have r0 := bR6.cell 0
        have r1 := bR6.cell 1
        have r2 := bR6.cell 2
        have fr := bR6.frozen
        have hrl := bR6.lt
        simp at v0 v1 v2 r0 r1 r2
        clear hC6 hF6 bR6 bV6
        go_wp2_with fail
        refine bodyPost_ret (v := .tuple #[.agg #[.bool true, .string by_, .int .i64 wt], .int .i64 0]) (by simp [results, Tryz.results40, go_sem, r0, r1, r2, fr, v0, v1, v2]) rfl (.inr ⟨HE.out, π', by rw [HCR.out, HVV.out]; rfl, HP2.out, ?_, HLE.out, HLN.out, ?_⟩)
        · exact HC6.out.only HBR6.out.tb (Only.cell3 _ _ _ _ _) (by decide) (by decide) (by decide)
        · rw [HCUR.out]
          exact HF6.out.step (Only.cell3 _ _ _ _ _) (fun i hi e => by omega)

end Go.Proofs.YtinnckbffblecaaGreat

namespace Go.Proofs.YtinnckbffblecaaGreat
open Go.RowKit Go.MapKept
set_option linter.unusedVariables false
set_option linter.unusedSimpArgs false


theorem heldO_stepG {P : Program} {ops : Array Oper} {Q : Exit → Act → World → Prop} {S : World → Prop} {cs : List Nat} {L : Act → World → Prop} {k : Nat} {o : Oper} {l : List Nat} {a : Act} {w : World} (hk : cs.contains k = true) (ho : ops[k]? = some o) (hg : Region.wanted o (yielded ops a.tmps) = true)
    (h : ∀ K : Act → World → Prop, Shut (∀ a' w', S w' → (S w' → wpHeldO P ops Q S cs L l a' w') → K a' w') → o.wp P a w K Q) : wpHeldO P ops Q S cs L (k :: l) a w := by
  unfold wpHeldO
  rw [if_pos hk]
  unfold wpOp
  simp only [ho]
  rw [if_pos hg]
  exact .inl (h _ (fun a' w' h1 h2 => ⟨h1, h2 h1⟩))

theorem freshR_take {ls : List Lim} {p : List AskD} {t : Int} {j : Nat} (h : j < ls.length) : freshR (ls.take (j + 1)) p t = (freshR (ls.take j) p t && idleR ls[j] p t) := by
  unfold freshR
  rw [List.take_succ_eq_append_getElem h, List.all_append]
  simp
def RForgetR (w : World) (B gc mb : Nat) (Al : Option Addr) (cl : Nat) (ls : List Lim) (now : Int) (π : List (ByteArray × PastD)) (t : Int) (e : Ending) (w' : World) : Prop :=
  (forF now t ≠ 0 ∧ e = .returned (.tuple #[.int .i64 0, .int .i64 (forF now t)]) ∧ New w w') ∨
  (forF now t = 0 ∧ ∃ π', e = .returned (.tuple #[.int .i64 (π'.length : Int), .int .i64 0]) ∧ pureR π' = forgetR ls (pureR π) t ∧ (∀ who s, gget π' who = some s → gget π who = some s) ∧ π'.length ≤ π.length ∧ CounterAt w' B gc mb Al cl ls t π' ∧ Mod (fun x => x = gc ∨ x = mb) w w')
theorem counter_nodup {w : World} {B gc mb : Nat} {Al : Option Addr} {cl : Nat} {ls : List Lim} {now : Int} {π : List (ByteArray × PastD)} (h : CounterAt w B gc mb Al cl ls now π) : (gkeys π).Nodup := by
  obtain ⟨es, clock, _, hs, he⟩ := h.ref.map
  have := MapOf.nodup hs he
  rw [List.map_map] at this
  exact this

set_option maxRecDepth 100000 in
set_option maxHeartbeats 4000000 in
theorem counter_forget (gc mb B : Nat) (Al : Option Addr) (cl : Nat) (ls : List Lim) (now : Int) (π : List (ByteArray × PastD)) (t : Int) (w : World)
    (hM : CounterAt w B gc mb Al cl ls now π) (hR : ∀ l ∈ ls, RLim' l) (hI : RInv ls (pureR π) now) (hpl : ∀ who s, gget π who = some s → s.p.length ≤ 10000) (hnow : 0 ≤ now) (hn : ls.length ≤ 1000) :
    Calls Tryz.prog 36 #[.pointer (some ⟨gc, 0, none⟩), .int .i64 t] w (RForgetR w B gc mb Al cl ls now π t) := by
  have hmf := ref_momentFault t w
  have hgl := hM.blk.lt
  cases hm : isMoment t with
  | false =>
    have HF : Hid (forF now t = 1) := Lib.hid (by unfold forF; simp [hm])
    rw [hm] at hmf
    simp only [Bool.false_eq_true, if_false] at hmf
    go_enter Tryz.func36, Tryz.ntmps36
    go_wp2_with fail
    refine hmf.mono ?_
    clear hmf
    rintro e w1 ⟨rfl, rfl⟩
    go_wp2_with fail
    go_ret2
    exact .inl ⟨by rw [HF.out]; decide, by rw [HF.out]; rfl, Mod.refl _ _⟩
  | true =>
    rw [hm] at hmf
    simp only [if_true] at hmf
    have hmt : 0 ≤ t ∧ t < 345686400000 := by unfold isMoment at hm; simpa using hm
    have c2 := hM.blk.cell 2
    have fg := hM.blk.frozen 2
    simp at c2
    by_cases hlt : t < now
    · have HF : Hid (forF now t = 7) := Lib.hid (by unfold forF; simp [hm, hlt])
      have hd : decide (t < now) = true := by simpa using hlt
      clear hm
      go_enter Tryz.func36, Tryz.ntmps36
      go_wp2_with fail
      refine hmf.mono ?_
      clear hmf
      rintro e w1 ⟨rfl, rfl⟩
      go_wp2_with fail
      go_ret2
      exact .inl ⟨by rw [HF.out]; decide, by rw [HF.out]; rfl, Mod.refl _ _⟩
    · have HF : Hid (forF now t = 0) := Lib.hid (by unfold forF; simp [hm, hlt])
      have hd : decide (t < now) = false := by simpa using hlt
      have HR := Lib.hid hR
      have HI := Lib.hid hI
      have HPL := Lib.hid hpl
      have HND := Lib.hid (counter_nodup hM)
      have hM1 := hM.setNow t
      have hO1 : Only gc w (w.setCell ⟨gc, 2, none⟩ (.int .i64 t)) := Mod.setCell (S := fun k => k = gc) (p := ⟨gc, 2, none⟩) (Mod.refl _ _) (.inl rfl) _
      have HM1 := Lib.hid hM1
      have HO1 := Lib.hid hO1
      clear hm hM hR hI hpl hM1 hO1
      go_enter Tryz.func36, Tryz.ntmps36
      go_wp2_with fail
      refine hmf.mono ?_
      clear hmf
      rintro e w1 ⟨rfl, rfl⟩
      go_upto_region 7 with (fail)
      generalize w.setCell ⟨gc, 2, none⟩ (.int .i64 t) = w1 at *
      clear c2 fg hgl
      have c0 := HM1.out.blk.cell 0
      have c1 := HM1.out.blk.cell 1
      have hg1 := HM1.out.blk.lt
      simp at c0 c1
      obtain ⟨o, hrange, hsw⟩ := sweep_start (P := Tryz.prog) Tryz.underlying106 HM1.out.ref.map (fshR ls (pureR π) t)
      have HSW := Lib.hid hsw
      clear hsw
      go_wp2_with fail
      clear hrange c0 c1
      have hmb1 := HM1.out.ref.map.lt
      have hgmb : gc ≠ mb := fun e => HM1.out.ref.map.ne_blk HM1.out.blk.tb e
      go_loopw [7, 8] (fun _ _ wr => SweepAt wr w1.heap.size mb (π.map fun p => (p.1, p.2.val)) (fshR ls (pureR π) t) ∧ Only mb w1 wr) (fun _ _ wr => sweepLeft w1.heap.size wr)
      case atStart => exact ⟨HSW.out, (Mod.refl _ _).alloc _⟩
      case round =>
        rename_i wr
        obtain ⟨hswr, hor⟩ := hrel
        have HOR := Lib.hid hor
        rcases sweep_next (P := Tryz.prog) hswr with ⟨hmap, hn2⟩ | ⟨p, hp, wn, hn2, hon, hcur⟩
        · have hmap' : MapOf strKeys wr mb ((π.filter fun q => !fshR ls (pureR π) t q.1).map fun p => (p.1, p.2.val)) := by
            rw [List.filter_map] at hmap
            exact hmap
          have hlm := fun ty => run_len_map (P := Tryz.prog) 106 ty Tryz.underlying106 hmap'
          simp only [List.length_map] at hlm
          have b1 := HM1.out.blk.mod hor hgmb
          have d1 := b1.cell 1
          have hgr := b1.lt
          simp at d1
          have HMAP := Lib.hid hmap'
          have HB1 := Lib.hid b1
          clear hmap hmap' hswr hor b1
          go_wp2_with fail
          go_ret2
          have hsub : ∀ who s, gget (π.filter fun q => !fshR ls (pureR π) t q.1) who = some s → gget π who = some s := fun who s hg => by
            rw [gget_filter HND.out] at hg
            cases e : gget π who with
            | none => rw [e] at hg; cases hg
            | some q =>
              rw [e] at hg
              simp only [Option.bind_some] at hg
              split at hg
              · exact hg
              · cases hg
          refine .inr ⟨HF.out, π.filter fun q => !fshR ls (pureR π) t q.1, rfl, ?_, hsub, List.length_filter_le _ _, ?_, ?_⟩
          · have h1 := gmap_filter (fun s : PastD => s.p) (fun who => !fshR ls (pureR π) t who) π
            rw [forgetR_key (by unfold pureR; rw [gmap_keys]; exact HND.out)]
            exact h1
          · refine ⟨HM1.out.b0, HB1.out, ⟨HM1.out.ref.b0, HMAP.out, fun who s hg => ?_, fun a b s s' hab h1 h2 => HM1.out.ref.apart a b s s' hab (hsub a s h1) (hsub b s' h2)⟩, HM1.out.lims.mod HOR.out (fun g hg e => HM1.out.ref.map.ne_blk hg e)⟩
            have ho := HM1.out.ref.own who s (hsub who s hg)
            exact ho.mod HOR.out (fun x hx e => by subst e; exact HM1.out.ref.ne (who := who) ho hx)
          · exact (HO1.out.mono (fun _ _ e => .inl e)).step HOR.out (fun i _ e => .inr e)
        · obtain ⟨⟨who, s⟩, hq, hpe⟩ := List.mem_map.1 hp
          subst hpe
          have hgs := gget_mem HND.out hq
          have hnd2 : Only mb w1 wn := hor.step hon (fun i hi e => by omega)
          have ho1 := HM1.out.ref.own who s hgs
          have hown := ho1.mod hnd2 (fun x hx e => by subst e; exact HM1.out.ref.ne (who := who) ho1 hx)
          have hcc : fshR ls (pureR π) t who = freshR ls s.p t := by
            unfold fshR
            rw [curR_pure]
            unfold curD
            rw [hgs]; rfl
          have hcp := HI.out.cur who
          have hpo := HI.out.pour who (show now ≤ t by omega)
          rw [curR_pure] at hcp hpo
          have hcd : curD π who = s := by unfold curD; rw [hgs]; rfl
          rw [hcd] at hcp hpo
          have hpl := HPL.out who s hgs
          have hent := hcur.entry (P := Tryz.prog)
          have hlims := HM1.out.lims.mod hnd2 (fun g hg e => HM1.out.ref.map.ne_blk hg e)
          have bgn := HM1.out.blk.mod hnd2 hgmb
          have c0 := bgn.cell 0
          have hg2 := bgn.lt
          simp at c0
          have HCUR := Lib.hid hcur
          have HN2 := Lib.hid hnd2
          have HCC := Lib.hid hcc
          have HCP := Lib.hid hcp
          have HPO := Lib.hid hpo
          have HOWN := Lib.hid hown
          have HLIM := Lib.hid hlims
          have HBG := Lib.hid bgn
          simp only [PastD.val] at hn2 hent
          clear hcur hnd2 hcc hcp hpo hown hlims bgn ho1 hcd hswr hor
          go_wp2_with fail
          clear hn2 hent c0
          have hz9 : True := trivial
          go_loopw [9, 43] (fun f i wq => ∃ j : Nat, j ≤ ls.length ∧ i = .int .i64 j ∧ f = .bool (freshR (ls.take j) s.p t) ∧ Hid (New wn wq)) (fun _ i _ => ls.length - (intOf i).toNat)
          case atStart => exact ⟨0, Nat.zero_le _, rfl, rfl, Lib.hid (Mod.refl _ _)⟩
          case round =>
            rename World => wq
            obtain ⟨j, hj, rfl, rfl, HNQ⟩ := hrel
            by_cases hjl : j < ls.length
            · obtain ⟨gl, ol, hAl, htl, hcl⟩ := (HLIM.out.new HNQ.out).2 (by omega)
              subst hAl
              have l0 := hcl j hjl 0 (by omega)
              have l1 := hcl j hjl 1 (by omega)
              have l2 := hcl j hjl 2 (by omega)
              have l3 := hcl j hjl 3 (by omega)
              have l4 := hcl j hjl 4 (by omega)
              simp only [Lim.enc, Nat.add_zero] at l0 l1 l2 l3 l4
              have hgll := htl.lt
              have hb1 : (0 : Int) ≤ j := by omega
              have hb2 : (j : Int) < ls.length := by omega
              have hrl := HR.out _ (List.getElem_mem hjl)
              have hpc := HPO.out _ (List.getElem_mem hjl)
              have HTK := Lib.hid (freshR_take (p := s.p) (t := t) hjl)
              clear hcl
              generalize ls[j] = l at *
              generalize freshR (ls.take j) s.p t = F at *
              have hus : l.kind ≠ 3 → ∀ W, New wn W → Calls Tryz.prog 69 #[l.val, .slice s.A s.p.length s.cp, .int .i64 t] W fun e w' => e = .returned (.int .i64 (usedR l s.p t)) ∧ New W w' := fun h3 W hW => ref_used l hrl h3 s.p s.A s.p.length s.cp t W (HOWN.out.sl.new hW) HCP.out.1.each (by omega) ⟨hmt.1, by omega⟩
              have hfi : l.kind = 3 → ∀ W, New wn W → Calls Tryz.prog 68 #[l.val, .slice s.A s.p.length s.cp, .int .i64 t] W fun e w' => e = .returned (.int .i64 (filledR l s.p t)) ∧ New W w' := fun h3 W hW => ref_filled l hrl h3 s.p s.A s.p.length s.cp t W (HOWN.out.sl.new hW) HCP.out.1.each (hpc h3).1 (hpc h3).2 (by omega) ⟨hmt.1, by omega⟩
              have hbf : l.kind = 3 → IntKind.i64.wrap (l.burst * l.per) = l.burst * l.per := fun h3 => by
                have := (hrl.b h3).full
                exact IntWalk.i64_in _ (by omega)
              have HUS := Lib.hid hus
              have HFI := Lib.hid hfi
              have HBF := Lib.hid hbf
              clear hus hfi hbf hpc hrl
              by_cases h3 : l.kind = 3
              · have HID : Hid (idleR l s.p t = (filledR l s.p t == l.burst * l.per)) := Lib.hid (by unfold idleR fullR; rw [if_pos h3])
                have hcall0 := HFI.out h3
                have e1 := HBF.out h3
                generalize filledR l s.p t = X at *
                obtain ⟨key, kind, most, per, burst⟩ := l
                simp only at h3 l0 l1 l2 l3 l4 e1 HID
                subst h3
                simp only [Lim.val] at hcall0
                have HC0 := Lib.hid hcall0
                clear hcall0 HUS HFI HBF
                have mx : New wn (wq.alloc (.cells #[.string key, .int .i64 3, .int .i64 most, .int .i64 per, .int .i64 burst] 28)) := HNQ.out.alloc _
                have bx := Blk.new wq 28 #[.string key, .int .i64 3, .int .i64 most, .int .i64 per, .int .i64 burst]
                go_wp2_with fail
                generalize wq.alloc (.cells #[.string key, .int .i64 3, .int .i64 most, .int .i64 per, .int .i64 burst] 28) = wx at *
                refine wp_region_held_ord (fun w' => w'.cell? ⟨wq.heap.size, 0, none⟩ = some (.string key) ∧ w'.cell? ⟨wq.heap.size, 1, none⟩ = some (.int .i64 3) ∧ w'.cell? ⟨wq.heap.size, 2, none⟩ = some (.int .i64 most) ∧ w'.cell? ⟨wq.heap.size, 3, none⟩ = some (.int .i64 per) ∧ w'.cell? ⟨wq.heap.size, 4, none⟩ = some (.int .i64 burst) ∧ wq.heap.size < w'.heap.size) [7] [0, 1, 2, 3, 4, 5, 6, 8, 9, 10, 11, 12, 7, 13, 14] (by kernel_rfl) (by kernel_rfl) (fun _ _ d _ _ h => by cases d <;> exact h) ?_ (fun hHeld => ?_)
                · exact ⟨(bx.cell 0).trans rfl, (bx.cell 1).trans rfl, (bx.cell 2).trans rfl, (bx.cell 3).trans rfl, (bx.cell 4).trans rfl, bx.lt⟩
                simp only [List.length_cons, List.length_nil, List.drop_succ_cons, List.drop_zero]
                refine heldO_take ?_ (by rfl) (by rfl) (by rfl) (fun w hSw => ?_) ?_
                rotate_left
                · (try dsimp only at hSw); (try simp only [List.getElem_toArray, List.getElem_cons_zero, List.getElem_cons_succ]); go_simp; any_goals (with_reducible rfl)
                simp only [Act.put, List.getElem_toArray, List.getElem_cons_zero, List.getElem_cons_succ, List.setIfInBounds_toArray, List.set_cons_zero, List.set_cons_succ]
                refine heldO_take ?_ (by rfl) (by rfl) (by rfl) (fun w hSw => ?_) ?_
                rotate_left
                · (try dsimp only at hSw); (try simp only [List.getElem_toArray, List.getElem_cons_zero, List.getElem_cons_succ]); go_simp; any_goals (with_reducible rfl)
                simp only [Act.put, List.getElem_toArray, List.getElem_cons_zero, List.getElem_cons_succ, List.setIfInBounds_toArray, List.set_cons_zero, List.set_cons_succ]
                refine heldO_take ?_ (by rfl) (by rfl) (by rfl) (fun w hSw => ?_) ?_
                rotate_left
                · (try dsimp only at hSw); (try simp only [List.getElem_toArray, List.getElem_cons_zero, List.getElem_cons_succ]); go_simp; any_goals (with_reducible rfl)
                simp only [Act.put, List.getElem_toArray, List.getElem_cons_zero, List.getElem_cons_succ, List.setIfInBounds_toArray, List.set_cons_zero, List.set_cons_succ]
                refine heldO_take ?_ (by rfl) (by rfl) (by rfl) (fun w hSw => ?_) ?_
                rotate_left
                · (try dsimp only at hSw); (try simp only [List.getElem_toArray, List.getElem_cons_zero, List.getElem_cons_succ]); go_simp; any_goals (with_reducible rfl)
                simp only [Act.put, List.getElem_toArray, List.getElem_cons_zero, List.getElem_cons_succ, List.setIfInBounds_toArray, List.set_cons_zero, List.set_cons_succ]
                refine heldO_take ?_ (by rfl) (by rfl) (by rfl) (fun w hSw => ?_) ?_
                rotate_left
                · (try dsimp only at hSw); (try simp only [List.getElem_toArray, List.getElem_cons_zero, List.getElem_cons_succ]); go_simp; any_goals (with_reducible rfl)
                simp only [Act.put, List.getElem_toArray, List.getElem_cons_zero, List.getElem_cons_succ, List.setIfInBounds_toArray, List.set_cons_zero, List.set_cons_succ]
                refine heldO_take ?_ (by rfl) (by rfl) (by rfl) (fun w hSw => ?_) ?_
                rotate_left
                · (try dsimp only at hSw); (try simp only [List.getElem_toArray, List.getElem_cons_zero, List.getElem_cons_succ]); go_simp; any_goals (with_reducible rfl)
                simp only [Act.put, List.getElem_toArray, List.getElem_cons_zero, List.getElem_cons_succ, List.setIfInBounds_toArray, List.set_cons_zero, List.set_cons_succ]
                refine heldO_take ?_ (by rfl) (by rfl) (by rfl) (fun w hSw => ?_) ?_
                rotate_left
                · (try dsimp only at hSw); (try simp only [List.getElem_toArray, List.getElem_cons_zero, List.getElem_cons_succ]); go_simp; any_goals (with_reducible rfl)
                simp only [Act.put, List.getElem_toArray, List.getElem_cons_zero, List.getElem_cons_succ, List.setIfInBounds_toArray, List.set_cons_zero, List.set_cons_succ]
                refine heldO_take ?_ (by rfl) (by rfl) (by rfl) (fun w hSw => ?_) ?_
                rotate_left
                · (try dsimp only at hSw); (try simp only [List.getElem_toArray, List.getElem_cons_zero, List.getElem_cons_succ]); go_simp; any_goals (with_reducible rfl)
                simp only [Act.put, List.getElem_toArray, List.getElem_cons_zero, List.getElem_cons_succ, List.setIfInBounds_toArray, List.set_cons_zero, List.set_cons_succ]
                refine heldO_take ?_ (by rfl) (by rfl) (by rfl) (fun w hSw => ?_) ?_
                rotate_left
                · (try dsimp only at hSw); (try simp only [List.getElem_toArray, List.getElem_cons_zero, List.getElem_cons_succ]); go_simp; any_goals (with_reducible rfl)
                simp only [Act.put, List.getElem_toArray, List.getElem_cons_zero, List.getElem_cons_succ, List.setIfInBounds_toArray, List.set_cons_zero, List.set_cons_succ]
                refine heldO_take ?_ (by rfl) (by rfl) (by rfl) (fun w hSw => ?_) ?_
                rotate_left
                · (try dsimp only at hSw); (try simp only [List.getElem_toArray, List.getElem_cons_zero, List.getElem_cons_succ]); go_simp; any_goals (with_reducible rfl)
                simp only [Act.put, List.getElem_toArray, List.getElem_cons_zero, List.getElem_cons_succ, List.setIfInBounds_toArray, List.set_cons_zero, List.set_cons_succ]
                refine heldO_take ?_ (by rfl) (by rfl) (by rfl) (fun w hSw => ?_) ?_
                rotate_left
                · (try dsimp only at hSw); (try simp only [List.getElem_toArray, List.getElem_cons_zero, List.getElem_cons_succ]); go_simp; any_goals (with_reducible rfl)
                simp only [Act.put, List.getElem_toArray, List.getElem_cons_zero, List.getElem_cons_succ, List.setIfInBounds_toArray, List.set_cons_zero, List.set_cons_succ]
                refine heldO_take ?_ (by rfl) (by rfl) (by rfl) (fun w hSw => ?_) ?_
                rotate_left
                · (try dsimp only at hSw); (try simp only [List.getElem_toArray, List.getElem_cons_zero, List.getElem_cons_succ]); go_simp; any_goals (with_reducible rfl)
                simp only [Act.put, List.getElem_toArray, List.getElem_cons_zero, List.getElem_cons_succ, List.setIfInBounds_toArray, List.set_cons_zero, List.set_cons_succ]
                have hcall := HC0.out (wx.drewN 1) (mx.drewN 1)
                refine heldO_stepG (by rfl) (by rfl) (by rfl) (fun K hK => ?_)
                simp only [List.getElem_toArray, List.getElem_cons_zero, List.getElem_cons_succ]
                go_simp
                refine hcall.mono ?_
                clear hcall
                rintro e w5 ⟨rfl, hm5⟩
                have m15 : New wx w5 := ((Mod.refl _ wx).drewN 1).trans hm5
                have b5 := bx.new'' m15
                go_wp2_with fail
                refine hK.out _ _ ⟨(b5.cell 0).trans rfl, (b5.cell 1).trans rfl, (b5.cell 2).trans rfl, (b5.cell 3).trans rfl, (b5.cell 4).trans rfl, b5.lt⟩ (fun hHeld => ?_)
                clear hK K
                try simp only [Act.put, List.setIfInBounds_toArray, List.set_cons_zero, List.set_cons_succ]
                refine heldO_take ?_ (by rfl) (by rfl) (by rfl) (fun w hSw => ?_) ?_
                rotate_left
                · (try dsimp only at hSw); (try simp only [List.getElem_toArray, List.getElem_cons_zero, List.getElem_cons_succ]); go_simp; any_goals (with_reducible rfl)
                simp only [Act.put, List.getElem_toArray, List.getElem_cons_zero, List.getElem_cons_succ, List.setIfInBounds_toArray, List.set_cons_zero, List.set_cons_succ]
                refine heldO_take ?_ (by rfl) (by rfl) (by rfl) (fun w hSw => ?_) ?_
                rotate_left
                · (try dsimp only at hSw); (try simp only [List.getElem_toArray, List.getElem_cons_zero, List.getElem_cons_succ]); go_simp; any_goals (with_reducible rfl)
                simp only [Act.put, List.getElem_toArray, List.getElem_cons_zero, List.getElem_cons_succ, List.setIfInBounds_toArray, List.set_cons_zero, List.set_cons_succ]
                refine heldO_nil ?_
                have x1 := b5.cell 1
                have hxl := b5.lt
                simp only [List.getElem?_toArray, List.getElem?_cons_zero, List.getElem?_cons_succ] at x1
                clear e1
                generalize (X == burst * per) = fb at *
                have mq : Hid (New wn w5) := Lib.hid (mx.trans m15)
                clear bx b5 mx m15 hm5
                cases F <;> cases fb <;> go_wp2_with fail
                all_goals exact ⟨⟨j + 1, by omega, by go_num, by rw [HTK.out, HID.out]; rfl, mq⟩, by simp [intOf]; omega⟩
              · have HID : Hid (idleR l s.p t = (usedR l s.p t == 0)) := Lib.hid (by unfold idleR; rw [if_neg h3])
                have hcall0 := HUS.out h3
                have hk3 : (l.kind == 3) = false := by simpa using h3
                have hk4 : (l.kind != 3) = true := by simpa using h3
                generalize usedR l s.p t = X at *
                obtain ⟨key, kind, most, per, burst⟩ := l
                simp only at hk3 hk4 l0 l1 l2 l3 l4
                simp only [Lim.val] at hcall0
                have HC0 := Lib.hid hcall0
                clear hcall0 HUS HFI HBF h3
                have mx : New wn (wq.alloc (.cells #[.string key, .int .i64 kind, .int .i64 most, .int .i64 per, .int .i64 burst] 28)) := HNQ.out.alloc _
                have bx := Blk.new wq 28 #[.string key, .int .i64 kind, .int .i64 most, .int .i64 per, .int .i64 burst]
                have x0 := bx.cell 0
                have x1 := bx.cell 1
                have x2 := bx.cell 2
                have x3 := bx.cell 3
                have x4 := bx.cell 4
                have hxl := bx.lt
                simp only [List.getElem?_toArray, List.getElem?_cons_zero, List.getElem?_cons_succ] at x0 x1 x2 x3 x4
                go_wp2_with fail
                cases F with
                | false =>
                  go_quiet (fail)
                  go_wp2_with fail
                  exact ⟨⟨j + 1, by omega, by go_num, by rw [HTK.out]; rfl, Lib.hid (mx.drewN _)⟩, by simp [intOf]; omega⟩
                | true =>
                  go_quiet (fail)
                  go_wp2_with fail
                  refine (HC0.out _ (mx.drewN _)).mono ?_
                  rintro e w5 ⟨rfl, hm5⟩
                  go_wp2_with fail
                  exact ⟨⟨j + 1, by omega, by go_num, by rw [HTK.out, HID.out]; rfl, Lib.hid ((mx.drewN _).trans hm5)⟩, by simp [intOf]; omega⟩
            · obtain rfl : j = ls.length := by omega
              rw [List.take_of_length_le (Nat.le_refl _), ← HCC.out]
              have bg2 := HBG.out.new'' HNQ.out
              have d1 := bg2.cell 1
              have hgr := bg2.lt
              simp at d1
              have hc5 := HCUR.out.mod HNQ.out (fun e => e) (fun e => e)
              have HN5 : Hid (Only mb w1 wq) := Lib.hid (HN2.out.step HNQ.out (fun i _ e => e.elim))
              clear bg2
              cases hfr : fshR ls (pureR π) t who with
              | true =>
                have HFR := Lib.hid hfr
                clear hfr
                go_wp2_with (at_delete; refine wpList_sweepDrop rfl _ _ _ _ rfl Tryz.underlying106 Tryz.underlying9 rfl hc5 HFR.out rfl ?_; intro w6 hs6 hl6 ho6 hz6)
                refine ⟨?_, hl6⟩
                repeat (first | exact ⟨⟨hs6, HN5.out.trans ho6⟩, rfl⟩ | apply Exists.intro)
              | false =>
                have HFR := Lib.hid hfr
                clear hfr
                obtain ⟨hs6, hl6⟩ := hc5.keep HFR.out
                clear hc5
                go_wp2_with fail
                exact ⟨⟨hs6, HN5.out⟩, hl6⟩

end Go.Proofs.YtinnckbffblecaaGreat

namespace Go.Proofs.YtinnckbffblecaaGreat
open Go.RowKit Go.MapKept
set_option linter.unusedVariables false
set_option linter.unusedSimpArgs false

structure Twin (w : World) (B b gm mb gc mc : Nat) (Am : Option Addr) (cm : Nat) (Al : Option Addr) (cl : Nat) (ls : List Lim) (τ τ' : Int) (σ : List (ByteArray × SubD)) (π : List (ByteArray × PastD)) : Prop where
  m : MeterAt w B gm mb Am cm ls τ σ
  c : CounterAt w B gc mc Al cl ls τ' π
  ne : mb ≠ mc
  b : b < B
section
variable {w w' : World} {B b gm mb gc mc : Nat} {Am : Option Addr} {cm : Nat} {Al : Option Addr} {cl : Nat} {ls : List Lim} {τ τ' : Int} {σ : List (ByteArray × SubD)} {π : List (ByteArray × PastD)}
theorem Twin.new (h : Twin w B b gm mb gc mc Am cm Al cl ls τ τ' σ π) (hm : New w w') : Twin w' B b gm mb gc mc Am cm Al cl ls τ τ' σ π :=
  ⟨h.m.new hm, h.c.new hm, h.ne, h.b⟩
theorem Twin.stream (h : Twin w B b gm mb gc mc Am cm Al cl ls τ τ' σ π) {k : Nat} (hs : SInv b w k) (hm : Only b w w') : Twin w' B b gm mb gc mc Am cm Al cl ls τ τ' σ π := by
  have hb := h.b
  obtain ⟨_, _, _, _, _, hsb, _⟩ := hs
  refine ⟨h.m.mod hm (fun e => ?_) (fun e => ?_) (fun x hx e => ?_) (fun x hx e => ?_), h.c.only hsb.tb hm (by decide) (by decide) (by decide), h.ne, h.b⟩
  · have := h.m.b0.1; omega
  · have := h.m.b0.2; omega
  · have := h.m.lims.far x hx; omega
  · have := (SF.tb h.m hx).1; omega
theorem Twin.meter {τ2 : Int} {σ' : List (ByteArray × SubD)} (h : Twin w B b gm mb gc mc Am cm Al cl ls τ τ' σ π) (hm : Mod (fun x => x = gm ∨ x = mb ∨ SF σ x) w w') (hM : MeterAt w' B gm mb Am cm ls τ2 σ') : Twin w' B b gm mb gc mc Am cm Al cl ls τ2 τ' σ' π := by
  refine ⟨hM, h.c.mod hm ?_ ?_ ?_ ?_, h.ne, h.b⟩
  · rintro (e | e | e)
    · exact h.c.blk.tb.ne h.m.blk.tb (by decide) e
    · exact h.m.map.ne_blk h.c.blk.tb e
    · obtain ⟨_, T, hT, ht⟩ := SF.tb h.m e
      exact ht.ne h.c.blk.tb (ctrT_ne hT (by decide) (by decide) (by decide) (by decide) (by decide) (by decide)) rfl
  · rintro (e | e | e)
    · exact h.c.ref.map.ne_blk h.m.blk.tb e.symm
    · exact h.ne e.symm
    · obtain ⟨_, T, hT, ht⟩ := SF.tb h.m e
      exact h.c.ref.map.ne_blk ht rfl
  · rintro g hg (e | e | e)
    · exact hg.ne h.m.blk.tb (by decide) e
    · exact h.m.map.ne_blk hg e
    · obtain ⟨_, T, hT, ht⟩ := SF.tb h.m e
      exact ht.ne hg (ctrT_ne hT (by decide) (by decide) (by decide) (by decide) (by decide) (by decide)) rfl
  · rintro g hg (e | e | e)
    · exact hg.ne h.m.blk.tb (by decide) e
    · exact h.m.map.ne_blk hg e
    · obtain ⟨_, T, hT, ht⟩ := SF.tb h.m e
      exact ht.ne hg (ctrT_ne hT (by decide) (by decide) (by decide) (by decide) (by decide) (by decide)) rfl
theorem Twin.counter {τ2 : Int} {π' : List (ByteArray × PastD)} {who : ByteArray} (h : Twin w B b gm mb gc mc Am cm Al cl ls τ τ' σ π) (hm : Mod (fun x => x = gc ∨ x = mc ∨ blkOf (curD π who).A = some x) w w') (hC : CounterAt w' B gc mc Al cl ls τ2 π') : Twin w' B b gm mb gc mc Am cm Al cl ls τ τ2 σ π' := by
  have hrow : ∀ x, blkOf (curD π who).A = some x → TB w x 70 := fun x hx => by
    rcases (h.c.ref.cur who).blk with ⟨e, _⟩ | ⟨g', e, _, ht⟩
    · rw [e] at hx; cases hx
    · rw [e] at hx; injection hx with hx; simp only at hx; subst hx; exact ht
  have hlim : ∀ x, blkOf Am = some x → TB w x 28 := fun x hx => by
    rcases h.m.lims.blk with ⟨e, _⟩ | ⟨g', e, _, ht⟩
    · rw [e] at hx; cases hx
    · rw [e] at hx; injection hx with hx; simp only at hx; subst hx; exact ht
  refine ⟨h.m.mod hm ?_ ?_ ?_ ?_, hC, h.ne, h.b⟩
  · rintro (e | e | e)
    · exact h.m.blk.tb.ne h.c.blk.tb (by decide) e
    · exact h.c.ref.map.ne_blk h.m.blk.tb e
    · exact h.m.blk.tb.ne (hrow _ e) (by decide) rfl
  · rintro (e | e | e)
    · exact h.m.map.ne_blk h.c.blk.tb e.symm
    · exact h.ne e
    · exact h.m.map.ne_blk (hrow _ e) rfl
  · rintro x hx (e | e | e)
    · exact (hlim x hx).ne h.c.blk.tb (by decide) e
    · exact h.c.ref.map.ne_blk (hlim x hx) e
    · exact (hlim x hx).ne (hrow _ e) (by decide) rfl
  · rintro x hx (e | e | e)
    · obtain ⟨_, T, hT, ht⟩ := SF.tb h.m hx
      exact ht.ne h.c.blk.tb (ctrT_ne hT (by decide) (by decide) (by decide) (by decide) (by decide) (by decide)) e
    · obtain ⟨_, T, hT, ht⟩ := SF.tb h.m hx
      exact h.c.ref.map.ne_blk ht e
    · obtain ⟨_, T, hT, ht⟩ := SF.tb h.m hx
      exact ht.ne (hrow _ e) (ctrT_ne hT (by decide) (by decide) (by decide) (by decide) (by decide) (by decide)) rfl
/-- what the meters may turn lies behind B -/
theorem Twin.farM (h : Twin w B b gm mb gc mc Am cm Al cl ls τ τ' σ π) : ∀ x, (x = gm ∨ x = mb ∨ SF σ x) → B ≤ x := by
  rintro x (e | e | e)
  · rw [e]; exact h.m.b0.1
  · rw [e]; exact h.m.b0.2
  · exact (SF.tb h.m e).1
theorem Twin.farC (h : Twin w B b gm mb gc mc Am cm Al cl ls τ τ' σ π) (who : ByteArray) : ∀ x, (x = gc ∨ x = mc ∨ blkOf (curD π who).A = some x) → B ≤ x := by
  rintro x (e | e | e)
  · rw [e]; exact h.c.b0
  · rw [e]; exact h.c.ref.b0
  · exact ((h.c.ref.cur who).far x e).1
end

def RAskM (w : World) (B gm mb : Nat) (Al : Option Addr) (cl : Nat) (ls : List Lim) (τ : Int) (σ : List (ByteArray × SubD)) (k : Nat) (a : AskD) (e : Ending) (w' : World) : Prop :=
  (askE τ a ≠ 0 ∧ e = .returned (.tuple #[vdz.val, .int .i64 (askE τ a)]) ∧ New w w') ∨ (askE τ a = 0 ∧ RAskOk w B gm mb Al cl ls σ k a e w')
theorem askE_zero {τ : Int} {a : AskD} (h : askE τ a = 0) : askFault a = 0 ∧ τ ≤ a.at_ := by
  unfold askE at h
  by_cases h1 : askFault a = 0
  · rw [if_neg (by simpa using h1)] at h
    by_cases h2 : a.at_ < τ
    · rw [if_pos h2] at h; cases h
    · exact ⟨h1, by omega⟩
  · rw [if_pos (by simpa using h1)] at h; exact absurd h h1
theorem meter_ask_any (gm mb B : Nat) (Al : Option Addr) (cl : Nat) (ls : List Lim) (now : Int) (σ : List (ByteArray × SubD)) (k : Nat) (a : AskD) (w : World)
    (hM : MeterAt w B gm mb Al cl ls now σ) (hR : ∀ l ∈ ls, RLim' l) (hok : ∀ who s, gget σ who = some s → CtrsOk ls now k s.ds) (hk : k ≤ 1000) (hnow : 0 ≤ now) (hws : a.who.size ≤ maxLen) (hσ : σ.length < 2000) (hn : ls.length ≤ 1000) (hB : B ≤ w.heap.size) :
    Calls Tryz.prog 39 #[.pointer (some ⟨gm, 0, none⟩), a.val] w (RAskM w B gm mb Al cl ls now σ k a) := by
  by_cases he : askE now a = 0
  · obtain ⟨h1, h2⟩ := askE_zero he
    exact (meter_ask gm mb B Al cl ls now σ k a w hM hR hok hk hnow h1 h2 hws hσ hn hB).mono fun e w' h => .inr ⟨he, h⟩
  · exact (meter_ask_err gm _ _ now a w hM.blk hws he).mono fun e w' h => .inl ⟨he, h⟩

end Go.Proofs.YtinnckbffblecaaGreat

namespace Go.Proofs.YtinnckbffblecaaGreat
open Go.RowKit Go.MapKept
set_option linter.unusedVariables false
set_option linter.unusedSimpArgs false

theorem Sl.stream' {α : Type} {w w' : World} {t : TypeId} {sz : Nat} {enc : α → Nat → Value} {A : Option Addr} {n b k : Nat} {xs : List α} (h : Sl w t sz enc A n xs) (hs : SInv b w k) (ht : t ≠ 25) (hm : Only b w w') : Sl w' t sz enc A n xs :=
  h.mod hm (fun g hg e => by
    subst e
    obtain ⟨_, _, _, _, _, hb, _⟩ := hs
    exact hg.ne hb.tb ht rfl)
theorem leftF_zero {τ t : Int} {who : ByteArray} (h : leftF τ t who = 0) : τ ≤ t := by
  unfold leftF at h
  split at h
  · split at h
    · split at h
      · cases h
      · omega
    · cases h
  · cases h
theorem forF_zero {τ t : Int} (h : forF τ t = 0) : τ ≤ t := by
  unfold forF at h
  split at h
  · split at h
    · cases h
    · omega
  · cases h
theorem pureS_length (σ : List (ByteArray × SubD)) : (pureS σ).length = σ.length := by simp [pureS, gmap]
theorem pureR_length (π : List (ByteArray × PastD)) : (pureR π).length = π.length := by simp [pureR, gmap]
/-- what holds at the head of the round -/
def LawAt (w W0 wr : World) (gm mb gc mc : Nat) (Am : Option Addr) (cm : Nat) (Al : Option Addr) (cl : Nat) (ls : List Lim) (j k : Nat) : Prop :=
  ∃ τ σ π, Twin wr W0.heap.size w.heap.size gm mb gc mc Am cm Al cl ls τ τ σ π ∧ Joint ls (pureS σ) (pureR π) τ ∧ (∀ who s, gget σ who = some s → CtrsOk ls τ j s.ds) ∧ σ.length ≤ j ∧ π.length ≤ j ∧ (∀ who s, gget π who = some s → s.p.length ≤ j) ∧ SStep w.heap.size W0 wr k

set_option maxRecDepth 100000 in
set_option maxHeartbeats 4000000 in
theorem meters_walk (A : Option Addr) (n c : Nat) (w : World) (h : InInts w A n) :
    Calls Tryz.prog 5 #[.slice A n c] w fun e w' => e = .returned (.bool true) ∧ New w w' := by
  have hs := SInv.start (c := c) h
  go_enter Tryz.func5, Tryz.ntmps5
  go_wp2_with fail
  have T0 := SStep.refl hs
  refine (stream_limits _ _ _ hs (by omega)).mono ?_
  rintro e w1 ⟨Al, nl, cl, ls, rfl, hlr, hnl, hfi, h1⟩
  have T1 := T0.trans h1
  clear T0 h1
  generalize hW0 : w.alloc (.cells #[.slice A n c, .int .i64 0] 25) = W0 at *
  have hW0s : W0.heap.size = w.heap.size + 1 := by rw [← hW0]; simp
  have hnews : ∀ w' k, SStep w.heap.size W0 w' k → New w w' := fun w' k hh => by rw [← hW0] at hh; exact hh.news
  have HN := Lib.hid hnews
  have HW0s := Lib.hid hW0s
  clear hnews hW0 hW0s hs
  have hks : ∀ l ∈ ls, l.key.size ≤ maxLen := fun l hl => by have := (hfi l hl).1; unfold maxLen; omega
  have HKS := Lib.hid hks
  obtain rfl : ls.length = nl := hlr.1
  clear hfi hks
  have hnm := limit_newMeter Al ls.length cl ls w1 hlr (by omega) HKS.out
  have HLR := Lib.hid hlr
  clear hlr
  go_wp2_with fail
  refine hnm.mono ?_
  clear hnm
  rintro e w2 (⟨hf, rfl, m2⟩ | ⟨hf, gm, mb, Am, cm, rfl, hgm, hM, m2⟩)
  · have hrl := ref_limitsFault ls Al ls.length cl w2 (HLR.out.new m2) (by omega) HKS.out
    have hf' : (limsFault ls != 0) = true := by simpa using hf
    clear hf
    generalize limsFault ls = F at *
    go_wp2_with fail
    refine hrl.mono ?_
    clear hrl
    rintro e w3 ⟨rfl, m3⟩
    go_wp2_with fail
    refine (limited_true _).mono ?_
    rintro e w15 ⟨rfl, m15⟩
    go_wp2_with fail
    go_ret
    exact ⟨rfl, HN.out _ _ (T1.new ((m2.trans m3).trans m15))⟩
  · have hrl := ref_limitsFault ls Al ls.length cl w2 (HLR.out.new m2) (by omega) HKS.out
    have hR := lims_right hf
    have HR := Lib.hid hR
    rw [hf] at hrl
    clear hf hR
    have T2 := T1.new m2
    go_wp2_with fail
    refine hrl.mono ?_
    clear hrl
    rintro e w3 ⟨rfl, m3⟩
    have T3 := T2.new m3
    have hM3 := hM.new m3
    have L3 := (HLR.out.new m2).new m3
    have hnc := ref_newCounter Al cl ls w3 L3
    have hz0 := T1.only.size
    clear T1 T2 hM L3
    go_wp2_with fail
    refine hnc.mono ?_
    clear hnc
    rintro e w4 ⟨gc, mc, rfl, hC, m4⟩
    have T4 := T3.new m4
    have hz1 := T3.only.size
    have hM4 := hM3.new m4
    have htw : Twin w4 W0.heap.size w.heap.size gm mb gc mc Am cm Al cl ls 0 0 [] [] :=
      ⟨⟨⟨by omega, by have := hM3.b0.2; omega⟩, hM4.blk, hM4.lims.less hz0, hM4.map, fun who s h => by simp [gget_nil] at h, fun a b s s' _ h => by simp [gget_nil] at h⟩,
       ⟨by have := hC.b0; omega, hC.blk, ⟨by have := hC.ref.b0; omega, hC.ref.map, fun who s h => by simp [gget_nil] at h, fun a b s s' _ h => by simp [gget_nil] at h⟩, hC.lims⟩,
       by have := hM3.map.lt; have := hC.ref.b0; omega, by rw [HW0s.out]; omega⟩
    have hla : LawAt w W0 w4 gm mb gc mc Am cm Al cl ls 0 30 := ⟨0, [], [], htw, Joint.start HR.out, fun who s h => by simp [gget_nil] at h, by simp, by simp, fun who s h => by simp [gget_nil] at h, T4.more (by omega)⟩
    have hzw : W0.heap.size ≤ w4.heap.size := T4.only.size
    clear hM4 hM3 hC htw T3 m2 m3 m4 hgm hz0 hz1
    go_wp2_with fail
    refine (next_any _ _ _ _ T4.inv (by omega) (by omega) (by omega)).mono ?_
    rintro e w9 ⟨at0, rfl, ha0, ha1, h9⟩
    have hla9 : LawAt w W0 w9 gm mb gc mc Am cm Al cl ls 0 35 := by
      obtain ⟨τ, σ, π, q1, q2, q3, q4, q5, q6, q7⟩ := hla
      exact ⟨τ, σ, π, q1.stream T4.inv h9.only, q2, q3, q4, q5, q6, (T4.trans h9).more (by omega)⟩
    have T9 := T4.trans h9
    clear hla T4 h9
    go_wp2_with fail
    refine (range_any _ _ _ _ _ T9.inv (by omega) (by omega) (by omega) (by omega)).mono ?_
    rintro e w10 ⟨nn, rfl, hnn0, hnn1, h10⟩
    obtain ⟨nn, rfl⟩ := Int.eq_ofNat_of_zero_le hnn0
    have hla10 : LawAt w W0 w10 gm mb gc mc Am cm Al cl ls 0 40 := by
      obtain ⟨τ, σ, π, q1, q2, q3, q4, q5, q6, q7⟩ := hla9
      exact ⟨τ, σ, π, q1.stream T9.inv h10.only, q2, q3, q4, q5, q6, (T9.trans h10).more (by omega)⟩
    clear hla9 T9 h10 hnn0 hzw
    have HLA := Lib.hid hla10
    clear hla10
    go_wp2_with fail
    go_loopw [9, 63] (fun t i wr => ∃ (k : Nat) (at_ : Int), k ≤ nn ∧ i = .int .i64 k ∧ t = .int .i64 at_ ∧ 0 ≤ at_ ∧ at_ ≤ 30 + 40 * k ∧ Hid (LawAt w W0 wr gm mb gc mc Am cm Al cl ls k (40 + 20 * k))) (fun _ i _ => nn - (intOf i).toNat)
    case atStart => exact ⟨0, at0, Nat.zero_le _, rfl, rfl, by omega, by omega, HLA⟩
    case round =>
      rename_i wr
      obtain ⟨k, at_, hk, rfl, rfl, hat0, hat1, HLK⟩ := hrel
      by_cases hlt : k < nn
      · obtain ⟨τ, σ, π, TW, HJ, hok, hσ, hπ, hpl, TK⟩ := HLK.out
        have HJ' := Lib.hid HJ
        have HOK := Lib.hid hok
        have HPL := Lib.hid hpl
        clear HJ hok hpl HLK HLA
        go_upto_if 67 with (first | (go_at_call 7; refine (flip_any _ _ _ _ TK.inv (by omega) (by omega) (by omega)).mono ?_; rintro e w3 ⟨m, rfl, h3⟩))
        have TW3 := TW.stream TK.inv h3.only
        have TK3 := TK.trans h3
        clear TW TK h3
        go_cut [10] (fun s10 wx => ∃ now : Int, s10 = .int .i64 now ∧ -1 ≤ now ∧ now ≤ 345686400000 ∧ Twin wx W0.heap.size w.heap.size gm mb gc mc Am cm Al cl ls τ τ σ π ∧ SStep w.heap.size W0 wx (40 + 20 * k + 2))
        case first =>
          cases m
          · go_wp2_with fail
            go_meet
            exact ⟨at_, rfl, by omega, by omega, TW3, TK3.more (by omega)⟩
          · go_wp2_with fail
            refine (pick_any [-1, 0, 345686400000] w.heap.size _ w3.heap.size 3 _ (TK3.alloc _).inv (by omega) (Blk.new _ _ _) rfl (by omega) (by omega)).mono ?_
            rintro e w4 ⟨now, rfl, mn, h4⟩
            have hnow : -1 ≤ now ∧ now ≤ 345686400000 := by simp at mn; omega
            have TW4 := (TW3.new ((Mod.refl _ _).alloc _)).stream (TK3.alloc _).inv h4.only
            have TK4 := (TK3.alloc _).trans h4
            go_wp2_with fail
            go_meet
            exact ⟨now, rfl, by omega, by omega, TW4, TK4.more (by omega)⟩
        case rest =>
          clear TW3 TK3
          obtain ⟨now, rfl, hn0, hn1, TW, TK⟩ := hcut
          go_upto_block 2 with (first | (go_at_call 31; refine (next_any _ _ _ _ TK.inv (by omega) (by omega) (by omega)).mono ?_; rintro e w3 ⟨m, rfl, hm0, hm1, h3⟩))
          have TW3 := TW.stream TK.inv h3.only
          have TK3 := TK.trans h3
          clear TW TK h3
          have ht0 := HJ'.out.both.t0
          go_cut [] (fun wx => LawAt w W0 wx gm mb gc mc Am cm Al cl ls (k + 1) (40 + 20 * k + 19))
          case first =>
            by_cases hm : m = 0
            · subst hm
              go_wp2_with fail
              refine (some_any [⟨#[97, 110, 110]⟩, ⟨#[98, 111, 98]⟩, ⟨#[65]⟩] w.heap.size _ w3.heap.size 3 _ (TK3.alloc _).inv (by omega) (Blk.new _ _ _) rfl (by omega) (by omega)).mono ?_
              rintro e w4 ⟨who, rfl, mw, h4⟩
              have hwho : who.size ≤ maxLen := by
                unfold maxLen
                simp at mw
                rcases mw with rfl | rfl | rfl <;> decide
              have TW4 := (TW3.new ((Mod.refl _ _).alloc _)).stream (TK3.alloc _).inv h4.only
              have TK4 := (TK3.alloc _).trans h4
              clear TW3 TK3 h4 mw
              have hzz := TK4.only.size
              have hml := meter_left gm mb W0.heap.size Am cm ls τ σ k now who w4 TW4.m HR.out HOK.out (by omega) ht0 hwho (by omega) hzz
              have HTW := Lib.hid TW4
              clear TW4
              go_wp2_with fail
              refine hml.mono ?_
              clear hml
              rintro e w5 (⟨hf, rfl, m5⟩ | ⟨hf, A5, n5, c5, rfl, s5, M5, m5⟩)
              · have TW5 := HTW.out.new m5
                have TK5 := TK4.new m5
                have hcl := counter_left gc mc W0.heap.size Al cl ls τ π now who w5 TW5.c HR.out HJ'.out.inv (fun who s hg => by have := HPL.out who s hg; omega) ht0 hwho (by omega)
                have hfe : (leftF τ now who != leftF τ now who) = false := by simp
                go_wp2_with fail
                refine hcl.mono ?_
                clear hcl
                rintro e w6 (⟨_, rfl, m6⟩ | ⟨hf2, _⟩)
                · have heq := equal_ints [] none none 0 0 0 w6 Sl.nil Sl.nil (by omega)
                  generalize leftF τ now who = F at *
                  have TW6 := TW5.new m6
                  have TK6 := TK5.new m6
                  go_wp2_with fail
                  refine heq.mono ?_
                  clear heq
                  rintro e w7 ⟨rfl, q, rfl⟩
                  go_wp2_with fail
                  go_meet
                  exact ⟨τ, σ, π, TW6.new ((Mod.refl _ _).drewN q), HJ'.out, fun who s hg => ctrsOk_later (HOK.out who s hg) (by omega) (by omega), by omega, by omega, fun who s hg => by have := HPL.out who s hg; omega, (TK6.drewN q).more (by omega)⟩
                · exact absurd hf2 hf
              · have htn := leftF_zero hf
                have TW5 := HTW.out.meter (m5.mono (fun _ _ e => .inl e)) M5
                have TK5 := TK4.mod m5 (fun i e => by rw [e]; exact HTW.out.m.b0.1)
                have hcl := counter_left gc mc W0.heap.size Al cl ls τ π now who w5 TW5.c HR.out HJ'.out.inv (fun who s hg => by have := HPL.out who s hg; omega) ht0 hwho (by omega)
                go_wp2_with fail
                refine hcl.mono ?_
                clear hcl
                rintro e w6 (⟨hf2, _, _⟩ | ⟨hf2, A6, n6, c6, rfl, s6, C6, m6⟩)
                · exact absurd hf hf2
                · have TW6 := TW5.counter (who := who) (m6.mono (fun _ _ e => .inl e)) C6
                  have TK6 := TK5.mod m6 (fun i e => by rw [e]; exact TW5.c.b0)
                  have t5 := s5.mod m6 (fun g hg e => hg.ne TW5.c.blk.tb (by decide) e)
                  rw [HJ'.out.both.left HR.out htn who] at s6
                  have hn5 := t5.1
                  have hn6 := s6.1
                  have hnn : n5 = n6 := by omega
                  subst hnn
                  have heq := equal_ints _ A5 A6 n5 c5 c6 w6 t5 s6 (by
                    have : (leftL ls (curC ls (pureS σ) who) now).length ≤ ls.length := by unfold leftL; simp; omega
                    omega)
                  have HTK := Lib.hid TK6
                  have HTW6 := Lib.hid TW6
                  clear s5 s6 t5 hn5 hn6 TW5 TK5 TK6 TW6 m5 m6 M5 C6 HTW hf hf2
                  go_wp2_with fail
                  refine heq.mono ?_
                  clear heq
                  rintro e w7 ⟨rfl, q, rfl⟩
                  go_wp2_with fail
                  go_meet
                  exact ⟨now, σ, π, HTW6.out.new ((Mod.refl _ _).drewN q), HJ'.out.later HR.out htn, fun who s hg => ctrsOk_later (HOK.out who s hg) htn (by omega), by omega, by omega, fun who s hg => by have := HPL.out who s hg; omega, (HTK.out.drewN q).more (by omega)⟩
            · by_cases hm2 : m = 1
              · subst hm2
                have hzz := TK3.only.size
                have hml := meter_forget gm mb W0.heap.size Am cm ls τ σ k now w3 TW3.m HR.out HOK.out (by omega) ht0 (by omega)
                have HTW := Lib.hid TW3
                clear TW3
                go_wp2_with fail
                refine hml.mono ?_
                clear hml
                rintro e w5 (⟨hf, rfl, m5⟩ | ⟨hf, σ', rfl, hσ1, hσ2, hσ3, M5, m5⟩)
                · have TW5 := HTW.out.new m5
                  have TK5 := TK3.new m5
                  have hcl := counter_forget gc mc W0.heap.size Al cl ls τ π now w5 TW5.c HR.out HJ'.out.inv (fun who s hg => by have := HPL.out who s hg; omega) ht0 (by omega)
                  go_wp2_with fail
                  refine hcl.mono ?_
                  clear hcl
                  rintro e w6 (⟨_, rfl, m6⟩ | ⟨hf2, _⟩)
                  · generalize forF τ now = F at *
                    have TW6 := TW5.new m6
                    have TK6 := TK5.new m6
                    go_wp2_with fail
                    go_meet
                    exact ⟨τ, σ, π, TW6, HJ'.out, fun who s hg => ctrsOk_later (HOK.out who s hg) (by omega) (by omega), by omega, by omega, fun who s hg => by have := HPL.out who s hg; omega, TK6.more (by omega)⟩
                  · exact absurd hf2 hf
                · have htn := forF_zero hf
                  have TW5 := HTW.out.meter (m5.mono (fun _ _ e => e.elim .inl (fun e => .inr (.inl e)))) M5
                  have TK5 := TK3.mod m5 (fun i e => HTW.out.farM i (e.elim .inl (fun e => .inr (.inl e))))
                  have hcl := counter_forget gc mc W0.heap.size Al cl ls τ π now w5 TW5.c HR.out HJ'.out.inv (fun who s hg => by have := HPL.out who s hg; omega) ht0 (by omega)
                  go_wp2_with fail
                  refine hcl.mono ?_
                  clear hcl
                  rintro e w6 (⟨hf2, _, _⟩ | ⟨hf2, π', rfl, hπ1, hπ2, hπ3, C6, m6⟩)
                  · exact absurd hf hf2
                  · have TW6 := TW5.counter (who := ⟨#[]⟩) (m6.mono (fun _ _ e => e.elim .inl (fun e => .inr (.inl e)))) C6
                    have TK6 := TK5.mod m6 (fun i e => TW5.farC ⟨#[]⟩ i (e.elim .inl (fun e => .inr (.inl e))))
                    obtain ⟨HJ2, hlen⟩ := HJ'.out.forget HR.out (by unfold pureS; rw [gmap_keys]; exact meter_nodup HTW.out.m) (by unfold pureR; rw [gmap_keys]; exact counter_nodup TW5.c) htn
                    rw [← hσ1, ← hπ1] at HJ2 hlen
                    rw [pureS_length, pureR_length] at hlen
                    have HJ3 := Lib.hid HJ2
                    have HTK := Lib.hid TK6
                    have HTW6 := Lib.hid TW6
                    have HS2 := Lib.hid hσ2
                    have HP2 := Lib.hid hπ2
                    clear TW5 TK5 TK6 TW6 m5 m6 M5 C6 HTW hf hf2 HJ2 hσ1 hπ1 hσ2 hπ2
                    rw [hlen]
                    go_wp2_with fail
                    go_meet
                    exact ⟨now, σ', π', HTW6.out, HJ3.out, fun who s hg => ctrsOk_later (HOK.out who s (HS2.out who s hg)) htn (by omega), by omega, by omega, fun who s hg => by have := HPL.out who s (HP2.out who s hg); omega, HTK.out.more (by omega)⟩
              · have hm' : (m == 0) = false := by simpa using hm
                have hm2' : (m == 1) = false := by simpa using hm2
                clear hm hm2
                go_wp2_with fail
                refine (rightAsk_any w.heap.size _ now _ TK3.inv (by omega)).mono ?_
                rintro e w4 ⟨a, rfl, ha, h4⟩
                obtain ⟨at', who, cost, long⟩ := a
                obtain ⟨ha0, ha1, -⟩ := ha
                simp only at ha0 ha1
                obtain rfl : now = at' := ha0.symm
                simp only [AskD.val]
                have TW4 := TW3.stream TK3.inv h4.only
                have TK4 := TK3.trans h4
                have hwho : who.size ≤ maxLen := by unfold maxLen; omega
                clear TW3 TK3 h4 ha0 ha1
                have U0 := SStep.refl TK4.inv
                have hbw : w.heap.size < w4.heap.size := TK4.inv.lt
                go_upto_if 77 with (first | (go_at_call 7; refine (flip_any _ _ _ _ (U0.alloc _).inv (by omega) (by omega) (by omega)).mono ?_; rintro e w5 ⟨mf, rfl, h5⟩))
                have B5 : Blk w5 w4.heap.size 70 #[.int .i64 now, .string who, .int .i64 cost, .int .i64 long] := (Blk.new w4 _ _).mod h5.only (fun e => by omega)
                have U5 := (U0.alloc _).trans h5
                clear h5 U0
                go_cut [] (fun wx => ∃ cost' long' : Int, Blk wx w4.heap.size 70 #[.int .i64 now, .string who, .int .i64 cost', .int .i64 long'] ∧ SStep w.heap.size w4 wx (40 + 20 * k + 14))
                case first =>
                  cases mf
                  · go_wp2_with fail
                    go_meet
                    exact ⟨cost, long, B5, U5.more (by omega)⟩
                  · have f2 := B5.frozen 2
                    have f3 := B5.frozen 3
                    have hl5 := B5.lt
                    go_wp2_with fail
                    refine (odd_any _ _ _ _ _ U5.inv (by omega) (by omega) (by omega) (by omega)).mono ?_
                    rintro e w6 ⟨cost', rfl, _, _, h6⟩
                    have B6 := B5.mod h6.only (fun e => by omega)
                    have U6 := U5.trans h6
                    clear h6
                    go_wp2_with fail
                    refine (odd_any _ _ _ _ _ U6.inv (by omega) (by omega) (by omega) (by omega)).mono ?_
                    rintro e w7 ⟨long', rfl, _, _, h7⟩
                    have B7 := B6.mod h7.only (fun e => by omega)
                    have U7 := U6.trans h7
                    clear h7
                    have d2 := B7.cell 2
                    have d3 := B7.cell 3
                    have f2 := B7.frozen 2
                    have f3 := B7.frozen 3
                    have hl7 := B7.lt
                    simp at d2 d3
                    go_wp2_with fail
                    go_meet
                    refine ⟨cost', long', by simpa using (B7.set 2 (.int .i64 cost')).set 3 (.int .i64 long'), ?_⟩
                    exact SStep.set (SStep.set (U7.more (by omega)) (Nat.le_refl _) _) (Nat.le_refl _) _
                case rest =>
                  clear B5 U5
                  obtain ⟨cost', long', BX, UX⟩ := hcut
                  have TW5 := TW4.stream TK4.inv UX.only
                  have TK5 := TK4.trans UX
                  clear TW4 TK4 UX
                  have hzz := TK5.only.size
                  have e0 := BX.cell 0
                  have e1 := BX.cell 1
                  have e2 := BX.cell 2
                  have e3 := BX.cell 3
                  have hel := BX.lt
                  simp at e0 e1 e2 e3
                  have hma := meter_ask_any gm mb W0.heap.size Am cm ls τ σ k ⟨now, who, cost', long'⟩ wc TW5.m HR.out HOK.out (by omega) ht0 hwho (by omega) (by omega) hzz
                  have HTW := Lib.hid TW5
                  have HTK := Lib.hid TK5
                  have HBX := Lib.hid BX
                  clear TW5 TK5 BX
                  simp only [AskD.val] at hma
                  go_wp2_with fail
                  refine hma.mono ?_
                  clear hma
                  rintro e w6 (⟨hf, rfl, m6⟩ | ⟨hf, rfl, σ', M6, hσ1, hσ2, hσ3, m6, _⟩)
                  · have TW6 := HTW.out.new m6
                    have TK6 := HTK.out.new m6
                    have B6 := HBX.out.new'' m6
                    simp only [Vd.val, vdz]
                    go_upto_region 19 with (fail)
                    have T7 := TW6.new ((Mod.refl (fun _ => False) w6).alloc (.cells #[.bool false, .string ⟨#[]⟩, .int .i64 0] 57))
                    have K7 := TK6.alloc (.cells #[.bool false, .string ⟨#[]⟩, .int .i64 0] 57)
                    have B7 := B6.new'' ((Mod.refl (fun _ => False) w6).alloc (.cells #[.bool false, .string ⟨#[]⟩, .int .i64 0] 57))
                    have V7 := Blk.new w6 57 #[.bool false, .string ⟨#[]⟩, .int .i64 0]
                    generalize w6.alloc (.cells #[.bool false, .string ⟨#[]⟩, .int .i64 0] 57) = W7 at *
                    have HT7 := Lib.hid T7
                    have HK7 := Lib.hid K7
                    have HV7 := Lib.hid V7
                    have hz7 := K7.only.size
                    clear e0 e1 e2 e3 hel hzz
                    have e0 := B7.cell 0
                    have e1 := B7.cell 1
                    have e2 := B7.cell 2
                    have e3 := B7.cell 3
                    have hel := B7.lt
                    simp at e0 e1 e2 e3
                    clear T7 K7 V7 B7 TW6 TK6 B6
                    have hca := counter_ask gc mc W0.heap.size Al cl ls τ π ⟨now, who, cost', long'⟩ W7 HT7.out.c HR.out HJ'.out.inv (fun who s hg => by have := HPL.out who s hg; omega) ht0 hwho (by omega) (by omega) hz7
                    simp only [AskD.val] at hca
                    go_wp2_with fail
                    refine hca.mono ?_
                    clear hca
                    rintro e w8 (⟨_, rfl, m8⟩ | ⟨h0, _⟩)
                    · simp only [Vd.val, vdz]
                      have TW8 := HT7.out.new m8
                      have TK8 := HK7.out.new m8
                      have b8 := HV7.out.new'' m8
                      have HE := Lib.hid hf
                      clear hf
                      generalize askE τ ⟨now, who, cost', long'⟩ = F at *
                      have b9 := b8.new'' ((Mod.refl (fun _ => False) w8).alloc (.cells #[.bool false, .string ⟨#[]⟩, .int .i64 0] 57))
                      have c9 := Blk.new w8 57 #[.bool false, .string ⟨#[]⟩, .int .i64 0]
                      have x0 := b9.cell 0
                      have x1 := b9.cell 1
                      have x2 := b9.cell 2
                      have y0 := c9.cell 0
                      have y1 := c9.cell 1
                      have y2 := c9.cell 2
                      have xl := b9.lt
                      have yl := c9.lt
                      simp only [List.getElem?_toArray, List.getElem?_cons_zero, List.getElem?_cons_succ] at x0 x1 x2 y0 y1 y2
                      clear e0 e1 e2 e3 hel
                      have hm9 : New w8 (w8.alloc (.cells #[.bool false, .string ⟨#[]⟩, .int .i64 0] 57)) := (Mod.refl _ _).alloc _
                      go_upto_region 20 with (fail)
                      generalize w8.alloc (.cells #[.bool false, .string ⟨#[]⟩, .int .i64 0] 57) = W9 at *
                      go_wp2_with fail
                      go_meet
                      exact ⟨τ, σ, π, TW8.new hm9, HJ'.out, fun who s hg => ctrsOk_later (HOK.out who s hg) (by omega) (by omega), by omega, by omega, fun who s hg => by have := HPL.out who s hg; omega, (TK8.new hm9).more (by omega)⟩
                    · exact absurd h0 hf
                  · obtain ⟨hf0, htn⟩ := askE_zero hf
                    have hra := askFault_right hf0
                    have hvd := HJ'.out.both.verd HR.out htn hra.cost.1
                    have TW6 := HTW.out.meter m6 M6
                    have TK6 := HTK.out.mod m6 HTW.out.farM
                    have B6 := HBX.out.mod m6 (by
                      rintro (e | e | e)
                      · exact HBX.out.tb.ne HTW.out.m.blk.tb (by decide) e
                      · exact HTW.out.m.map.ne_blk HBX.out.tb e
                      · obtain ⟨_, T, hT, ht⟩ := SF.tb HTW.out.m e
                        exact ht.ne HBX.out.tb (ctrT_ne hT (by decide) (by decide) (by decide) (by decide) (by decide) (by decide)) rfl)
                    have HJP := HJ'.out.put HR.out hra htn
                    rw [← hσ1] at HJP
                    generalize hvv : verdC ls (curC ls (pureS σ) (AskD.mk now who cost' long').who) ⟨now, who, cost', long'⟩ vd0 = v at *
                    obtain ⟨ok, by_, wt⟩ := v
                    have HVD := Lib.hid hvd
                    have HJ2 := Lib.hid HJP
                    have HS2 := Lib.hid hσ2
                    have HF0 := Lib.hid hf
                    clear hvd hvv HJP hσ1 hσ2 hf hf0 m6 M6
                    simp only [Vd.val]
                    go_upto_region 19 with (fail)
                    have T7 := TW6.new ((Mod.refl (fun _ => False) w6).alloc (.cells #[.bool ok, .string by_, .int .i64 wt] 57))
                    have K7 := TK6.alloc (.cells #[.bool ok, .string by_, .int .i64 wt] 57)
                    have B7 := B6.new'' ((Mod.refl (fun _ => False) w6).alloc (.cells #[.bool ok, .string by_, .int .i64 wt] 57))
                    have V7 := Blk.new w6 57 #[.bool ok, .string by_, .int .i64 wt]
                    generalize w6.alloc (.cells #[.bool ok, .string by_, .int .i64 wt] 57) = W7 at *
                    have HT7 := Lib.hid T7
                    have HK7 := Lib.hid K7
                    have HV7 := Lib.hid V7
                    have hz7 := K7.only.size
                    clear e0 e1 e2 e3 hel hzz
                    have e0 := B7.cell 0
                    have e1 := B7.cell 1
                    have e2 := B7.cell 2
                    have e3 := B7.cell 3
                    have hel := B7.lt
                    simp at e0 e1 e2 e3
                    clear T7 K7 V7 B7 TW6 TK6 B6
                    have hca := counter_ask gc mc W0.heap.size Al cl ls τ π ⟨now, who, cost', long'⟩ W7 HT7.out.c HR.out HJ'.out.inv (fun who s hg => by have := HPL.out who s hg; omega) ht0 hwho (by omega) (by omega) hz7
                    simp only [AskD.val] at hca
                    go_wp2_with fail
                    refine hca.mono ?_
                    clear hca
                    rintro e w8 (⟨h0, _, _⟩ | ⟨_, π', rfl, hπ1, C8, hl8, hn8, m8⟩)
                    · exact absurd HF0.out h0
                    · rw [HVD.out]
                      simp only [Vd.val]
                      have TW8 := HT7.out.counter (who := who) m8 C8
                      have TK8 := HK7.out.mod m8 (HT7.out.farC who)
                      have b8 := HV7.out.mod m8 (by
                        rintro (e | e | e)
                        · exact HV7.out.tb.ne HT7.out.c.blk.tb (by decide) e
                        · exact HT7.out.c.ref.map.ne_blk HV7.out.tb e
                        · rcases (HT7.out.c.ref.cur who).blk with ⟨h1, _⟩ | ⟨g', h1, _, ht⟩
                          · have e : blkOf (curD π who).A = some w6.heap.size := e
                            rw [h1] at e; cases e
                          · have e : blkOf (curD π who).A = some w6.heap.size := e
                            rw [h1] at e; injection e with e; exact ht.ne HV7.out.tb (by decide) e)
                      have hpl8 := hn8 k HPL.out
                      rw [← hπ1] at HJ2
                      have HTK := Lib.hid TK8
                      have HTW8 := Lib.hid TW8
                      have HPL8 := Lib.hid hpl8
                      clear TK8 TW8 hn8 hπ1 C8 m8 hpl8
                      have b9 := b8.new'' ((Mod.refl (fun _ => False) w8).alloc (.cells #[.bool ok, .string by_, .int .i64 wt] 57))
                      have c9 := Blk.new w8 57 #[.bool ok, .string by_, .int .i64 wt]
                      have x0 := b9.cell 0
                      have x1 := b9.cell 1
                      have x2 := b9.cell 2
                      have y0 := c9.cell 0
                      have y1 := c9.cell 1
                      have y2 := c9.cell 2
                      have xl := b9.lt
                      have yl := c9.lt
                      simp only [List.getElem?_toArray, List.getElem?_cons_zero, List.getElem?_cons_succ] at x0 x1 x2 y0 y1 y2
                      clear e0 e1 e2 e3 hel
                      have hm9 : New w8 (w8.alloc (.cells #[.bool ok, .string by_, .int .i64 wt] 57)) := (Mod.refl _ _).alloc _
                      go_upto_region 20 with (fail)
                      generalize w8.alloc (.cells #[.bool ok, .string by_, .int .i64 wt] 57) = W9 at *
                      go_wp2_with fail
                      go_meet
                      exact ⟨now, σ', π', HTW8.out.new hm9, HJ2.out, HS2.out, by omega, by omega, HPL8.out, (HTK.out.new hm9).more (by omega)⟩
          case rest =>
            clear TW3 TK3
            have HLA := Lib.hid hcut
            obtain ⟨τ2, σ2, π2, TW, q2, q3, q4, q5, q6, TK⟩ := hcut
            clear q2 q3 q4 q5 q6
            go_wp2_with fail
            refine (pick_any [0, 0, 1, 3, 10, 40] w.heap.size _ wc.heap.size 6 _ (TK.alloc _).inv (by omega) (Blk.new _ _ _) rfl (by omega) (by omega)).mono ?_
            rintro e w20 ⟨step, rfl, m20, h20⟩
            have hstep : 0 ≤ step ∧ step ≤ 40 := by simp at m20; omega
            have hla : Hid (LawAt w W0 w20 gm mb gc mc Am cm Al cl ls (k + 1) (40 + 20 * (k + 1))) := Lib.hid (by
              obtain ⟨τ, σ, π, q1, q2, q3, q4, q5, q6, q7⟩ := HLA.out
              exact ⟨τ, σ, π, (q1.new ((Mod.refl _ _).alloc _)).stream (TK.alloc _).inv h20.only, q2, q3, q4, q5, q6, ((q7.alloc _).trans (k' := 40 + 20 * k + 20) (h20.more (by omega))).more (by omega)⟩)
            clear h20 m20 TW TK HLA
            go_wp2_with fail
            exact ⟨⟨k + 1, at_ + step, by omega, by go_num, rfl, by omega, by omega, hla⟩, by simp [intOf]; omega⟩
      · obtain ⟨τ, σ, π, q1, q2, q3, q4, q5, q6, q7⟩ := HLK.out
        clear q1 q2 q3 q4 q5 q6
        go_wp2_with fail
        refine (limited_true _).mono ?_
        rintro e w15 ⟨rfl, m15⟩
        go_wp2_with fail
        go_ret
        exact ⟨rfl, HN.out _ _ (q7.new m15)⟩

end Go.Proofs.YtinnckbffblecaaGreat
