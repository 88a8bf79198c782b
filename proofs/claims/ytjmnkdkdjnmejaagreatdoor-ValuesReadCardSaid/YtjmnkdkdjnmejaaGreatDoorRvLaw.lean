/- Reading values, the plain law: one machine (what is open, and the place) for both sides. No program in sight. No conditions. -/
import Derived.Test.YtjmnkdkdjnmejaaGreatDoorWrdsLawGrp
import Derived.Test.YtjmnkdkdjnmejaaGreatDoorKeysGrp
namespace Go.Proofs.YtjmnkdkdjnmejaaGreatDoor
open Go.RowKit
set_option linter.unusedVariables false
set_option linter.unusedSimpArgs false

/-- how many bytes ahead are of a kind -/
def spanL (p : UInt8 → Bool) : List UInt8 → Nat
  | [] => 0
  | c :: r => if p c then spanL p r + 1 else 0
/-- where what is of a kind ends -/
def spanAt (p : UInt8 → Bool) (s : List UInt8) (i : Nat) : Nat := i + spanL p (s.drop i)
theorem spanL_le (p : UInt8 → Bool) : ∀ l : List UInt8, spanL p l ≤ l.length
  | [] => Nat.le_refl _
  | c :: r => by have := spanL_le p r; simp only [spanL]; split <;> simp <;> omega
theorem spanAt_ge (p : UInt8 → Bool) (s : List UInt8) (i : Nat) : i ≤ spanAt p s i := Nat.le_add_right _ _
theorem spanAt_le (p : UInt8 → Bool) {s : List UInt8} {i : Nat} (h : i ≤ s.length) : spanAt p s i ≤ s.length := by
  have := spanL_le p (s.drop i)
  rw [List.length_drop] at this
  unfold spanAt
  omega
theorem spanAt_yes {p : UInt8 → Bool} {s : List UInt8} {k : Nat} (h : k < s.length) (hp : p s[k] = true) : spanAt p s k = spanAt p s (k + 1) := by
  unfold spanAt
  rw [List.drop_eq_getElem_cons h]
  simp only [spanL, hp, if_true]
  omega
theorem spanAt_no {p : UInt8 → Bool} {s : List UInt8} {k : Nat} (h : k < s.length) (hp : p s[k] = false) : spanAt p s k = k := by
  unfold spanAt
  rw [List.drop_eq_getElem_cons h]
  simp [spanL, hp]
theorem spanAt_end (p : UInt8 → Bool) {s : List UInt8} {k : Nat} (h : s.length ≤ k) : spanAt p s k = k := by
  unfold spanAt
  rw [List.drop_eq_nil_of_le h]
  rfl
def blankB (c : UInt8) : Bool := c == 32 || c == 9 || c == 10 || c == 13
def letB (c : UInt8) : Bool := decide (97 ≤ c.toNat) && decide (c.toNat ≤ 122) || decide (65 ≤ c.toNat) && decide (c.toNat ≤ 90)
def startB (c : UInt8) : Bool := letB c || isDig c || c == 45
def rowB (c : UInt8) : Bool := letB c || isDig c || c == 45 || c == 43 || c == 46
def topAt (s : List UInt8) (i : Nat) : UInt8 := s.getD i 0
theorem topAt_lt {s : List UInt8} {i : Nat} (h : topAt s i ≠ 0) : i < s.length := by
  refine Decidable.byContradiction fun hc => h ?_
  unfold topAt
  rw [List.getD_eq_getElem?_getD, List.getElem?_eq_none (by omega)]
  rfl
theorem topAt_get {s : List UInt8} {i : Nat} (h : i < s.length) : topAt s i = s[i] := by
  unfold topAt
  rw [List.getD_eq_getElem?_getD, List.getElem?_eq_getElem h]
  rfl
theorem topAt_end {s : List UInt8} {i : Nat} (h : s.length ≤ i) : topAt s i = 0 := by
  unfold topAt
  rw [List.getD_eq_getElem?_getD, List.getElem?_eq_none h]
  rfl
/-- null, a flag or a number -/
def rdRow (b : ByteArray) : Option VT :=
  if b.data.toList = [110, 117, 108, 108] then some (.mk 0 false 0 ⟨#[]⟩ [] [])
  else if b.data.toList = [116, 114, 117, 101] then some (.mk 1 true 0 ⟨#[]⟩ [] [])
  else if b.data.toList = [102, 97, 108, 115, 101] then some (.mk 1 false 0 ⟨#[]⟩ [] [])
  else if numOk 16 b then some (.mk 2 false (numV b) ⟨#[]⟩ [] []) else none
def rdWords (o : List UInt8) : VT := .mk 3 false 0 ⟨o.toArray⟩ [] []

/-- what is open: a list, or members -/
structure RFr where
  mem : Bool
  name : ByteArray
  items : List VT
  mems : List (ByteArray × VT)
/-- members by their names -/
def srtP (l : List (ByteArray × VT)) : List (ByteArray × VT) := l.mergeSort fun a b => !decide (cmpB b.1 a.1 < 0)
def RFr.put (f : RFr) (v : VT) : RFr := if f.mem then { f with name := ⟨#[]⟩, mems := f.mems ++ [(f.name, v)] } else { f with items := f.items ++ [v] }
def RFr.value (f : RFr) : VT := .mk (if f.mem then 5 else 4) false 0 ⟨#[]⟩ f.items (srtP f.mems)
def RFr.new (m : Bool) : RFr := ⟨m, ⟨#[]⟩, [], []⟩
inductive RSt where
  | run (b : Bool) (st : List RFr) (i : Nat)
  | fin (v : VT) (i : Nat)
  | bad (p : Nat)
def putS : List RFr → VT → Nat → RSt
  | [], v, i => .fin v i
  | f :: r, v, i => .run false (f.put v :: r) i
/-- a name that a box has -/
def RFr.has (f : RFr) (n : ByteArray) : Bool := f.mems.any fun p => decide (p.1 = n)
/-- a member's name and the colon -/
def memS (s : List UInt8) (f : RFr) (r : List RFr) (i : Nat) : RSt :=
  if topAt s (spanAt blankB s i) ≠ 34 then .bad (spanAt blankB s i) else
  match wordsOf (s.drop (spanAt blankB s i + 1)) with
  | none => .bad (spanAt blankB s i)
  | some (o, m) =>
    if f.has ⟨o.toArray⟩ = true then .bad (spanAt blankB s i)
    else if topAt s (spanAt blankB s (spanAt blankB s i + 1 + m)) ≠ 58 then .bad (spanAt blankB s (spanAt blankB s i + 1 + m))
    else .run true ({ f with name := ⟨o.toArray⟩ } :: r) (spanAt blankB s (spanAt blankB s i + 1 + m) + 1)
def cutB (s : List UInt8) (i j : Nat) : ByteArray := ⟨((s.take j).drop i).toArray⟩
/-- a value begins; k: behind what is blank -/
def begK (s : List UInt8) (st : List RFr) (k : Nat) : RSt :=
  if topAt s k = 34 then match wordsOf (s.drop (k + 1)) with
    | none => .bad k
    | some (o, m) => putS st (rdWords o) (k + 1 + m)
  else if startB (topAt s k) = true then match rdRow (cutB s k (spanAt rowB s k)) with
    | none => .bad k
    | some v => putS st v (spanAt rowB s k)
  else if topAt s k = 91 then
    if topAt s (spanAt blankB s (k + 1)) = 93 then putS st (RFr.new false).value (spanAt blankB s (k + 1) + 1)
    else .run true (RFr.new false :: st) (spanAt blankB s (k + 1))
  else if topAt s k = 123 then
    if topAt s (spanAt blankB s (k + 1)) = 125 then putS st (RFr.new true).value (spanAt blankB s (k + 1) + 1)
    else memS s (RFr.new true) st (spanAt blankB s (k + 1))
  else .bad k
def endB (m : Bool) : UInt8 := if m then 125 else 93
/-- what follows an item; k: behind what is blank -/
def nextK (s : List UInt8) (f : RFr) (r : List RFr) (k : Nat) : RSt :=
  if topAt s k = 44 then if f.mem then memS s f r (k + 1) else .run true (f :: r) (k + 1)
  else if topAt s k = endB f.mem then putS r f.value (k + 1)
  else .bad k
def stepS (s : List UInt8) : RSt → RSt
  | .run true st i => begK s st (spanAt blankB s i)
  | .run false [] i => .bad i
  | .run false (f :: r) i => nextK s f r (spanAt blankB s i)
  | x => x
inductive Leads (s : List UInt8) : RSt → RSt → Prop where
  | refl (a : RSt) : Leads s a a
  | step (b : Bool) (st : List RFr) (i : Nat) (x : RSt) (h : Leads s (stepS s (.run b st i)) x) : Leads s (.run b st i) x
theorem Leads.trans {s : List UInt8} {a b c : RSt} (h : Leads s a b) (h2 : Leads s b c) : Leads s a c := by
  induction h with
  | refl => exact h2
  | step b st i x h ih => exact .step b st i _ (ih h2)
theorem Leads.one {s : List UInt8} {b : Bool} {st : List RFr} {i : Nat} {x : RSt} (h : stepS s (.run b st i) = x) : Leads s (.run b st i) x := .step b st i x (h ▸ .refl _)
def RSt.ends : RSt → Bool
  | .run _ _ _ => false
  | _ => true
theorem Leads.same {s : List UInt8} {a x y : RSt} (h : Leads s a x) (h2 : Leads s a y) (hx : x.ends = true) (hy : y.ends = true) : x = y := by
  induction h with
  | refl a =>
    cases h2 with
    | refl => rfl
    | step b st i _ h => exact absurd hx (by simp [RSt.ends])
  | step b st i x h ih =>
    cases h2 with
    | refl => exact absurd hy (by simp [RSt.ends])
    | step _ _ _ _ h2 => exact ih h2 hx

/- how much there can be -/
theorem vW_mono : ∀ (d : Nat) (v : VT), vW d v ≤ vW (d + 1) v
  | 0, v => Nat.zero_le _
  | d + 1, v => by
    have h1 : ∀ l : List VT, (l.map fun x => vW d x + 1).sum ≤ (l.map fun x => vW (d + 1) x + 1).sum := by
      intro l
      induction l with
      | nil => simp
      | cons x xs ih => have := vW_mono d x; simp only [List.map_cons, List.sum_cons]; omega
    have h2 : ∀ l : List (ByteArray × VT), (l.map fun p => vW d p.2 + (6 * p.1.size + 4)).sum ≤ (l.map fun p => vW (d + 1) p.2 + (6 * p.1.size + 4)).sum := by
      intro l
      induction l with
      | nil => simp
      | cons x xs ih => have := vW_mono d x.2; simp only [List.map_cons, List.sum_cons]; omega
    have := h1 v.list
    have := h2 v.mem
    rw [show vW (d + 1) v = 40 + 6 * v.words.size + ((v.list.map fun x => vW d x + 1).sum + (v.mem.map fun p => vW d p.2 + (6 * p.1.size + 4)).sum) from rfl,
      show vW (d + 1 + 1) v = 40 + 6 * v.words.size + ((v.list.map fun x => vW (d + 1) x + 1).sum + (v.mem.map fun p => vW (d + 1) p.2 + (6 * p.1.size + 4)).sum) from rfl]
    omega
def partsW (D : Nat) (l : List VT) (ms : List (ByteArray × VT)) : Nat := (l.map fun x => vW D x + 1).sum + (ms.map fun p => vW D p.2 + (6 * p.1.size + 4)).sum
def frW (D : Nat) (f : RFr) : Nat := partsW D f.items f.mems + 6 * f.name.size
theorem vW_node (d : Nat) (k : Int) (b : Bool) (l : List VT) (ms : List (ByteArray × VT)) : vW (d + 1) (.mk k b 0 ⟨#[]⟩ l ms) = 40 + partsW d l ms := rfl
theorem partsW_mono (d : Nat) (l : List VT) (ms : List (ByteArray × VT)) : partsW d l ms ≤ partsW (d + 1) l ms := by
  have h := vW_mono (d + 1) (.mk 0 false 0 ⟨#[]⟩ l ms)
  rw [vW_node, vW_node] at h
  omega
theorem srtP_perm (l : List (ByteArray × VT)) : (srtP l).Perm l := List.mergeSort_perm _ _
theorem partsW_srt (d : Nat) (l : List VT) (ms : List (ByteArray × VT)) : partsW d l (srtP ms) = partsW d l ms := by
  unfold partsW
  rw [((srtP_perm ms).map _).sum_nat]
/-- a value of a text of n bytes -/
structure OkV (n i : Nat) (v : VT) : Prop where
  w : ∀ D, vW D v ≤ 50 * i
  wide : ∀ D, Wide n D v
structure OkF (n i : Nat) (f : RFr) : Prop where
  li : f.items.length ≤ i
  lm : f.mems.length ≤ i
  nm : f.name.size ≤ 1000000
  wi : ∀ D, ∀ x ∈ f.items, Wide n D x
  wm : ∀ D, ∀ p ∈ f.mems, p.1.size ≤ 1000000 ∧ Wide n D p.2
  one : if f.mem then f.items = [] else f.mems = [] ∧ f.name = ⟨#[]⟩
structure OkS (n i : Nat) (st : List RFr) : Prop where
  le : i ≤ n
  w : ∀ D, (st.map (frW D)).sum ≤ 50 * i
  fr : ∀ f ∈ st, OkF n i f
  len : st.length ≤ i
def OkM (n : Nat) : RSt → Prop
  | .run _ st i => OkS n i st
  | .fin v i => i ≤ n ∧ OkV n i v
  | .bad p => p ≤ n
theorem OkF.more {n i j : Nat} {f : RFr} (h : OkF n i f) (hj : i ≤ j) : OkF n j f := ⟨Nat.le_trans h.li hj, Nat.le_trans h.lm hj, h.nm, h.wi, h.wm, h.one⟩
theorem OkS.more {n i j : Nat} {st : List RFr} (h : OkS n i st) (hj : i ≤ j) (hn : j ≤ n) : OkS n j st := ⟨hn, fun D => Nat.le_trans (h.w D) (by omega), fun f hf => (h.fr f hf).more hj, Nat.le_trans h.len hj⟩
theorem OkF.new (n i : Nat) (m : Bool) : OkF n i (RFr.new m) :=
  ⟨Nat.zero_le _, Nat.zero_le _, Nat.zero_le _, (fun _ x hx => by cases hx), (fun _ x hx => by cases hx), by cases m <;> simp [RFr.new]⟩
theorem OkF.put {n i j : Nat} {f : RFr} {v : VT} (h : OkF n i f) (hj : i < j) (hv : ∀ D, Wide n D v) : OkF n j (f.put v) := by
  obtain ⟨m, name, items, mems⟩ := f
  cases m with
  | true =>
    refine ⟨Nat.le_trans h.li (by omega), ?_, Nat.zero_le _, h.wi, fun D p hp => ?_, h.one⟩
    · have := h.lm; simp only [RFr.put, if_true, List.length_append, List.length_cons, List.length_nil] at this ⊢; omega
    · simp only [RFr.put, if_true, List.mem_append, List.mem_cons, List.not_mem_nil, or_false] at hp
      rcases hp with hp | rfl
      · exact h.wm D p hp
      · exact ⟨h.nm, hv D⟩
  | false =>
    refine ⟨?_, Nat.le_trans h.lm (by omega), h.nm, fun D x hx => ?_, h.wm, h.one⟩
    · have := h.li; simp only [RFr.put, Bool.false_eq_true, if_false, List.length_append, List.length_cons, List.length_nil] at this ⊢; omega
    · simp only [RFr.put, Bool.false_eq_true, if_false, List.mem_append, List.mem_cons, List.not_mem_nil, or_false] at hx
      rcases hx with hx | rfl
      · exact h.wi D x hx
      · exact hv D
theorem frW_put (D : Nat) (f : RFr) (v : VT) : frW D (f.put v) ≤ frW D f + vW D v + 4 := by
  obtain ⟨m, name, items, mems⟩ := f
  cases m with
  | true =>
    show partsW D items (mems ++ [(name, v)]) + 6 * (⟨#[]⟩ : ByteArray).size ≤ partsW D items mems + 6 * name.size + vW D v + 4
    have e : (⟨#[]⟩ : ByteArray).size = 0 := rfl
    simp only [partsW, List.map_append, List.sum_append, List.map_cons, List.map_nil, List.sum_cons, List.sum_nil, e]
    omega
  | false =>
    show partsW D (items ++ [v]) mems + 6 * name.size ≤ partsW D items mems + 6 * name.size + vW D v + 4
    simp only [partsW, List.map_append, List.sum_append, List.map_cons, List.map_nil, List.sum_cons, List.sum_nil]
    omega
theorem putS_ok {n i j : Nat} {st : List RFr} {v : VT} (h : ∀ f ∈ st, OkF n i f) (hij : i < j) (hj : j ≤ n) (hw : ∀ D, vW D v + 5 + (st.map (frW D)).sum ≤ 50 * j) (hv : ∀ D, Wide n D v) (hl : st.length ≤ j) : OkM n (putS st v j) := by
  cases st with
  | nil => exact ⟨hj, fun D => by have := hw D; omega, hv⟩
  | cons f r =>
    refine ⟨hj, fun D => ?_, fun g hg => ?_, hl⟩
    · have h1 := hw D
      have h2 := frW_put D f v
      simp only [List.map_cons, List.sum_cons] at h1 ⊢
      omega
    · rcases List.mem_cons.1 hg with rfl | hg
      · exact (h f (by simp)).put hij hv
      · exact (h g (by simp [hg])).more (by omega)
theorem OkF.value {n i : Nat} {f : RFr} (h : OkF n i f) (hi : i ≤ n) : ∀ D, Wide n D f.value
  | 0 => trivial
  | D + 1 => by
    refine ⟨Nat.le_trans h.li hi, ?_, Nat.zero_le _, fun x hx => h.wi D x hx, fun p hp => ?_⟩
    · show (srtP f.mems).length ≤ n
      rw [(srtP_perm _).length_eq]
      exact Nat.le_trans h.lm hi
    · exact h.wm D p ((srtP_perm _).mem_iff.1 hp)
theorem vW_value (D : Nat) (f : RFr) : vW D f.value ≤ 40 + frW D f := by
  cases D with
  | zero => exact Nat.zero_le _
  | succ D =>
    have h1 : vW (D + 1) f.value = 40 + partsW D f.items (srtP f.mems) := rfl
    rw [h1, partsW_srt]
    have := partsW_mono D f.items f.mems
    unfold frW
    omega
theorem words_some {l o : List UInt8} {m : Nat} (h : wordsOf l = some (o, m)) : 1 ≤ m ∧ m ≤ l.length ∧ o.length ≤ 4 * (m + 1) := by
  have h1 := wordsL_le _ _ _ _ _ _ h
  have h2 := wordsL_size _ _ _ _ _ _ (by simp) h
  omega
theorem leafW (D : Nat) (k : Int) (b : Bool) (x : Int) (t : ByteArray) : vW D (.mk k b x t [] []) ≤ 40 + 6 * t.size := by
  cases D with
  | zero => exact Nat.zero_le _
  | succ D => exact Nat.le_refl _
theorem leafWide (n D : Nat) (k : Int) (b : Bool) (x : Int) {t : ByteArray} (h : t.size ≤ 1000000) : Wide n D (.mk k b x t [] []) := by
  cases D with
  | zero => trivial
  | succ D => exact ⟨Nat.zero_le _, Nat.zero_le _, h, (fun x hx => by cases hx), (fun x hx => by cases hx)⟩
theorem rdRow_leaf {b : ByteArray} {v : VT} (h : rdRow b = some v) : ∃ k f x, v = .mk k f x ⟨#[]⟩ [] [] := by
  unfold rdRow at h
  split at h
  · exact ⟨_, _, _, (Option.some.inj h).symm⟩
  · split at h
    · exact ⟨_, _, _, (Option.some.inj h).symm⟩
    · split at h
      · exact ⟨_, _, _, (Option.some.inj h).symm⟩
      · split at h
        · exact ⟨_, _, _, (Option.some.inj h).symm⟩
        · cases h
theorem start_row {c : UInt8} (h : startB c = true) : rowB c = true := by
  unfold startB at h
  unfold rowB
  simp only [Bool.or_eq_true] at h ⊢
  rcases h with (h | h) | h
  · exact .inl (.inl (.inl (.inl h)))
  · exact .inl (.inl (.inl (.inr h)))
  · exact .inl (.inl (.inr h))
theorem memS_ok {s : List UInt8} {i : Nat} {f : RFr} {r : List RFr} (hs : s.length ≤ 240000) (h : OkS s.length i (f :: r)) (hf : f.mem = true) : OkM s.length (memS s f r i) := by
  unfold memS
  have hk := spanAt_ge blankB s i
  have hk2 := spanAt_le blankB h.le
  generalize hkk : spanAt blankB s i = k at *
  split
  · exact hk2
  · rename_i h34
    have hlt := topAt_lt (s := s) (i := k) (by rw [Decidable.not_not.1 h34]; decide)
    split
    · exact hk2
    · rename_i o m hq
      obtain ⟨hm1, hm2, hm3⟩ := words_some hq
      rw [List.length_drop] at hm2
      split
      · exact hk2
      · have hc := spanAt_ge blankB s (k + 1 + m)
        have hc2 := spanAt_le blankB (s := s) (i := k + 1 + m) (by omega)
        generalize spanAt blankB s (k + 1 + m) = c at *
        split
        · exact hc2
        · rename_i h58
          have hlt2 := topAt_lt (s := s) (i := c) (by rw [Decidable.not_not.1 h58]; decide)
          have ho : (⟨o.toArray⟩ : ByteArray).size = o.length := by simp [ByteArray.size]
          refine ⟨by omega, fun D => ?_, fun g hg => ?_, by have := h.len; simp only [List.length_cons] at this ⊢; omega⟩
          · have h1 := h.w D
            simp only [List.map_cons, List.sum_cons, frW, ho] at h1 ⊢
            omega
          · rcases List.mem_cons.1 hg with rfl | hg
            · have h1 := (h.fr f (by simp)).more (j := c + 1) (by omega)
              refine ⟨h1.li, h1.lm, by rw [ho]; omega, h1.wi, h1.wm, ?_⟩
              have := h1.one
              simp only [hf, if_true] at this ⊢
              exact this
            · exact (h.fr g (by simp [hg])).more (by omega)
theorem begK_ok {s : List UInt8} {i k : Nat} {st : List RFr} (hs : s.length ≤ 240000) (h : OkS s.length i st) (hik : i ≤ k) (hk : k ≤ s.length) : OkM s.length (begK s st k) := by
  unfold begK
  split
  · rename_i h34
    have hlt := topAt_lt (s := s) (i := k) (by rw [h34]; decide)
    split
    · exact hk
    · rename_i o m hq
      obtain ⟨hm1, hm2, hm3⟩ := words_some hq
      rw [List.length_drop] at hm2
      have ho : (⟨o.toArray⟩ : ByteArray).size = o.length := by simp [ByteArray.size]
      refine putS_ok h.fr (by omega) (by omega) (fun D => ?_) (fun D => leafWide _ _ _ _ _ (by rw [ho]; omega)) (by have := h.len; omega)
      have h1 := h.w D
      have h2 := leafW D 3 false 0 ⟨o.toArray⟩
      unfold rdWords
      rw [ho] at h2
      omega
  · split
    · rename_i hst
      have hlt := topAt_lt (s := s) (i := k) (fun e => by rw [e] at hst; exact absurd hst (by decide))
      have he := spanAt_le rowB hk
      have he2 : k + 1 ≤ spanAt rowB s k := by
        rw [spanAt_yes hlt (by rw [← topAt_get hlt]; exact start_row hst)]
        exact spanAt_ge _ _ _
      split
      · exact hk
      · rename_i v hq
        obtain ⟨a, b, x, rfl⟩ := rdRow_leaf hq
        refine putS_ok h.fr (by omega) he (fun D => ?_) (fun D => leafWide _ _ _ _ _ (Nat.zero_le _)) (by have := h.len; omega)
        have h1 := h.w D
        have h2 := leafW D a b x ⟨#[]⟩
        have e : (⟨#[]⟩ : ByteArray).size = 0 := rfl
        rw [e] at h2
        omega
    · have hnew : ∀ m, ∀ D, vW D (RFr.new m).value ≤ 40 := fun m D => by
        have := vW_value D (RFr.new m)
        have e : frW D (RFr.new m) = 0 := rfl
        omega
      have open_ : ∀ m, topAt s k ≠ 0 → OkS s.length (spanAt blankB s (k + 1)) (RFr.new m :: st) := fun m h0 => by
        have hlt := topAt_lt h0
        have h2 := spanAt_ge blankB s (k + 1)
        have h3 := spanAt_le blankB (s := s) (i := k + 1) (by omega)
        refine ⟨h3, fun D => ?_, fun g hg => ?_, by have := h.len; simp only [List.length_cons]; omega⟩
        · have h1 := h.w D
          have e : frW D (RFr.new m) = 0 := rfl
          simp only [List.map_cons, List.sum_cons, e]
          omega
        · rcases List.mem_cons.1 hg with rfl | hg
          · exact OkF.new _ _ _
          · exact (h.fr g hg).more (by omega)
      have close_ : ∀ m, topAt s k ≠ 0 → topAt s (spanAt blankB s (k + 1)) ≠ 0 → OkM s.length (putS st (RFr.new m).value (spanAt blankB s (k + 1) + 1)) := fun m h0 h1 => by
        have h2 := spanAt_ge blankB s (k + 1)
        have h3 := topAt_lt h1
        refine putS_ok h.fr (by omega) (by omega) (fun D => ?_) (fun D => (OkF.new _ 0 m).value (Nat.zero_le _) D) (by have := h.len; omega)
        have h4 := h.w D
        have h5 := hnew m D
        omega
      split
      · rename_i h91
        have h0 : topAt s k ≠ 0 := by rw [h91]; decide
        split
        · rename_i h93
          exact close_ false h0 (by rw [h93]; decide)
        · exact open_ false h0
      · split
        · rename_i h123
          have h0 : topAt s k ≠ 0 := by rw [h123]; decide
          split
          · rename_i h125
            exact close_ true h0 (by rw [h125]; decide)
          · exact memS_ok hs (open_ true h0) rfl
        · exact hk
theorem nextK_ok {s : List UInt8} {i k : Nat} {f : RFr} {r : List RFr} (hs : s.length ≤ 240000) (h : OkS s.length i (f :: r)) (hik : i ≤ k) (hk : k ≤ s.length) : OkM s.length (nextK s f r k) := by
  unfold nextK
  split
  · rename_i h44
    have hlt := topAt_lt (s := s) (i := k) (by rw [h44]; decide)
    have h2 := h.more (j := k + 1) (by omega) (by omega)
    split
    · rename_i hf
      exact memS_ok hs h2 hf
    · exact h2
  · split
    · rename_i he
      have hlt := topAt_lt (s := s) (i := k) (by rw [he]; cases f.mem <;> decide)
      have hf := h.fr f (by simp)
      refine putS_ok (i := i) (fun g hg => h.fr g (by simp [hg])) (by omega) (by omega) (fun D => ?_) (hf.value h.le) (by have := h.len; simp only [List.length_cons] at this; omega)
      have h1 := h.w D
      have h2 := vW_value D f
      simp only [List.map_cons, List.sum_cons] at h1
      omega
    · exact hk
/-- an item begins -/
def startS (s : List UInt8) (f : RFr) (st : List RFr) (i : Nat) : RSt := if f.mem then memS s f st i else .run true (f :: st) i
def openB (m : Bool) : UInt8 := if m then 123 else 91
theorem begK_open {s : List UInt8} {k : Nat} (m : Bool) (st : List RFr) (h : topAt s k = openB m) :
    begK s st k = if topAt s (spanAt blankB s (k + 1)) = endB m then putS st (RFr.new m).value (spanAt blankB s (k + 1) + 1) else startS s (RFr.new m) st (spanAt blankB s (k + 1)) := by
  cases m with
  | true =>
    have h1 : topAt s k = 123 := h
    unfold begK
    rw [h1, if_neg (by decide), if_neg (by decide), if_neg (by decide), if_pos rfl]
    rfl
  | false =>
    have h1 : topAt s k = 91 := h
    unfold begK
    rw [h1, if_neg (by decide), if_neg (by decide), if_pos rfl]
    rfl
theorem nextK_start {s : List UInt8} {k : Nat} (f : RFr) (st : List RFr) (h : topAt s k = 44) : nextK s f st k = startS s f st (k + 1) := by
  unfold nextK
  rw [if_pos h]
  rfl
theorem nextK_end {s : List UInt8} {k : Nat} (f : RFr) (st : List RFr) (h : topAt s k = endB f.mem) : nextK s f st k = putS st f.value (k + 1) := by
  unfold nextK
  rw [if_neg (by rw [h]; cases f.mem <;> decide), if_pos h]
theorem nextK_bad {s : List UInt8} {k : Nat} (f : RFr) (st : List RFr) (h : topAt s k ≠ 44) (h2 : topAt s k ≠ endB f.mem) : nextK s f st k = .bad k := by
  unfold nextK
  rw [if_neg h, if_neg h2]
theorem OkM.step {s : List UInt8} (hs : s.length ≤ 240000) {x : RSt} (h : OkM s.length x) : OkM s.length (stepS s x) := by
  cases x with
  | fin v i => exact h
  | bad p => exact h
  | run b st i =>
    have h0 : OkS s.length i st := h
    cases b with
    | true => exact begK_ok hs h0 (spanAt_ge _ _ _) (spanAt_le _ h0.le)
    | false =>
      cases st with
      | nil => exact h0.le
      | cons f r => exact nextK_ok hs h0 (spanAt_ge _ _ _) (spanAt_le _ h0.le)
theorem Leads.ok {s : List UInt8} (hs : s.length ≤ 240000) {x y : RSt} (h : Leads s x y) (hx : OkM s.length x) : OkM s.length y := by
  induction h with
  | refl => exact hx
  | step b st i x h ih => exact ih (OkM.step hs hx)
end Go.Proofs.YtjmnkdkdjnmejaaGreatDoor
