/- The plain law of Spread, second part: the two players, step by step. No program in sight. Conditions: right arguments. -/
import Derived.Test.YtinnckbffblecaaGreatSpreadLaw
namespace Go.Proofs.YtinnckbffblecaaGreat
open Go.RowKit
set_option linter.unusedVariables false
set_option linter.unusedSimpArgs false

structure Ord where
  asked : Int
  want : Int
  gate : ByteArray
  given : Int
  done : Bool
structure Let where
  asked : Int
  at_ : Int
  gate : ByteArray
  many : Int
  back : Bool
  window : Int
structure VisD where
  at_ : Int
  gate : ByteArray
  cost : Int

/-- the program's player: the center, the gateways' windows and stocks, the orders -/
structure PSt where
  cs : CS
  win : ByteArray → Int
  stk : ByteArray → Int
  os : List Ord
/-- the reference's player -/
structure QSt where
  given : Int → Int
  of_ : ByteArray → Int
  stock : ByteArray → Int
  waits : ByteArray → Bool
  ls : List Let

def upd {α β : Type} [DecidableEq α] (f : α → β) (k : α) (v : β) : α → β := fun x => if x = k then v else f x
theorem upd_same {α β : Type} [DecidableEq α] (f : α → β) (k : α) (v : β) : upd f k v k = v := by simp [upd]
theorem upd_ne {α β : Type} [DecidableEq α] (f : α → β) {k x : α} (v : β) (h : x ≠ k) : upd f k v x = f x := by simp [upd, h]

def Ord.next (D : Int) (o : Ord) : Int := if o.done then o.asked + 2 * D else o.asked + D
def Ord.ev (D : Int) (o : Ord) : Ev := ⟨o.next D, o.done, o.asked, o.gate⟩
def Let.ev (x : Let) : Ev := ⟨x.at_, x.back, x.asked, x.gate⟩
def Ord.let_ (per D : Int) (o : Ord) : Let := if o.done then ⟨o.asked, o.asked + 2 * D, o.gate, o.given, true, (o.asked + D) / per⟩ else ⟨o.asked, o.asked + D, o.gate, o.want, false, 0⟩
theorem Ord.let_ev (per D : Int) (o : Ord) : (o.let_ per D).ev = o.ev D := by
  unfold Ord.let_ Let.ev Ord.ev Ord.next
  cases o.done <;> simp

def leaseN (l : Lim) (s : CS) (t want : Int) : Int := min want (l.most - isum (thereG l s t))
def leaseS (l : Lim) (s : CS) (t : Int) (gate : ByteArray) (want : Int) : CS := ⟨t, iput (thereG l s t) gate (igot (thereG l s t) gate + leaseN l s t want)⟩

def stockP (l : Lim) (p : PSt) (g : ByteArray) (t : Int) : PSt := if t / l.per = p.win g then p else { p with win := upd p.win g (t / l.per), stk := upd p.stk g 0 }
def addP (p : PSt) (g : ByteArray) (n : Int) : PSt := { p with stk := upd p.stk g (p.stk g + n) }
def backP (l : Lim) (D : Int) (p : PSt) (o : Ord) : PSt :=
  if (o.asked + D) / l.per = (stockP l p o.gate (o.next D)).win o.gate then addP (stockP l p o.gate (o.next D)) o.gate o.given else stockP l p o.gate (o.next D)
def happenP (l : Lim) (D : Int) (p : PSt) (i : Nat) : PSt :=
  match p.os[i]? with
  | none => p
  | some o => if o.done then { backP l D p o with os := p.os.eraseIdx i }
    else { p with cs := leaseS l p.cs (o.next D) o.gate o.want, os := p.os.set i ⟨o.asked, o.want, o.gate, leaseN l p.cs (o.next D) o.want, true⟩ }

def haveQ (l : Lim) (q : QSt) (g : ByteArray) (t : Int) : QSt := if q.of_ g = t / l.per then q else { q with stock := upd q.stock g 0, of_ := upd q.of_ g (t / l.per) }
def giveN (l : Lim) (q : QSt) (W want : Int) : Int := min want (l.most - q.given W)
def giveQ (l : Lim) (q : QSt) (W want : Int) : QSt := { q with given := upd q.given W (q.given W + giveN l q W want) }
def getQ (l : Lim) (q : QSt) (g : ByteArray) (W many t : Int) : QSt :=
  if t / l.per = W then { haveQ l q g t with stock := upd (haveQ l q g t).stock g ((haveQ l q g t).stock g + many) } else q
def runStepQ (l : Lim) (D : Int) (q : QSt) (k : Nat) : QSt :=
  match q.ls[k]? with
  | none => q
  | some x => if x.back then { getQ l { q with ls := q.ls.eraseIdx k } x.gate x.window x.many x.at_ with waits := upd q.waits x.gate false }
    else { giveQ l q (x.at_ / l.per) x.many with ls := q.ls.eraseIdx k ++ [⟨x.asked, x.at_ + D, x.gate, giveN l q (x.at_ / l.per) x.many, true, x.at_ / l.per⟩] }

def evW (e : Ev) : Nat := if e.back then 1 else 2
def meas (es : List Ev) : Nat := (es.map evW).sum
def runP (l : Lim) (D T : Int) : Nat → PSt → PSt
  | 0, p => p
  | n + 1, p => match pick T (p.os.map (Ord.ev D)) with
    | none => p
    | some i => runP l D T n (happenP l D p i)
def runQ (l : Lim) (D T : Int) : Nat → QSt → QSt
  | 0, q => q
  | n + 1, q => match pick T (q.ls.map Let.ev) with
    | none => q
    | some i => runQ l D T n (runStepQ l D q i)
def allP (l : Lim) (D T : Int) (p : PSt) : PSt := runP l D T (meas (p.os.map (Ord.ev D))) p
def allQ (l : Lim) (D T : Int) (q : QSt) : QSt := runQ l D T (meas (q.ls.map Let.ev)) q

def takeP (p : PSt) (g : ByteArray) (cost : Int) : Bool × PSt := if cost ≤ p.stk g then (true, addP p g (-cost)) else (false, p)
def visitP (l : Lim) (batch D : Int) (p0 : PSt) (v : VisD) : Bool × PSt :=
  let p := stockP l (allP l D v.at_ p0) v.gate v.at_
  if v.cost ≤ p.stk v.gate then (true, addP p v.gate (-v.cost))
  else if D = 0 then takeP (addP { p with cs := leaseS l p.cs v.at_ v.gate (max v.cost batch) } v.gate (leaseN l p.cs v.at_ (max v.cost batch))) v.gate v.cost
  else (false, if p.os.any (fun o => decide (o.gate = v.gate)) then p else { p with os := p.os ++ [⟨v.at_, max v.cost batch, v.gate, 0, false⟩] })

def askQ (l : Lim) (batch D : Int) (q : QSt) (v : VisD) : QSt :=
  if q.stock v.gate < v.cost ∧ q.waits v.gate = false then
    if D = 0 then getQ l (giveQ l q (v.at_ / l.per) (max v.cost batch)) v.gate (v.at_ / l.per) (giveN l q (v.at_ / l.per) (max v.cost batch)) v.at_
    else { q with waits := upd q.waits v.gate true, ls := q.ls ++ [⟨v.at_, v.at_ + D, v.gate, max v.cost batch, false, 0⟩] }
  else q
def visitQ (l : Lim) (batch D : Int) (q0 : QSt) (v : VisD) : Bool × QSt :=
  let q := askQ l batch D (haveQ l (allQ l D v.at_ q0) v.gate v.at_) v
  if v.cost ≤ q.stock v.gate then (true, { q with stock := upd q.stock v.gate (q.stock v.gate - v.cost) }) else (false, q)

theorem meas_perm {a b : List Ev} (h : a.Perm b) : meas a = meas b := (h.map evW).sum_nat

/-- a step lowers the measure -/
theorem eraseIdx_perm {α : Type} {l : List α} {i : Nat} {a : α} (h : l[i]? = some a) : l.Perm (a :: l.eraseIdx i) := by
  induction l generalizing i with
  | nil => simp at h
  | cons x l ih =>
    cases i with
    | zero => simp at h; subst h; simp
    | succ i =>
      simp only [List.getElem?_cons_succ] at h
      simp only [List.eraseIdx_cons_succ]
      exact ((ih h).cons x).trans (List.Perm.swap a x _)
theorem set_perm {α : Type} {l : List α} {i : Nat} (b : α) (h : i < l.length) : (l.set i b).Perm (b :: l.eraseIdx i) := by
  induction l generalizing i with
  | nil => simp at h
  | cons x l ih =>
    cases i with
    | zero => simp
    | succ i =>
      simp only [List.set_cons_succ, List.eraseIdx_cons_succ]
      exact ((ih (by simpa using h)).cons x).trans (List.Perm.swap b x _)
theorem lt_of_some {α : Type} {l : List α} {i : Nat} {a : α} (h : l[i]? = some a) : i < l.length := by
  rcases Nat.lt_or_ge i l.length with h' | h'
  · exact h'
  · rw [List.getElem?_eq_none h'] at h; cases h

theorem happenP_os (l : Lim) (D : Int) (p : PSt) (i : Nat) (o : Ord) (h : p.os[i]? = some o) :
    (happenP l D p i).os = if o.done then p.os.eraseIdx i else p.os.set i ⟨o.asked, o.want, o.gate, leaseN l p.cs (o.next D) o.want, true⟩ := by
  unfold happenP
  rw [h]
  cases ho : o.done <;> simp [ho]
theorem meas_happenP (l : Lim) (D : Int) (p : PSt) (i : Nat) (hi : i < p.os.length) : meas ((happenP l D p i).os.map (Ord.ev D)) + 1 = meas (p.os.map (Ord.ev D)) := by
  have h : p.os[i]? = some p.os[i] := by simp
  rw [happenP_os l D p i _ h]
  have e1 := meas_perm ((eraseIdx_perm h).map (Ord.ev D))
  cases ho : p.os[i].done
  · simp only [Bool.false_eq_true, if_false]
    rw [meas_perm ((set_perm _ hi).map (Ord.ev D)), e1]
    simp [meas, evW, Ord.ev, ho]
    omega
  · simp only [if_true]
    rw [e1]
    simp [meas, evW, Ord.ev, ho]
    omega
theorem runStepQ_ls (l : Lim) (D : Int) (q : QSt) (k : Nat) (x : Let) (h : q.ls[k]? = some x) :
    (runStepQ l D q k).ls = if x.back then q.ls.eraseIdx k else q.ls.eraseIdx k ++ [⟨x.asked, x.at_ + D, x.gate, giveN l q (x.at_ / l.per) x.many, true, x.at_ / l.per⟩] := by
  unfold runStepQ
  rw [h]
  cases ho : x.back
  · simp [ho]
  · simp only [ho, if_true, getQ, haveQ]
    repeat' split
    all_goals rfl
theorem meas_runStepQ (l : Lim) (D : Int) (q : QSt) (k : Nat) (hk : k < q.ls.length) : meas ((runStepQ l D q k).ls.map Let.ev) + 1 = meas (q.ls.map Let.ev) := by
  have h : q.ls[k]? = some q.ls[k] := by simp
  rw [runStepQ_ls l D q k _ h]
  have e1 := meas_perm ((eraseIdx_perm h).map Let.ev)
  cases ho : q.ls[k].back
  · simp only [Bool.false_eq_true, if_false]
    rw [e1]
    simp [meas, evW, Let.ev, ho]
    omega
  · simp only [if_true]
    rw [e1]
    simp [meas, evW, Let.ev, ho]
    omega

theorem pick_lt {T : Int} {es : List Ev} {j : Nat} (h : pick T es = some j) : j < es.length := by
  obtain ⟨e, he, _⟩ := pick_some h
  exact lt_of_some he
theorem allP_step {l : Lim} {D T : Int} {p : PSt} {i : Nat} (h : pick T (p.os.map (Ord.ev D)) = some i) : allP l D T p = allP l D T (happenP l D p i) := by
  have hm := meas_happenP l D p i (by simpa using pick_lt h)
  unfold allP
  rw [← hm, runP, h]
theorem allP_stop {l : Lim} {D T : Int} {p : PSt} (h : pick T (p.os.map (Ord.ev D)) = none) : allP l D T p = p := by
  unfold allP
  cases meas (p.os.map (Ord.ev D)) with
  | zero => rfl
  | succ n => rw [runP, h]
theorem allQ_step {l : Lim} {D T : Int} {q : QSt} {i : Nat} (h : pick T (q.ls.map Let.ev) = some i) : allQ l D T q = allQ l D T (runStepQ l D q i) := by
  have hm := meas_runStepQ l D q i (by simpa using pick_lt h)
  unfold allQ
  rw [← hm, runQ, h]
theorem allQ_stop {l : Lim} {D T : Int} {q : QSt} (h : pick T (q.ls.map Let.ev) = none) : allQ l D T q = q := by
  unfold allQ
  cases meas (q.ls.map Let.ev) with
  | zero => rfl
  | succ n => rw [runQ, h]

theorem upd_self {α β : Type} [DecidableEq α] (f : α → β) (k : α) : upd f k (f k) = f := by
  funext x; unfold upd; split
  · rename_i e; rw [e]
  · rfl
theorem upd_upd {α β : Type} [DecidableEq α] (f : α → β) (k : α) (a b : β) : upd (upd f k a) k b = upd f k b := by
  funext x; unfold upd; split <;> rfl
theorem stockP_cs (l : Lim) (p : PSt) (g : ByteArray) (t : Int) : (stockP l p g t).cs = p.cs := by unfold stockP; split <;> rfl
theorem stockP_os (l : Lim) (p : PSt) (g : ByteArray) (t : Int) : (stockP l p g t).os = p.os := by unfold stockP; split <;> rfl
theorem stockP_win (l : Lim) (p : PSt) (g : ByteArray) (t : Int) : (stockP l p g t).win = upd p.win g (t / l.per) := by
  unfold stockP; split
  · rename_i e; rw [e, upd_self]
  · rfl
theorem stockP_stk (l : Lim) (p : PSt) (g : ByteArray) (t : Int) : (stockP l p g t).stk = upd p.stk g (if t / l.per = p.win g then p.stk g else 0) := by
  unfold stockP; split
  · rw [upd_self]
  · rfl
theorem haveQ_rest (l : Lim) (q : QSt) (g : ByteArray) (t : Int) : (haveQ l q g t).given = q.given ∧ (haveQ l q g t).waits = q.waits ∧ (haveQ l q g t).ls = q.ls := by unfold haveQ; split <;> exact ⟨rfl, rfl, rfl⟩
theorem haveQ_of (l : Lim) (q : QSt) (g : ByteArray) (t : Int) : (haveQ l q g t).of_ = upd q.of_ g (t / l.per) := by
  unfold haveQ; split
  · rename_i e; rw [← e, upd_self]
  · rfl
theorem haveQ_stock (l : Lim) (q : QSt) (g : ByteArray) (t : Int) : (haveQ l q g t).stock = upd q.stock g (if q.of_ g = t / l.per then q.stock g else 0) := by
  unfold haveQ; split
  · rw [upd_self]
  · rfl
theorem backP_eq (l : Lim) (D : Int) (p : PSt) (o : Ord) : (backP l D p o).cs = p.cs ∧ (backP l D p o).os = p.os ∧ (backP l D p o).win = upd p.win o.gate (o.next D / l.per) ∧
    (backP l D p o).stk = upd p.stk o.gate ((if o.next D / l.per = p.win o.gate then p.stk o.gate else 0) + if (o.asked + D) / l.per = o.next D / l.per then o.given else 0) := by
  unfold backP addP
  rw [stockP_win, upd_same]
  split
  · simp only [stockP_cs, stockP_os, stockP_win, stockP_stk, upd_same, upd_upd, and_self]
  · simp only [stockP_cs, stockP_os, stockP_win, stockP_stk, Int.add_zero, and_self]
theorem getQ_rest (l : Lim) (q : QSt) (g : ByteArray) (W many t : Int) : (getQ l q g W many t).given = q.given ∧ (getQ l q g W many t).waits = q.waits ∧ (getQ l q g W many t).ls = q.ls := by
  unfold getQ
  obtain ⟨h1, h2, h3⟩ := haveQ_rest l q g t
  split
  · exact ⟨h1, h2, h3⟩
  · exact ⟨rfl, rfl, rfl⟩
theorem getQ_of (l : Lim) (q : QSt) (g : ByteArray) (W many t : Int) : (getQ l q g W many t).of_ = upd q.of_ g (if t / l.per = W then t / l.per else q.of_ g) := by
  unfold getQ; split
  · simp only [haveQ_of]
  · rw [upd_self]
theorem getQ_stock (l : Lim) (q : QSt) (g : ByteArray) (W many t : Int) : (getQ l q g W many t).stock = upd q.stock g (if t / l.per = W then (if q.of_ g = t / l.per then q.stock g else 0) + many else q.stock g) := by
  unfold getQ; split
  · simp only [haveQ_stock, upd_same, upd_upd]
  · rw [upd_self]

/-- the two players stand alike at moment T; k visits have been -/
structure Sim (l : Lim) (D T : Int) (k : Nat) (p : PSt) (q : QSt) : Prop where
  perm : q.ls.Perm (p.os.map (Ord.let_ l.per D))
  nodup : (p.os.map (·.gate)).Nodup
  waits : ∀ g, q.waits g = true ↔ g ∈ p.os.map (·.gate)
  gates : ∀ g, (p.win g = q.of_ g ∧ p.stk g = q.stock g) ∨ (q.of_ g < p.win g ∧ p.stk g = 0)
  winle : ∀ g, p.win g ≤ T / l.per
  given : ∀ W, p.cs.now / l.per ≤ W → q.given W = if W = p.cs.now / l.per then isum p.cs.g else 0
  now : p.cs.now ≤ T
  ok : p.cs.Ok l
  nxt : ∀ o ∈ p.os, T ≤ o.next D
  -- bounds
  asked : ∀ o ∈ p.os, 0 ≤ o.asked ∧ o.asked ≤ T ∧ 1 ≤ o.want ∧ o.want ≤ 1000000000 ∧ 0 ≤ o.given ∧ o.given ≤ 1000000000
  stk0 : ∀ g, 0 ≤ p.stk g
  qstk : ∀ g, 0 ≤ q.stock g
  stk1 : ∀ g, p.stk g + 1000000000 * p.os.length ≤ 1000000000 * k
  qstk1 : ∀ g, q.stock g + 1000000000 * p.os.length ≤ 1000000000 * k
  t0 : 0 ≤ T
  zero : D = 0 → p.os = []

end Go.Proofs.YtinnckbffblecaaGreat
