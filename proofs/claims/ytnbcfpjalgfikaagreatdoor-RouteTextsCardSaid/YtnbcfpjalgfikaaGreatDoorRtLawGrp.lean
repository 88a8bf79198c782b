/- Several texts in one. (1) Routes as data, the plain law: what is wrong with them, what they read as in text, what a text says. No program in sight. No conditions. (2) Routes in memory. No conditions. -/
import Derived.Test.YtnbcfpjalgfikaaGreatDoorHostLaw
import Derived.Test.YtnbcfpjalgfikaaGreatDoorTpl3
import Derived.Test.YtnbcfpjalgfikaaGreatDoorStrEGrp
import Derived.Test.YtnbcfpjalgfikaaGreatDoorMatLawGrp

namespace Go.Proofs.YtnbcfpjalgfikaaGreatDoor
open Go.RowKit
set_option linter.unusedVariables false
set_option linter.unusedSimpArgs false

structure RtD where
  key : ByteArray
  hosts : List ByteArray
  path : ByteArray
  methods : List ByteArray
  needs : List (ByteArray × ByteArray)
  dest : ByteArray

/-- the first of a list that is wrong, each looked at with those ahead of it -/
def eachF {α : Type} (f : List α → α → Int) : List α → List α → Int
  | _, [] => 0
  | b, x :: r => if f b x ≠ 0 then f b x else eachF f (b ++ [x]) r
theorem eachF_step {α : Type} (f : List α → α → Int) {l : List α} {k : Nat} (h : k < l.length) : eachF f (l.take k) (l.drop k) = if f (l.take k) l[k] ≠ 0 then f (l.take k) l[k] else eachF f (l.take (k + 1)) (l.drop (k + 1)) := by
  rw [List.drop_eq_getElem_cons h, eachF, List.take_succ_eq_append_getElem h]
theorem eachF_end {α : Type} (f : List α → α → Int) (l : List α) : eachF f (l.take l.length) (l.drop l.length) = 0 := by
  rw [List.drop_length, eachF]

/-- a host, or *. and one -/
def starOff (h : ByteArray) : ByteArray := ⟨(Lib.trimPrefix h.data.toList [42, 46]).toArray⟩
def hostPat (h : ByteArray) : Bool := hostForm (starOff h) && decide (hostN (starOff h).data.toList = (starOff h).data.toList)
def hostF (b : List ByteArray) (h : ByteArray) : Int := if !hostPat h then 3 else if Lib.containsS b h then 6 else 0
def hostsF (l : List ByteArray) : Int := if 20 < l.length then 2 else eachF hostF [] l
def methodF (b : List ByteArray) (m : ByteArray) : Int := if !(isTok m && noLow m.data.toList) then 5 else if Lib.containsS b m then 6 else 0
def methodsF (l : List ByteArray) : Int := if 20 < l.length then 2 else eachF methodF [] l
def hasPair (b : List (ByteArray × ByteArray)) (p : ByteArray × ByteArray) : Bool := b.any fun q => decide (q.1 = p.1) && decide (q.2 = p.2)
def needF (b : List (ByteArray × ByteArray)) (p : ByteArray × ByteArray) : Int := if !(isTok p.1 && noUp p.1.data.toList) then 5 else if !isFld p.2 then 3 else if hasPair b p then 6 else 0
def needsF (l : List (ByteArray × ByteArray)) : Int := if 20 < l.length then 2 else eachF needF [] l

/-- a parameter of To that is of another kind in Path -/
def otherK (P : List PartD) (p : PartD) : Bool := P.any fun q => decide (q.kind ≠ 1) && (decide (q.name = p.name) && decide (q.kind ≠ p.kind))
def toF (P T : List PartD) : Int := if T.any (fun p => decide (p.kind ≠ 1) && !hasP P p.name) then 8 else if T.any (fun p => decide (p.kind ≠ 1) && otherK P p) then 10 else 0
def routeF (r : RtD) : Int :=
  if !isKey r.key then 5 else if hostsF r.hosts ≠ 0 then hostsF r.hosts else if (tplOf r.path).1 ≠ 0 then (tplOf r.path).1 else
  if methodsF r.methods ≠ 0 then methodsF r.methods else if needsF r.needs ≠ 0 then needsF r.needs else
  if r.dest = ⟨#[]⟩ then 0 else if (tplOf r.dest).1 ≠ 0 then (tplOf r.dest).1 else toF (tplOf r.path).2 (tplOf r.dest).2
def strLe (a b : ByteArray) : Bool := Op.bytesLess a.toList b.toList || a.toList == b.toList
def rtF (b : List RtD) (r : RtD) : Int := if routeF r ≠ 0 then routeF r else if (b.getLast?.map fun q => strLe r.key q.key).getD false then 7 else 0
def routesF (l : List RtD) : Int := if 300 < l.length then 2 else eachF rtF [] l

/-- the lines of a route -/
def bRoute : List UInt8 := [114, 111, 117, 116, 101, 32]
def bHost : List UInt8 := [104, 111, 115, 116, 32]
def bMethod : List UInt8 := [109, 101, 116, 104, 111, 100, 32]
def bNeed : List UInt8 := [110, 101, 101, 100, 32]
def headP (r : RtD) : List UInt8 := bRoute ++ r.key.data.toList ++ [32] ++ r.path.data.toList ++ (if r.dest = ⟨#[]⟩ then [] else 32 :: r.dest.data.toList) ++ [10]
def hostP (h : ByteArray) : List UInt8 := bHost ++ h.data.toList ++ [10]
def methodP (m : ByteArray) : List UInt8 := bMethod ++ m.data.toList ++ [10]
def needP (p : ByteArray × ByteArray) : List UInt8 := bNeed ++ p.1.data.toList ++ (if p.2 = ⟨#[]⟩ then [] else 32 :: p.2.data.toList) ++ [10]
def routeP (r : RtD) : List UInt8 := headP r ++ (r.hosts.flatMap hostP ++ (r.methods.flatMap methodP ++ r.needs.flatMap needP))
def routesP (l : List RtD) : List UInt8 := l.flatMap routeP
def headR (r : RtD) : List UInt8 := Lib.trimSuffix (bRoute ++ r.key.data.toList ++ [32] ++ r.path.data.toList ++ [32] ++ r.dest.data.toList) [32] ++ [10]
def needR (p : ByteArray × ByteArray) : List UInt8 := Lib.trimSuffix (bNeed ++ p.1.data.toList ++ [32] ++ p.2.data.toList) [32] ++ [10]
def routeR (r : RtD) : List UInt8 := headR r ++ (r.hosts.flatMap hostP ++ (r.methods.flatMap methodP ++ r.needs.flatMap needR))
def routesR (l : List RtD) : List UInt8 := l.flatMap routeR

/-- lines that change a state, read one by one -/
def readSt {σ : Type} (step : σ → ByteArray → Option σ) : List ByteArray → σ → Nat → σ × Nat × Bool
  | [], s, i => (s, 0, true)
  | l :: r, s, i => if r.isEmpty then (if l = ⟨#[]⟩ then (s, 0, true) else (s, i, false)) else match step s l with
    | none => (s, i, false)
    | some s' => readSt step r s' (i + 1)
structure RdS where
  out : List RtD
  kind : Nat
def kindW (w : ByteArray) : Nat := if w = ⟨#[114, 111, 117, 116, 101]⟩ then 1 else if w = ⟨#[104, 111, 115, 116]⟩ then 2 else if w = ⟨#[109, 101, 116, 104, 111, 100]⟩ then 3 else if w = ⟨#[110, 101, 101, 100]⟩ then 4 else 0
def onLast (f : RtD → RtD) : List RtD → List RtD
  | [] => []
  | [r] => [f r]
  | q :: r => q :: onLast f r
def needOf (t : ByteArray) : Option (ByteArray × ByteArray) :=
  if (cutL 32 t.data.toList).1 = [] ∨ ((cutL 32 t.data.toList).2.2 = true ∧ (cutL 32 t.data.toList).2.1 = []) then none else some (⟨(cutL 32 t.data.toList).1.toArray⟩, ⟨(cutL 32 t.data.toList).2.1.toArray⟩)
/-- the words behind the first one -/
def restW (line : ByteArray) : ByteArray := ⟨(cutL 32 line.data.toList).2.1.toArray⟩
def lineKind (line : ByteArray) : Nat := kindW ⟨(cutL 32 line.data.toList).1.toArray⟩
def kindOk (s : RdS) (k : Nat) : Bool := decide (k ≠ 0) && (decide (k = 1) || (decide (s.kind ≤ k) && decide (s.kind ≠ 0)))
def stepW (s : RdS) (k : Nat) : List ByteArray → Option RdS
  | [a] => if k = 2 then some ⟨onLast (fun r => { r with hosts := r.hosts ++ [a] }) s.out, 2⟩ else if k = 3 then some ⟨onLast (fun r => { r with methods := r.methods ++ [a] }) s.out, 3⟩ else none
  | [a, b] => if k = 1 then some ⟨s.out ++ [⟨a, [], b, [], [], ⟨#[]⟩⟩], 1⟩ else none
  | [a, b, c] => if k = 1 then some ⟨s.out ++ [⟨a, [], b, [], [], c⟩], 1⟩ else none
  | _ => none
def stepR (s : RdS) (line : ByteArray) : Option RdS :=
  if kindOk s (lineKind line) = false then none else
  if lineKind line = 4 then (needOf (restW line)).map fun p => ⟨onLast (fun r => { r with needs := r.needs ++ [p] }) s.out, 4⟩ else
  if Lib.containsS (pieces (restW line) sp) ⟨#[]⟩ then none else stepW s (lineKind line) (pieces (restW line) sp)
def rdText (t : ByteArray) : List RtD × Int × Int :=
  if 200000 < t.size then ([], 0, 2) else
  let q := readSt stepR (pieces t nl) ⟨[], 0⟩ 0
  if q.2.2 = false then ([], q.2.1, 9) else if routesF q.1.out ≠ 0 then ([], 0, routesF q.1.out) else (q.1.out, 0, 0)
section
variable {σ : Type} {step : σ → ByteArray → Option σ}
theorem readSt_last {l : ByteArray} {s : σ} {i : Nat} : readSt step [l] s i = if l = ⟨#[]⟩ then (s, 0, true) else (s, i, false) := by
  rw [readSt]
  rfl
theorem readSt_bad {l : ByteArray} {r : List ByteArray} {s : σ} {i : Nat} (hr : r ≠ []) (h : step s l = none) : readSt step (l :: r) s i = (s, i, false) := by
  have : r.isEmpty = false := by cases r with | nil => exact absurd rfl hr | cons _ _ => rfl
  rw [readSt, this, h]
  rfl
theorem readSt_good {l : ByteArray} {r : List ByteArray} {s s' : σ} {i : Nat} (hr : r ≠ []) (h : step s l = some s') : readSt step (l :: r) s i = readSt step r s' (i + 1) := by
  have : r.isEmpty = false := by cases r with | nil => exact absurd rfl hr | cons _ _ => rfl
  rw [readSt, this, h]
  rfl
end
theorem onLast_snoc (f : RtD → RtD) : ∀ (l : List RtD) (r : RtD), onLast f (l ++ [r]) = l ++ [f r]
  | [], r => rfl
  | [q], r => rfl
  | q :: p :: l, r => by
    show q :: onLast f ((p :: l) ++ [r]) = _
    rw [onLast_snoc f (p :: l) r]
    rfl
/-- right texts: no blank at the end, and both writings are one -/
theorem trimSuffix_no (a b : List UInt8) (hb : b ≠ []) (h : b.getLast? ≠ some 32) : Lib.trimSuffix (a ++ b) [32] = a ++ b := by
  unfold Lib.trimSuffix
  rw [if_neg]
  unfold Lib.hasSuffix
  simp only [List.isSuffixOf_iff_suffix]
  rintro ⟨t, ht⟩
  have h1 := congrArg List.getLast? ht
  rw [List.getLast?_append, List.getLast?_append] at h1
  cases hq : b.getLast? with
  | none => rw [List.getLast?_eq_none_iff] at hq; exact hb hq
  | some c =>
    rw [hq] at h1 h
    simp at h1
    exact h (by rw [h1])
theorem trimSuffix_yes (a : List UInt8) : Lib.trimSuffix (a ++ [32]) [32] = a := by
  unfold Lib.trimSuffix
  rw [if_pos (by unfold Lib.hasSuffix; simp [List.isSuffixOf_iff_suffix])]
  simp
theorem arr_empty {s : ByteArray} : s = ⟨#[]⟩ ↔ s.data.toList = [] := by
  constructor
  · rintro rfl; rfl
  · intro h; exact ByteArray.ext (Array.toList_inj.mp h)
theorem headR_eq {r : RtD} (h : r.dest.data.toList.getLast? ≠ some 32) : headR r = headP r := by
  unfold headR headP
  by_cases e : r.dest = ⟨#[]⟩
  · rw [if_pos e, arr_empty.1 e, List.append_nil, trimSuffix_yes, List.append_nil]
  · rw [if_neg e, trimSuffix_no _ _ (fun q => e (arr_empty.2 q)) h]
    simp
theorem needR_eq {p : ByteArray × ByteArray} (h : p.2.data.toList.getLast? ≠ some 32) : needR p = needP p := by
  unfold needR needP
  by_cases e : p.2 = ⟨#[]⟩
  · rw [if_pos e, arr_empty.1 e, List.append_nil, trimSuffix_yes, List.append_nil]
  · rw [if_neg e, trimSuffix_no _ _ (fun q => e (arr_empty.2 q)) h]
    simp
end Go.Proofs.YtnbcfpjalgfikaaGreatDoor

namespace Go.Proofs.YtnbcfpjalgfikaaGreatDoor
open Go.RowKit
set_option linter.unusedVariables false
set_option linter.unusedSimpArgs false

/-- a route's cells -/
structure RA where
  key : ByteArray
  ha : Option Addr
  hn : Nat
  hc : Nat
  path : ByteArray
  ma : Option Addr
  mn : Nat
  mc : Nat
  na : Option Addr
  nn : Nat
  nc : Nat
  dest : ByteArray
def RA.enc (x : RA) : Nat → Value
  | 0 => .string x.key
  | 1 => .slice x.ha x.hn x.hc
  | 2 => .string x.path
  | 3 => .slice x.ma x.mn x.mc
  | 4 => .slice x.na x.nn x.nc
  | 5 => .string x.dest
  | _ => .nilFunc
theorem RA.one (r : RA) (j : Nat) (hj : j < 6) : (r.enc j).oneCell' = true := by
  obtain rfl | rfl | rfl | rfl | rfl | rfl : j = 0 ∨ j = 1 ∨ j = 2 ∨ j = 3 ∨ j = 4 ∨ j = 5 := by omega
  all_goals rfl
def RA.val (x : RA) : Value := .agg #[.string x.key, .slice x.ha x.hn x.hc, .string x.path, .slice x.ma x.mn x.mc, .slice x.na x.nn x.nc, .string x.dest]
/-- a row of strings -/
abbrev SSl1 (w : World) (A : Option Addr) (n : Nat) (l : List ByteArray) : Prop := Sl w 9 1 sEnc A n l
/-- a route stands in memory -/
structure RtAt (w : World) (x : RA) (r : RtD) : Prop where
  key : x.key = r.key
  path : x.path = r.path
  dest : x.dest = r.dest
  hosts : SSl1 w x.ha x.hn r.hosts
  methods : SSl1 w x.ma x.mn r.methods
  needs : QSl w x.na x.nn r.needs
  hcap : x.hn ≤ x.hc
  mcap : x.mn ≤ x.mc
  ncap : x.nn ≤ x.nc
theorem RtAt.new {w w' : World} {x : RA} {r : RtD} (h : RtAt w x r) (hm : New w w') : RtAt w' x r := ⟨h.key, h.path, h.dest, h.hosts.new hm, h.methods.new hm, h.needs.new hm, h.hcap, h.mcap, h.ncap⟩
/-- a row of routes -/
def RtRows (w : World) (A : Option Addr) (n : Nat) (rs : List RtD) : Prop := ∃ xs : List RA, Sl w 44 6 RA.enc A n xs ∧ Al (RtAt w) xs rs
theorem RtRows.new {w w' : World} {A : Option Addr} {n : Nat} {rs : List RtD} (h : RtRows w A n rs) (hm : New w w') : RtRows w' A n rs := by
  obtain ⟨xs, h1, h2⟩ := h
  exact ⟨xs, h1.new hm, h2.imp (fun _ _ q => q.new hm)⟩
theorem RtRows.nil (w : World) : RtRows w none 0 [] := ⟨[], Sl.nil, trivial⟩
theorem RtRows.len {w : World} {A : Option Addr} {n : Nat} {rs : List RtD} (h : RtRows w A n rs) : n = rs.length := by
  obtain ⟨xs, h1, h2⟩ := h
  rw [← h2.len, h1.1]
/-- sizes that the walks can carry -/
structure RtShort (r : RtD) : Prop where
  key : r.key.size ≤ 200000
  path : r.path.size ≤ 100000
  dest : r.dest.size ≤ 100000
  hosts : r.hosts.length ≤ 200000 ∧ ∀ h ∈ r.hosts, h.size ≤ 200000
  methods : r.methods.length ≤ 200000 ∧ ∀ h ∈ r.methods, h.size ≤ 200000
  needs : r.needs.length ≤ 200000 ∧ ∀ p ∈ r.needs, p.1.size ≤ 200000 ∧ p.2.size ≤ 200000
end Go.Proofs.YtnbcfpjalgfikaaGreatDoor
