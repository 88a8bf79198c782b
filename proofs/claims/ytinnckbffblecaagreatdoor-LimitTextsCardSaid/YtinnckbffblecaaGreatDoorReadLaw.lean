/- Reading limits, the plain law: what a line says, what a text says. No program in sight. No conditions. -/
import Derived.Test.YtinnckbffblecaaGreatDoorNum
import Derived.Lib.SplitLaws
import Derived.Lib.SlicesS
namespace Go.Proofs.YtinnckbffblecaaGreatDoor
open Go.RowKit
set_option linter.unusedVariables false
set_option linter.unusedSimpArgs false

def pieces (t sep : ByteArray) : List ByteArray := Lib.splitB sep 0 (Lib.countB t sep) t
theorem pieces_length {t sep : ByteArray} (h : 1 ≤ sep.size) : (pieces t sep).length = Lib.countB t sep + 1 := Lib.splitB_all sep h 0 _ t rfl
theorem pieces_hit {t sep : ByteArray} {i : Nat} (h1 : 1 ≤ sep.size) (h : Lib.indexB t sep = i) : pieces t sep = t.extract 0 i :: pieces (t.extract (i + sep.size) t.size) sep := by
  unfold pieces
  rw [Lib.countB_hit t sep i h1 h, Nat.add_comm 1, Lib.splitB_hit sep 0 _ t i h]
  rfl
theorem pieces_miss {t sep : ByteArray} (h : Lib.indexB t sep = -1) : pieces t sep = [t] := by
  unfold pieces
  rw [Lib.splitB_miss sep 0 _ t h]
theorem pieces_ne {t sep : ByteArray} (h : 1 ≤ sep.size) : pieces t sep ≠ [] := fun e => by
  have := pieces_length (t := t) h
  rw [e] at this
  simp at this

def kinds4 : List ByteArray := [⟨#[119, 105, 110, 100, 111, 119]⟩, ⟨#[115, 108, 105, 100, 105, 110, 103]⟩, ⟨#[98, 117, 99, 107, 101, 116]⟩, ⟨#[111, 110, 99, 101]⟩]
def kinds5 : List ByteArray := ⟨#[]⟩ :: kinds4
def kindIx (b : ByteArray) : Int := Lib.idxOfS kinds4 b
theorem idxFromS_succ (zs : List ByteArray) (x : ByteArray) (i : Nat) : (Lib.idxFromS zs x i = -1 ∧ Lib.idxFromS zs x (i + 1) = -1) ∨ (0 ≤ Lib.idxFromS zs x i ∧ Lib.idxFromS zs x (i + 1) = Lib.idxFromS zs x i + 1) := by
  induction zs generalizing i with
  | nil => left; exact ⟨rfl, rfl⟩
  | cons z zs ih =>
    simp only [Lib.idxFromS]
    by_cases h : z = x
    · right; rw [if_pos h, if_pos h]; omega
    · rw [if_neg h, if_neg h]; exact ih (i + 1)
theorem kinds5_ix {b : ByteArray} (hb : b ≠ ⟨#[]⟩) : (kindIx b = -1 ∧ Lib.idxOfS kinds5 b = -1) ∨ (0 ≤ kindIx b ∧ Lib.idxOfS kinds5 b = kindIx b + 1) := by
  unfold kindIx Lib.idxOfS kinds5
  have : Lib.idxFromS (⟨#[]⟩ :: kinds4) b 0 = Lib.idxFromS kinds4 b 1 := by
    rw [Lib.idxFromS, if_neg (fun e => hb e.symm)]
  rw [this]
  exact idxFromS_succ kinds4 b 0
theorem kindIx_empty : kindIx ⟨#[]⟩ = -1 := by
  have h : ¬ 0 ≤ kindIx ⟨#[]⟩ := by
    unfold kindIx
    rw [Lib.idxOfS_nonneg_iff]
    unfold kinds4
    simp
  rcases idxFromS_succ kinds4 ⟨#[]⟩ 0 with ⟨h1, _⟩ | ⟨h1, _⟩
  · exact h1
  · exact absurd h1 h
theorem numOk_empty : numOk ⟨#[]⟩ = false := by
  have : numD ⟨#[]⟩ = [] := rfl
  unfold numOk
  rw [this]
  rfl

/-- what a line says, if anything -/
def takeW : List ByteArray → Option Lim
  | [a, b, c, d, e] => if a ≠ ⟨#[]⟩ ∧ 0 ≤ kindIx b ∧ numOk c = true ∧ numOk d = true ∧ numOk e = true then some ⟨a, kindIx b + 1, numV c, numV d, numV e⟩ else none
  | _ => none
def takeL (line : ByteArray) : Option Lim := takeW (pieces line sp)
theorem takeW_five (a b c d e : ByteArray) : takeW [a, b, c, d, e] = if a ≠ ⟨#[]⟩ ∧ 0 ≤ kindIx b ∧ numOk c = true ∧ numOk d = true ∧ numOk e = true then some ⟨a, kindIx b + 1, numV c, numV d, numV e⟩ else none := rfl
theorem takeW_empty {ws : List ByteArray} (h : (⟨#[]⟩ : ByteArray) ∈ ws) : takeW ws = none := by
  match ws, h with
  | [], _ => rfl
  | [_], _ => rfl
  | [_, _], _ => rfl
  | [_, _, _], _ => rfl
  | [_, _, _, _], _ => rfl
  | [a, b, c, d, e], h =>
    rw [takeW_five, if_neg]
    rintro ⟨h1, h2, h3, h4, h5⟩
    have hi := kindIx_empty
    have hn := numOk_empty
    rcases List.mem_cons.1 h with rfl | h
    · exact h1 rfl
    rcases List.mem_cons.1 h with rfl | h
    · omega
    rcases List.mem_cons.1 h with rfl | h
    · rw [hn] at h3; cases h3
    rcases List.mem_cons.1 h with rfl | h
    · rw [hn] at h4; cases h4
    rcases List.mem_cons.1 h with rfl | h
    · rw [hn] at h5; cases h5
    · cases h
  | _ :: _ :: _ :: _ :: _ :: _ :: _, _ => rfl
theorem takeW_length {ws : List ByteArray} (h : ws.length ≠ 5) : takeW ws = none := by
  match ws, h with
  | [], _ => rfl
  | [_], _ => rfl
  | [_, _], _ => rfl
  | [_, _, _], _ => rfl
  | [_, _, _, _], _ => rfl
  | [a, b, c, d, e], h => exact absurd rfl h
  | _ :: _ :: _ :: _ :: _ :: _ :: _, _ => rfl

/-- what lines say: the limits; where the first line stands that says none; whether all did -/
def readL : List ByteArray → List Lim → Nat → List Lim × Nat × Bool
  | [], acc, i => (acc, 0, true)
  | l :: r, acc, i => if r.isEmpty then (if l = ⟨#[]⟩ then (acc, 0, true) else (acc, i, false)) else match takeL l with
    | none => (acc, i, false)
    | some x => readL r (acc ++ [x]) (i + 1)
theorem readL_last {l : ByteArray} {acc : List Lim} {i : Nat} : readL [l] acc i = if l = ⟨#[]⟩ then (acc, 0, true) else (acc, i, false) := by
  rw [readL]
  rfl
theorem readL_bad {l : ByteArray} {r : List ByteArray} {acc : List Lim} {i : Nat} (hr : r ≠ []) (h : takeL l = none) : readL (l :: r) acc i = (acc, i, false) := by
  have : r.isEmpty = false := by cases r with | nil => exact absurd rfl hr | cons _ _ => rfl
  rw [readL, this, h]
  rfl
theorem readL_good {l : ByteArray} {r : List ByteArray} {acc : List Lim} {i : Nat} {x : Lim} (hr : r ≠ []) (h : takeL l = some x) : readL (l :: r) acc i = readL r (acc ++ [x]) (i + 1) := by
  have : r.isEmpty = false := by cases r with | nil => exact absurd rfl hr | cons _ _ => rfl
  rw [readL, this, h]
  rfl
def readF (t : ByteArray) : List Lim × Int × Int :=
  if (readL (pieces t nl) [] 0).2.2 = false then ([], ((readL (pieces t nl) [] 0).2.1 : Int), 9) else
  if limsFault (readL (pieces t nl) [] 0).1 ≠ 0 then ([], 0, limsFault (readL (pieces t nl) [] 0).1) else ((readL (pieces t nl) [] 0).1, 0, 0)

end Go.Proofs.YtinnckbffblecaaGreatDoor
