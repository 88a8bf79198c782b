/- Records of requests as data, the plain law: what a line says, what a text says, what the check says. No program in sight. No conditions. -/
import Derived.Test.YtccffkdaalnfoaaGreatDoorNumM
import Derived.Test.YtccffkdaalnfoaaGreatDoorAsks
namespace Go.Proofs.YtccffkdaalnfoaaGreatDoor
open Go.RowKit
set_option linter.unusedVariables false
set_option linter.unusedSimpArgs false

structure RecD where
  at_ : Int
  route : ByteArray
  caller : ByteArray
  act : ByteArray
  inst : ByteArray
  status : Int
  found : Int
def RecD.enc (r : RecD) : Nat → Value
  | 0 => .int .i64 r.at_
  | 1 => .string r.route
  | 2 => .string r.caller
  | 3 => .string r.act
  | 4 => .string r.inst
  | 5 => .int .i64 r.status
  | 6 => .int .i64 r.found
  | _ => .nilFunc
theorem RecD.one (r : RecD) (j : Nat) (hj : j < 7) : (r.enc j).oneCell' = true := by
  obtain rfl | rfl | rfl | rfl | rfl | rfl | rfl : j = 0 ∨ j = 1 ∨ j = 2 ∨ j = 3 ∨ j = 4 ∨ j = 5 ∨ j = 6 := by omega
  all_goals rfl
def RecD.val (r : RecD) : Value := .agg #[.int .i64 r.at_, .string r.route, .string r.caller, .string r.act, .string r.inst, .int .i64 r.status, .int .i64 r.found]

/-- is a name wrong? -/
def nameBad (s : ByteArray) : Bool := decide (s ≠ ⟨#[]⟩) && !isKey s
def recSelf (r : RecD) : Int :=
  if !isMoment r.at_ then 1 else if nameBad r.route || nameBad r.caller || nameBad r.act || nameBad r.inst then 5 else
  if !(decide (100 ≤ r.status) && decide (r.status ≤ 599)) || !(decide (0 ≤ r.found) && decide (r.found ≤ 4)) then 1 else 0
def recAt (rs : List RecD) (k : Nat) : Int :=
  match rs[k]? with
  | none => 0
  | some r => if recSelf r ≠ 0 then recSelf r else if 0 < k ∧ (∃ p, (rs[k - 1]?.map (·.at_)) = some p ∧ r.at_ < p) then 7 else 0
def recsFault (rs : List RecD) : Int := if 3000 < rs.length then 2 else firstFault (recAt rs) rs.length

/-- lines that say something each, read one by one: what was read; where the first line stands that says nothing; whether all did -/
def readG {α : Type} (take : ByteArray → Option α) : List ByteArray → List α → Nat → List α × Nat × Bool
  | [], acc, i => (acc, 0, true)
  | l :: r, acc, i => if r.isEmpty then (if l = ⟨#[]⟩ then (acc, 0, true) else (acc, i, false)) else match take l with
    | none => (acc, i, false)
    | some x => readG take r (acc ++ [x]) (i + 1)
section
variable {α : Type} {take : ByteArray → Option α}
theorem readG_last {l : ByteArray} {acc : List α} {i : Nat} : readG take [l] acc i = if l = ⟨#[]⟩ then (acc, 0, true) else (acc, i, false) := by
  rw [readG]
  rfl
theorem readG_bad {l : ByteArray} {r : List ByteArray} {acc : List α} {i : Nat} (hr : r ≠ []) (h : take l = none) : readG take (l :: r) acc i = (acc, i, false) := by
  have : r.isEmpty = false := by cases r with | nil => exact absurd rfl hr | cons _ _ => rfl
  rw [readG, this, h]
  rfl
theorem readG_good {l : ByteArray} {r : List ByteArray} {acc : List α} {i : Nat} {x : α} (hr : r ≠ []) (h : take l = some x) : readG take (l :: r) acc i = readG take r (acc ++ [x]) (i + 1) := by
  have : r.isEmpty = false := by cases r with | nil => exact absurd rfl hr | cons _ _ => rfl
  rw [readG, this, h]
  rfl
theorem readG_len (P : List ByteArray) : ∀ (acc : List α) (i : Nat), (readG take P acc i).1.length ≤ acc.length + P.length := by
  induction P with
  | nil => intro acc i; simp [readG]
  | cons l r ih =>
    intro acc i
    rw [readG]
    split
    · split <;> simp
    · split
      · simp
      · rename_i x _
        have := ih (acc ++ [x]) (i + 1)
        simp only [List.length_append, List.length_cons, List.length_nil] at this ⊢
        omega
end

def dashB : ByteArray := ⟨#[45]⟩
/-- - stands for no name -/
def undash (s : ByteArray) : ByteArray := if s = dashB then ⟨#[]⟩ else s
def takeRW : List ByteArray → Option RecD
  | [a, b, c, d, e, f, g] => if b ≠ ⟨#[]⟩ ∧ c ≠ ⟨#[]⟩ ∧ d ≠ ⟨#[]⟩ ∧ e ≠ ⟨#[]⟩ ∧ numOk 15 a = true ∧ numOk 15 f = true ∧ numOk 15 g = true then some ⟨numV a, undash b, undash c, undash d, undash e, numV f, numV g⟩ else none
  | _ => none
def takeR (line : ByteArray) : Option RecD := takeRW (pieces line sp)
theorem takeRW_seven (a b c d e f g : ByteArray) : takeRW [a, b, c, d, e, f, g] = if b ≠ ⟨#[]⟩ ∧ c ≠ ⟨#[]⟩ ∧ d ≠ ⟨#[]⟩ ∧ e ≠ ⟨#[]⟩ ∧ numOk 15 a = true ∧ numOk 15 f = true ∧ numOk 15 g = true then some ⟨numV a, undash b, undash c, undash d, undash e, numV f, numV g⟩ else none := rfl
theorem numOk_empty (m : Nat) : numOk m ⟨#[]⟩ = false := by
  have : numD ⟨#[]⟩ = [] := rfl
  unfold numOk
  rw [this]
  rfl
theorem takeRW_length {ws : List ByteArray} (h : ws.length ≠ 7) : takeRW ws = none := by
  match ws, h with
  | [], _ => rfl
  | [_], _ => rfl
  | [_, _], _ => rfl
  | [_, _, _], _ => rfl
  | [_, _, _, _], _ => rfl
  | [_, _, _, _, _], _ => rfl
  | [_, _, _, _, _, _], _ => rfl
  | [_, _, _, _, _, _, _], h => exact absurd rfl h
  | _ :: _ :: _ :: _ :: _ :: _ :: _ :: _ :: _, _ => rfl
theorem takeRW_empty {ws : List ByteArray} (h : (⟨#[]⟩ : ByteArray) ∈ ws) : takeRW ws = none := by
  by_cases hl : ws.length = 7
  · obtain ⟨a, b, c, d, e, f, g, rfl⟩ : ∃ a b c d e f g, ws = [a, b, c, d, e, f, g] := by
      match ws, hl with
      | [a, b, c, d, e, f, g], _ => exact ⟨a, b, c, d, e, f, g, rfl⟩
    rw [takeRW_seven, if_neg]
    rintro ⟨h1, h2, h3, h4, h5, h6, h7⟩
    have hn := numOk_empty 15
    simp only [List.mem_cons, List.not_mem_nil, or_false] at h
    rcases h with rfl | rfl | rfl | rfl | rfl | rfl | rfl
    · rw [hn] at h5; cases h5
    · exact h1 rfl
    · exact h2 rfl
    · exact h3 rfl
    · exact h4 rfl
    · rw [hn] at h6; cases h6
    · rw [hn] at h7; cases h7
  · exact takeRW_length hl
def readRF (t : ByteArray) : List RecD × Int × Int :=
  if (readG takeR (pieces t nl) [] 0).2.2 = false then ([], ((readG takeR (pieces t nl) [] 0).2.1 : Int), 9) else
  if recsFault (readG takeR (pieces t nl) [] 0).1 ≠ 0 then ([], 0, recsFault (readG takeR (pieces t nl) [] 0).1) else ((readG takeR (pieces t nl) [] 0).1, 0, 0)

/-- a record as a line -/
def dashE (s : ByteArray) : ByteArray := if s = ⟨#[]⟩ then dashB else s
def recWords (r : RecD) : List ByteArray := [itoaB r.at_, dashE r.route, dashE r.caller, dashE r.act, dashE r.inst, itoaB r.status, itoaB r.found]
def recLineB (r : RecD) : ByteArray := (⟨(Lib.join ((recWords r).map (·.data.toList)) sp.data.toList).toArray⟩ : ByteArray) ++ nl
def recText (rs : List RecD) : List UInt8 := rs.flatMap fun r => (recLineB r).data.toList
theorem recText_take {rs : List RecD} {k : Nat} (h : k < rs.length) : recText (rs.take (k + 1)) = recText (rs.take k) ++ (recLineB rs[k]).data.toList := by
  unfold recText
  rw [List.take_succ_eq_append_getElem h, List.flatMap_append]
  simp

end Go.Proofs.YtccffkdaalnfoaaGreatDoor
