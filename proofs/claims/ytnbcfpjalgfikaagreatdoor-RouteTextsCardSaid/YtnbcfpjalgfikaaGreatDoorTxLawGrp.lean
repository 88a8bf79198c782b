/- Several texts in one. (1) Routes as text, the plain law: how long a text is, line by line. No conditions. (2) Writing routes: a Builder of any modest size; routes in memory while one is written. No conditions beside sizes. -/
import Derived.Test.YtnbcfpjalgfikaaGreatDoorRtLawGrp
import Derived.Test.YtnbcfpjalgfikaaGreatDoorBuGrp

namespace Go.Proofs.YtnbcfpjalgfikaaGreatDoor
open Go.RowKit
set_option linter.unusedVariables false
set_option linter.unusedSimpArgs false

theorem flat_le {α : Type} {f : α → List UInt8} {m : Nat} {l : List α} (h : ∀ x ∈ l, (f x).length ≤ m) : (l.flatMap f).length ≤ m * l.length := by
  induction l with
  | nil => simp
  | cons x l ih =>
    have h1 := h x List.mem_cons_self
    have h2 := ih (fun y hy => h y (List.mem_cons_of_mem _ hy))
    simp only [List.flatMap_cons, List.length_append, List.length_cons, Nat.mul_succ]
    omega
theorem flat_next {α : Type} (f : α → List UInt8) {l : List α} {k : Nat} (h : k < l.length) : (l.take (k + 1)).flatMap f = (l.take k).flatMap f ++ f l[k] := by
  rw [List.take_succ_eq_append_getElem h, List.flatMap_append]
  simp
theorem flat_take_le {α : Type} {f : α → List UInt8} {m : Nat} {l : List α} {k n : Nat} (h : ∀ x ∈ l, (f x).length ≤ m) (hk : k ≤ n) : ((l.take k).flatMap f).length ≤ m * n := by
  refine Nat.le_trans (flat_le (fun x hx => h x (List.mem_of_mem_take hx))) (Nat.mul_le_mul_left m ?_)
  rw [List.length_take]
  exact Nat.le_trans (Nat.min_le_left _ _) hk
/-- a route's text, whatever its head and its needs' lines are -/
def rtT (hd : RtD → List UInt8) (nd : ByteArray × ByteArray → List UInt8) (r : RtD) : List UInt8 := hd r ++ (r.hosts.flatMap hostP ++ (r.methods.flatMap methodP ++ r.needs.flatMap nd))
structure TxB (hd : RtD → List UInt8) (nd : ByteArray × ByteArray → List UInt8) : Prop where
  hd : ∀ r, RtShort r → (hd r).length ≤ 400020
  nd : ∀ p : ByteArray × ByteArray, p.1.size ≤ 200000 ∧ p.2.size ≤ 200000 → (nd p).length ≤ 400020
theorem len_size (s : ByteArray) : s.data.toList.length = s.size := rfl
theorem trimSuffix_len (l p : List UInt8) : (Lib.trimSuffix l p).length ≤ l.length := by
  unfold Lib.trimSuffix
  split
  · simp
  · exact Nat.le_refl _
theorem txP : TxB headP needP := by
  refine ⟨fun r h => ?_, fun p h => ?_⟩
  · have := h.key; have := h.path; have := h.dest
    unfold headP bRoute
    split <;> simp only [List.length_append, List.length_cons, List.length_nil, len_size] <;> omega
  · unfold needP bNeed
    split <;> simp only [List.length_append, List.length_cons, List.length_nil, len_size] <;> omega
theorem txR : TxB headR needR := by
  refine ⟨fun r h => ?_, fun p h => ?_⟩
  · have := h.key; have := h.path; have := h.dest
    unfold headR bRoute
    refine Nat.le_trans (Nat.le_of_eq (List.length_append)) (Nat.le_trans (Nat.add_le_add_right (trimSuffix_len _ _) _) ?_)
    simp only [List.length_append, List.length_cons, List.length_nil, len_size]
    omega
  · unfold needR bNeed
    refine Nat.le_trans (Nat.le_of_eq (List.length_append)) (Nat.le_trans (Nat.add_le_add_right (trimSuffix_len _ _) _) ?_)
    simp only [List.length_append, List.length_cons, List.length_nil, len_size]
    omega
theorem hostP_len {h : ByteArray} (hs : h.size ≤ 200000) : (hostP h).length ≤ 200010 := by
  unfold hostP bHost
  simp only [List.length_append, List.length_cons, List.length_nil, len_size]
  omega
theorem methodP_len {h : ByteArray} (hs : h.size ≤ 200000) : (methodP h).length ≤ 200010 := by
  unfold methodP bMethod
  simp only [List.length_append, List.length_cons, List.length_nil, len_size]
  omega
theorem hosts_len {hd : RtD → List UInt8} {nd : ByteArray × ByteArray → List UInt8} (H : TxB hd nd) {r : RtD} (h : RtShort r) (k : Nat) (hk : k ≤ 200000) : ((r.hosts.take k).flatMap hostP).length ≤ 40002000000 :=
  Nat.le_trans (flat_take_le (fun x hx => hostP_len (h.hosts.2 x hx)) hk) (by decide)
theorem methods_len {hd : RtD → List UInt8} {nd : ByteArray × ByteArray → List UInt8} (H : TxB hd nd) {r : RtD} (h : RtShort r) (k : Nat) (hk : k ≤ 200000) : ((r.methods.take k).flatMap methodP).length ≤ 40002000000 :=
  Nat.le_trans (flat_take_le (fun x hx => methodP_len (h.methods.2 x hx)) hk) (by decide)
theorem needs_len {hd : RtD → List UInt8} {nd : ByteArray × ByteArray → List UInt8} (H : TxB hd nd) {r : RtD} (h : RtShort r) (k : Nat) (hk : k ≤ 200000) : ((r.needs.take k).flatMap nd).length ≤ 80004000000 :=
  Nat.le_trans (flat_take_le (fun x hx => H.nd x (h.needs.2 x hx)) hk) (by decide)
theorem rtT_len {hd : RtD → List UInt8} {nd : ByteArray × ByteArray → List UInt8} (H : TxB hd nd) {r : RtD} (h : RtShort r) : (rtT hd nd r).length ≤ 161000000000 := by
  have h1 := hosts_len H h r.hosts.length h.hosts.1
  have h2 := methods_len H h r.methods.length h.methods.1
  have h3 := needs_len H h r.needs.length h.needs.1
  have h4 := H.hd r h
  rw [List.take_length] at h1 h2 h3
  unfold rtT
  simp only [List.length_append]
  omega
theorem rtTs_len {hd : RtD → List UInt8} {nd : ByteArray × ByteArray → List UInt8} (H : TxB hd nd) {rs : List RtD} (h : ∀ r ∈ rs, RtShort r) {k : Nat} (hk : k ≤ 300) : ((rs.take k).flatMap (rtT hd nd)).length ≤ 48300000000000 :=
  Nat.le_trans (flat_take_le (fun x hx => rtT_len H (h x hx)) hk) (by decide)
end Go.Proofs.YtnbcfpjalgfikaaGreatDoor

namespace Go.Proofs.YtnbcfpjalgfikaaGreatDoor
open Go.RowKit
set_option linter.unusedVariables false
set_option linter.unusedSimpArgs false

theorem tx_write (b : Nat) (l : List UInt8) (s : ByteArray) (w : World) (h : Bw 49 b b l w) (hn : l.length + s.size ≤ 140737488355328) :
    Calls Tryz.prog 18 #[.pointer (some ⟨b, 0, none⟩), .string s] w fun e w' => e = .returned (.tuple #[.int .i64 s.size, .nilIface]) ∧ Bw 49 b b (l ++ s.data.toList) w' ∧ Mod (fun k => b ≤ k) w w' ∧ Keep b w w' := by
  have hlt := h.lt
  refine (bu_string buT_self b b (Lib.byteCells l) s w h (by rw [Lib.byteCells_length]; omega) (by omega)).mono ?_
  rintro e w' ⟨rfl, hb, hm, hkp⟩
  refine ⟨rfl, .inr ?_, Mod.of_belowB hm, hkp⟩
  rw [Lib.byteCells_append, ← Lib.strCells_eq]
  exact hb
theorem RtAt.mod {S : Nat → Prop} {w w' : World} {x : RA} {r : RtD} (h : RtAt w x r) (hm : Mod S w w') (hs : ∀ g, TB w g 9 ∨ TB w g 55 ∨ TB w g 44 → ¬ S g) : RtAt w' x r :=
  ⟨h.key, h.path, h.dest, h.hosts.mod hm (fun g e => hs g (.inl e)), h.methods.mod hm (fun g e => hs g (.inl e)), h.needs.mod hm (fun g e => hs g (.inr (.inl e))), h.hcap, h.mcap, h.ncap⟩
theorem emp_eq (z : ByteArray) : z.toList.isEmpty = decide (z = ⟨#[]⟩) := by
  rw [← str_nil, Bool.eq_iff_iff]
  simp
theorem cat3 (a b c : ByteArray) : (a ++ b ++ c).data.toList = a.data.toList ++ b.data.toList ++ c.data.toList := by simp [ByteArray.data_append]
theorem cat2 (a b : ByteArray) : (a ++ b).data.toList = a.data.toList ++ b.data.toList := by simp [ByteArray.data_append]
end Go.Proofs.YtnbcfpjalgfikaaGreatDoor
