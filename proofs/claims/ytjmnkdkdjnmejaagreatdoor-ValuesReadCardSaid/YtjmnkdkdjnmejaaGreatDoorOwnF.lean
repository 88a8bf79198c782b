/- A row of bytes that a call fills, its head frozen or not: append of a byte, of a rune; as a string. No conditions but lengths below 2^40. -/
import Derived.Test.YtjmnkdkdjnmejaaGreatDoorBaseGrp
import Derived.Test.YtjmnkdkdjnmejaaGreatDoorShelf
import Derived.Laws.BytesArg
import Derived.Lib.BufSteps
namespace Go.Proofs.YtjmnkdkdjnmejaaGreatDoor
open Go.RowKit
set_option linter.unusedVariables false
set_option linter.unusedSimpArgs false

def bEncF (c : UInt8) (_ : Nat) : Value := .int .u8 (c.toNat : Int)
theorem einfo_byteF : EInfo Tryz.prog 5 1 1 := EInfo.of (z := .int .u8 0) (by kernel_rfl) rfl (by decide)
/-- the slice '.slice A n c' is a row of bytes of the call's own that reads as l; of what lay in w0 nothing has turned -/
def OwnF (w0 : World) (A : Option Addr) (n c : Nat) (l : List UInt8) (w : World) : Prop := l.length = n ∧ Lib.OwnBuf w0.heap.size 5 (.slice A n c) n (l.flatMap (encL 1 bEncF)) w0 w
theorem OwnF.nil (w : World) : OwnF w none 0 0 [] w := ⟨rfl, World.ownsRowF_nil _ _ _ _, (Mod.refl (fun _ => False) w).below, Nat.le_refl _⟩
theorem OwnF.news {w0 w : World} {A : Option Addr} {n c : Nat} {l : List UInt8} (h : OwnF w0 A n c l w) : New w0 w := Mod.of_below h.2.2.1
theorem OwnF.size {w0 w : World} {A : Option Addr} {n c : Nat} {l : List UInt8} (h : OwnF w0 A n c l w) : w0.heap.size ≤ w.heap.size := h.2.2.2
theorem OwnF.new {w0 w w' : World} {A : Option Addr} {n c : Nat} {l : List UInt8} (h : OwnF w0 A n c l w) (hm : New w w') : OwnF w0 A n c l w' := by
  refine ⟨h.1, ?_, (h.news.trans hm).below, Nat.le_trans h.size hm.size⟩
  refine ⟨h.2.1.1, ?_⟩
  rcases h.2.1.2 with hn | ⟨g, cap, cur, fz, hv, hb, hg, hr⟩
  · exact .inl hn
  · exact .inr ⟨g, cap, cur, fz, hv, hb, (hm.block g (heap_lt hg) (fun e => e)).trans hg, hr⟩
theorem OwnF.form {w0 w : World} {A : Option Addr} {n c : Nat} {l : List UInt8} (h : OwnF w0 A n c l w) : (A = none ∧ n = 0 ∧ c = 0 ∧ l = []) ∨ ∃ g, A = some ⟨g, 0, none⟩ ∧ ∀ i (hi : i < l.length), w.cell? ⟨g, i, none⟩ = some (.int .u8 (l[i].toNat : Int)) := by
  rcases h.2.1.2 with ⟨hv, hn⟩ | ⟨g, cap, cur, fz, hv, hb, hg, hr⟩
  · injection hv with h1 h2 h3
    exact .inl ⟨h1, h2, h3, List.eq_nil_of_length_eq_zero (by rw [h.1, h2])⟩
  · injection hv with h1 h2 h3
    refine .inr ⟨g, h1, fun i hi => ?_⟩
    have := World.ownsRowF.cells h.2.1 (g := g) (by rw [h1]; rfl) i (.int .u8 (l[i].toNat : Int)) (by
      have h2 := flat_get 1 bEncF l i hi 0 (by decide)
      simpa [bEncF] using h2)
    have hadd : (⟨g, 0, none⟩ : Addr).add i = ⟨g, i, none⟩ := by unfold Addr.add; split <;> simp_all
    rwa [hadd] at this
theorem OwnF.string {w0 w : World} {A : Option Addr} {n c : Nat} {l : List UInt8} (h : OwnF w0 A n c l w) :
    (convert 106 9 (.slice A n c)).run Tryz.prog w = .ok (.string ⟨l.toArray⟩) w := by
  have hl := h.1
  rcases h.form with ⟨rfl, rfl, rfl, rfl⟩ | ⟨g, rfl, hc⟩
  · exact run_convert_bytes_nil (P := Tryz.prog) w 106 5 Tryz.underlying106 Tryz.underlying5 0 0 9 Tryz.underlying9
  · have := run_convert_bytes_arg (P := Tryz.prog) w 106 5 Tryz.underlying106 Tryz.underlying5 g 0 n c (l.map fun x => (x.toNat : Int)) (by simp [hl]) (fun i hi => by
      rw [Nat.zero_add, hc i (by omega)]
      simp [List.getD_eq_getElem?_getD, show i < l.length by omega]) 9 Tryz.underlying9
    have e : strOfNums (l.map fun x => (x.toNat : Int)) = ⟨l.toArray⟩ := by
      unfold strOfNums
      rw [List.map_map]
      have hid : ((fun n : Int => UInt8.ofNat n.toNat) ∘ fun x : UInt8 => (x.toNat : Int)) = id := by
        funext x
        simp
      rw [hid, List.map_id]
    rw [e] at this
    exact this
theorem OwnF.of {w0 w : World} {v : Value} {n : Nat} {l : List UInt8} (hl : l.length = n) (h : Lib.OwnBuf w0.heap.size 5 v n (l.flatMap (encL 1 bEncF)) w0 w) : ∃ A c, v = .slice A n c ∧ OwnF w0 A n c l w := by
  rcases h.1.2 with ⟨rfl, rfl⟩ | ⟨g, cap, cur, fz, rfl, hr⟩
  · exact ⟨none, 0, rfl, hl, h⟩
  · exact ⟨_, _, rfl, hl, h⟩
/-- append of a byte that the statement has laid -/
theorem wpList_pushF {w0 w : World} {A : Option Addr} {n c : Nat} {l : List UInt8} {ops : Array Oper} {rest : List Oper} {o : Oper} {a : Act} {Q : Exit → Act → World → Prop} (hgd : o.guard = none) (s x : Operand)
    (ho : o.op = .call { callee := .builtin .append, args := #[s, x], argTypes := #[106, 106] }) (hs : a.eval s = .slice A n c) (h : OwnF w0 A n c l w) (b : UInt8) (hx : a.eval x = .slice (some ⟨w.heap.size, 0, none⟩) 1 1) (hlen : n < 1000000000)
    (hK : ∀ A' c' w', OwnF w0 A' (n + 1) c' (l ++ [b]) w' → wpList Tryz.prog ops Q rest (a.put o.dst (.slice A' (n + 1) c')) w') : wpList Tryz.prog ops Q (o :: rest) a (w.alloc (.cells #[.int .u8 (b.toNat : Int)] 5)) := by
  obtain ⟨i, z, hi0, hz, hsz, hby, hzs, h0⟩ := einfo_byteF
  have hz' : i.zero = some (.int .u8 0) := by
    have e : (Tryz.prog.info? 5).map (fun i => i.zero) = some (some (.int .u8 0)) := by kernel_rfl
    rw [hi0] at e
    simpa using e
  refine Lib.wpList_append_byte hgd s x 106 ho w0.heap.size 5 i Tryz.underlying106 hi0 hz' hsz hby _ n _ hs w0 w (b.toNat : Int) h.2 hx (by omega) ?_
  intro v' w' hb
  have e : l.flatMap (encL 1 bEncF) ++ [.int .u8 (b.toNat : Int)] = (l ++ [b]).flatMap (encL 1 bEncF) := by
    rw [List.flatMap_append]; rfl
  rw [e] at hb
  obtain ⟨A', c', rfl, hO⟩ := OwnF.of (by rw [List.length_append, h.1]; rfl) hb
  exact hK A' c' w' hO
theorem runeCells_enc (r : Int) : Lib.runeCells r = (Lib.encodeRune r).flatMap (encL 1 bEncF) := by
  have h := Lib.encodeRuneZ_byte r
  unfold Lib.runeCells Lib.encodeRune
  generalize Lib.encodeRuneZ r = l at *
  induction l with
  | nil => rfl
  | cons x l ih =>
    rw [List.map_cons, List.map_cons, List.flatMap_cons, ih (fun y hy => h y (List.mem_cons_of_mem _ hy))]
    have hx := h x (by simp)
    have e : ((x.toNat.toUInt8).toNat : Int) = x := by
      have : x.toNat.toUInt8.toNat = x.toNat % 256 := by simp
      rw [this]; omega
    show Value.int .u8 x :: _ = Value.int .u8 (x.toNat.toUInt8.toNat : Int) :: _
    rw [e]
    rfl
theorem appendRune_any {w0 w : World} {A : Option Addr} {n c : Nat} {l : List UInt8} (h : OwnF w0 A n c l w) (r : Int) (h0 : 0 ≤ r) (h1 : r ≤ 2147483647) (hlen : n < 1000000000) :
    Calls Tryz.prog 99 #[.slice A n c, .int .i32 r] w fun e w' => ∃ A' n' c', e = .returned (.slice A' n' c') ∧ OwnF w0 A' n' c' (l ++ Lib.encodeRune r) w' := by
  refine (Tryz.utf8_AppendRune_row w0.heap.size (.slice A n c) n (l.flatMap (encL 1 bEncF)) r (by omega) h1 w h.2.1 (by omega) h.size).mono ?_
  rintro e w' ⟨v', rfl, hown, o, hg⟩
  have hb := (h.2.alloc o).grown hown hg
  rw [runeCells_enc, flat_length, Nat.mul_one, ← List.flatMap_append] at hb
  obtain ⟨A', c', rfl, hO⟩ := OwnF.of (by rw [List.length_append, h.1]) hb
  exact ⟨A', _, c', rfl, hO⟩

end Go.Proofs.YtjmnkdkdjnmejaaGreatDoor
