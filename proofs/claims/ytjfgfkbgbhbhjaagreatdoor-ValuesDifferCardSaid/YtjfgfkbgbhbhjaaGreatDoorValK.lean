/- Rows of values that a call is building: each of the row's elements a tree that does not lie in the row itself. No conditions. -/
import Derived.Test.YtjfgfkbgbhbhjaaGreatDoorVal1Grp
import Derived.Test.YtjfgfkbgbhbhjaaGreatDoorRowGrp
namespace Go.Proofs.YtjfgfkbgbhbhjaaGreatDoor
open Go.RowKit
set_option linter.unusedVariables false
set_option linter.unusedSimpArgs false

theorem Own.far' {α : Type} {w : World} {B : Nat} {t : TypeId} {sz : Nat} {enc : α → Nat → Value} {A : Option Addr} {n c : Nat} {xs : List α} (h : Own w B t sz enc A n c xs) (g : Nat) (e : blkOf A = some g) : B ≤ g ∧ g < w.heap.size ∧ TB w g t := by
  rcases h.blk with ⟨hA, _⟩ | ⟨g', hA, hB, ht⟩
  · subst hA; cases e
  · subst hA; injection e with e; simp only at e; subst e; exact ⟨hB, ht.lt, ht⟩
structure TrOk {α β : Type} (Tr : World → (Nat → Prop) → α → β → Prop) : Prop where
  mod : ∀ {w w' : World} {G S : Nat → Prop} {x : α} {v : β}, Mod S w w' → (∀ g, G g → (TB w g 29 ∨ TB w g 54) → ¬ S g) → Tr w G x v → Tr w' G x v
  imp : ∀ {w : World} {G G' : Nat → Prop} {x : α} {v : β}, (∀ g, G g → g < w.heap.size → G' g) → Tr w G x v → Tr w G' x v
def TrV (d : Nat) (w : World) (G : Nat → Prop) (x : VA) (v : VT) : Prop := Tree w G d x v
def TrM (d : Nat) (w : World) (G : Nat → Prop) (m : MA) (p : ByteArray × VT) : Prop := m.name = p.1 ∧ Tree w G d m.v p.2
theorem trV_ok (d : Nat) : TrOk (TrV d) := ⟨fun hm hs h => Tree.mod hm hs _ _ _ h, fun hG h => Tree.imp hG _ _ _ h⟩
theorem trM_ok (d : Nat) : TrOk (TrM d) := ⟨fun hm hs h => ⟨h.1, Tree.mod hm hs _ _ _ h.2⟩, fun hG h => ⟨h.1, Tree.imp hG _ _ _ h.2⟩⟩

structure Kids {α β : Type} (Tr : World → (Nat → Prop) → α → β → Prop) (t : TypeId) (sz : Nat) (enc : α → Nat → Value) (w : World) (B : Nat) (G : Nat → Prop) (A : Option Addr) (m c : Nat) (xs : List α) (vs : List β) : Prop where
  own : Own w B t sz enc A m c xs
  len : vs.length = m
  tree : ∀ i (h : i < xs.length) (h' : i < vs.length), Tr w (fun g => G g ∧ blkOf A ≠ some g) xs[i] vs[i]
section
variable {α β : Type} {Tr : World → (Nat → Prop) → α → β → Prop} {t : TypeId} {sz : Nat} {enc : α → Nat → Value} {w w' : World} {B : Nat} {G : Nat → Prop} {A : Option Addr} {m c : Nat} {xs : List α} {vs : List β}
theorem Kids.nil : Kids Tr t sz enc w B G none 0 0 ([] : List α) ([] : List β) := ⟨Own.nil, rfl, fun i h => absurd h (by simp)⟩
theorem Kids.mod {S : Nat → Prop} (hT : TrOk Tr) (h : Kids Tr t sz enc w B G A m c xs vs) (hm : Mod S w w') (h1 : ∀ g, G g → (TB w g 29 ∨ TB w g 54) → ¬ S g) (h2 : ∀ g, blkOf A = some g → ¬ S g) : Kids Tr t sz enc w' B G A m c xs vs :=
  ⟨h.own.mod hm h2, h.len, fun i hi hi' => hT.mod hm (fun g hG ht => h1 g hG.1 ht) (h.tree i hi hi')⟩
theorem Kids.new (hT : TrOk Tr) (h : Kids Tr t sz enc w B G A m c xs vs) (hm : New w w') : Kids Tr t sz enc w' B G A m c xs vs := h.mod hT hm (fun _ _ _ e => e) (fun _ _ e => e)
theorem Kids.push {g9 cap : Nat} {y : α} {u : β} (hT : TrOk Tr) (h : Kids Tr t sz enc w B G A m c xs vs) (hy : Tr w (fun g => G g ∧ blkOf A ≠ some g) y u) (ho : Own w' B t sz enc (some ⟨g9, 0, none⟩) (m + 1) cap (xs ++ [y])) (hm : Mod (fun k => blkOf A = some k) w w') (hat : blkOf A = some g9 ∨ g9 = w.heap.size) :
    Kids Tr t sz enc w' B G (some ⟨g9, 0, none⟩) (m + 1) cap (xs ++ [y]) (vs ++ [u]) := by
  have key : ∀ x v, Tr w (fun g => G g ∧ blkOf A ≠ some g) x v → Tr w' (fun g => G g ∧ blkOf (some (⟨g9, 0, none⟩ : Addr)) ≠ some g) x v := fun x v hx => by
    have h1 : Tr w (fun g => (G g ∧ blkOf A ≠ some g) ∧ blkOf (some (⟨g9, 0, none⟩ : Addr)) ≠ some g) x v := hT.imp (fun g hg hl => ⟨hg, fun e => by
      injection e with e
      simp only at e
      rcases hat with h9 | h9
      · exact hg.2 (by rw [h9, e])
      · omega⟩) hx
    have h2 := hT.mod hm (fun g hg _ e => hg.1.2 e) h1
    exact hT.imp (fun g hg _ => ⟨hg.1.1, hg.2⟩) h2
  have hl := h.own.1
  have hl2 := h.len
  refine ⟨ho, by simp [hl2], fun i hi hi' => ?_⟩
  simp only [List.length_append, List.length_cons, List.length_nil] at hi hi'
  by_cases e : i < m
  · rw [List.getElem_append_left (by omega), List.getElem_append_left (by omega)]
    exact key _ _ (h.tree i (by omega) (by omega))
  · rw [List.getElem_append_right (by omega), List.getElem_append_right (by omega)]
    simp only [List.getElem_singleton]
    exact key _ _ hy
end
/-- a value over rows that have been built -/
theorem Tree.of_kids {w : World} {G : Nat → Prop} {B B' d : Nat} {G1 G2 : Nat → Prop} {kind : Int} {flag : Bool} {num : Int} {words : ByteArray} {A A' : Option Addr} {m c m' c' : Nat} {xs : List VA} {vs : List VT} {ms : List MA} {ps : List (ByteArray × VT)}
    (h1 : Kids (TrV d) 29 6 VA.enc w B G1 A m c xs vs) (h2 : Kids (TrM d) 54 7 MA.enc w B' G2 A' m' c' ms ps)
    (g1 : ∀ g, G1 g → g < w.heap.size → G g) (g2 : ∀ g, G2 g → g < w.heap.size → G g) (b1 : ∀ g, B ≤ g → G g) (b2 : ∀ g, B' ≤ g → G g) :
    Tree w G (d + 1) ⟨kind, flag, num, words, A, m, c, A', m', c'⟩ (.mk kind flag num words vs ps) :=
  ⟨vs, ps, rfl, ⟨xs, h1.own.row' (fun g _ hB => b1 g hB), by rw [h1.own.1, h1.len], fun i hi hi' => Tree.imp (fun g hg hl => g1 g hg.1 hl) _ _ _ (h1.tree i hi hi')⟩,
    ⟨ms, h2.own.row' (fun g _ hB => b2 g hB), by rw [h2.own.1, h2.len], fun i hi hi' => ⟨(h2.tree i hi hi').1, Tree.imp (fun g hg hl => g2 g hg.1 hl) _ _ _ (h2.tree i hi hi').2⟩⟩⟩
theorem sum_le_all {α : Type} (f : α → Nat) (m : Nat) : ∀ (l : List α), (∀ x ∈ l, f x ≤ m) → (l.map f).sum ≤ l.length * m
  | [], _ => by simp
  | x :: l, h => by
    have h1 := h x (by simp)
    have h2 := sum_le_all f m l (fun y hy => h y (by simp [hy]))
    simp only [List.map_cons, List.sum_cons, List.length_cons, Nat.succ_mul]
    omega

end Go.Proofs.YtjfgfkbgbhbhjaaGreatDoor
