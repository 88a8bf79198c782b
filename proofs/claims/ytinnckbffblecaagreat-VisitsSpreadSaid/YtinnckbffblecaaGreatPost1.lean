/- The reference's player of visits in memory: what the center gives, what a gateway has. Conditions: right limits, modest numbers. -/
import Derived.Test.YtinnckbffblecaaGreatSpread8
import Derived.Test.YtinnckbffblecaaGreatMaps2
namespace Go.Proofs.YtinnckbffblecaaGreat
open Go.RowKit Go.MapKept
set_option linter.unusedVariables false
set_option linter.unusedSimpArgs false

def Let.enc (a : Let) : Nat → Value
  | 0 => .int .i64 a.asked
  | 1 => .int .i64 a.at_
  | 2 => .string a.gate
  | 3 => .int .i64 a.many
  | 4 => .bool a.back
  | 5 => .int .i64 a.window
  | _ => .nilFunc
theorem Let.one (v : Let) (j : Nat) (hj : j < 6) : (v.enc j).oneCell' = true := by
  obtain rfl | rfl | rfl | rfl | rfl | rfl : j = 0 ∨ j = 1 ∨ j = 2 ∨ j = 3 ∨ j = 4 ∨ j = 5 := by omega
  all_goals rfl
theorem einfo_let : EInfo Tryz.prog 100 6 56 := EInfo.of (z := .agg #[.int .i64 0, .int .i64 0, .string ⟨#[]⟩, .int .i64 0, .bool false, .int .i64 0]) (by kernel_rfl) rfl (by decide)

theorem upd_fupd {κ β : Type} [DecidableEq κ] (e : β → Value) (f : κ → β) (k : κ) (v : β) : fupd (fun x => e (f x)) k (e v) = fun x => e (upd f k v x) := by
  funext x; unfold fupd upd; split <;> rfl

/-- the post's memory -/
structure PoAt (w : World) (B gp g1 g2 g3 g4 : Nat) (A : Option Addr) (c : Nat) (l : Lim) (D : Int) (q : QSt) : Prop where
  blk : Blk w gp 95 #[.string l.key, .int .i64 l.kind, .int .i64 l.most, .int .i64 l.per, .int .i64 l.burst, .int .i64 D, .map (some g1), .map (some g2), .map (some g3), .map (some g4), .slice A q.ls.length c]
  giv : FMap intKeys w g1 (.int .i64 0) (fun k => .int .i64 (q.given k))
  stk : FMap strKeys w g2 (.int .i64 0) (fun k => .int .i64 (q.stock k))
  ofs : FMap strKeys w g3 (.int .i64 0) (fun k => .int .i64 (q.of_ k))
  wts : FMap strKeys w g4 (.bool false) (fun k => .bool (q.waits k))
  own : Own w B 100 6 Let.enc A q.ls.length c q.ls
  n12 : g1 ≠ g2
  n13 : g1 ≠ g3
  n14 : g1 ≠ g4
  n23 : g2 ≠ g3
  n24 : g2 ≠ g4
  n34 : g3 ≠ g4
  bp : B ≤ gp
  b1 : B ≤ g1
  b2 : B ≤ g2
  b3 : B ≤ g3
  b4 : B ≤ g4

abbrev poT : List TypeId := [95, 100]

section
variable {w w' : World} {B gp g1 g2 g3 g4 : Nat} {A : Option Addr} {c : Nat} {l : Lim} {D : Int} {q : QSt}
theorem Far.of_fmap {κ : Type} [DecidableEq κ] {K : Keys κ} {z : Value} {f : κ → Value} {k : Nat} {ts : List TypeId} (h : FMap K w k z f) (hB : B ≤ k) : Far w B ts k := ⟨hB, fun t' h' => absurd rfl (h.ne_blk h')⟩
theorem PoAt.ownNe (h : PoAt w B gp g1 g2 g3 g4 A c l D q) {b : Nat} {t : TypeId} (hb : TB w b t) (ht : 100 ≠ t) : ∀ g, blkOf A = some g → g ≠ b := fun g e => by
  rcases h.own.blk with ⟨hA, _⟩ | ⟨g', hA, _, hg⟩
  · rw [hA] at e; cases e
  · rw [hA] at e; injection e with e; subst e; exact hg.ne hb ht
theorem PoAt.ownNeMap (h : PoAt w B gp g1 g2 g3 g4 A c l D q) {κ : Type} [DecidableEq κ] {K : Keys κ} {z : Value} {f : κ → Value} {b : Nat} (hb : FMap K w b z f) : ∀ g, blkOf A = some g → g ≠ b := fun g e => by
  rcases h.own.blk with ⟨hA, _⟩ | ⟨g', hA, _, hg⟩
  · rw [hA] at e; cases e
  · rw [hA] at e; injection e with e; subst e; exact hb.ne_blk hg
theorem PoAt.new (h : PoAt w B gp g1 g2 g3 g4 A c l D q) (hm : New w w') : PoAt w' B gp g1 g2 g3 g4 A c l D q :=
  ⟨h.blk.mod hm (fun x => x), h.giv.mod hm (fun x => x), h.stk.mod hm (fun x => x), h.ofs.mod hm (fun x => x), h.wts.mod hm (fun x => x), h.own.new hm, h.n12, h.n13, h.n14, h.n23, h.n24, h.n34, h.bp, h.b1, h.b2, h.b3, h.b4⟩
/-- turns in rows of other types are nothing to the post -/
theorem PoAt.modT {S : Nat → Prop} (h : PoAt w B gp g1 g2 g3 g4 A c l D q) (hm : Mod S w w') (hS : ∀ i, S i → ∃ t, TB w i t ∧ t ∉ poT) : PoAt w' B gp g1 g2 g3 g4 A c l D q := by
  have n1 : ∀ {b : Nat} {t : TypeId}, TB w b t → t ∈ poT → ¬ S b := fun hb ht e => by
    obtain ⟨t', ht', hn⟩ := hS _ e
    rw [hb.uniq ht'] at ht
    exact hn ht
  have n2 : ∀ {κ : Type} [DecidableEq κ] {K : Keys κ} {z : Value} {f : κ → Value} {b : Nat}, FMap K w b z f → ¬ S b := fun hb e => by
    obtain ⟨t', ht', hn⟩ := hS _ e
    exact hb.ne_blk ht' rfl
  refine ⟨h.blk.mod hm (n1 h.blk.tb (by simp)), h.giv.mod hm (n2 h.giv), h.stk.mod hm (n2 h.stk), h.ofs.mod hm (n2 h.ofs), h.wts.mod hm (n2 h.wts), h.own.mod hm (fun g e => ?_), h.n12, h.n13, h.n14, h.n23, h.n24, h.n34, h.bp, h.b1, h.b2, h.b3, h.b4⟩
  rcases h.own.blk with ⟨hA, _⟩ | ⟨g', hA, _, hg⟩
  · rw [hA] at e; cases e
  · rw [hA] at e; injection e with e; subst e; exact n1 hg (by simp)
theorem PoAt.setGiv (h : PoAt w B gp g1 g2 g3 g4 A c l D q) (hm : Only g1 w w') {k v : Int} (hf : FMap intKeys w' g1 (.int .i64 0) (fupd (fun k => .int .i64 (q.given k)) k (.int .i64 v))) : PoAt w' B gp g1 g2 g3 g4 A c l D { q with given := upd q.given k v } := by
  rw [upd_fupd] at hf
  exact ⟨h.blk.mod hm (h.giv.ne_blk h.blk.tb), hf, h.stk.mod hm h.n12.symm, h.ofs.mod hm h.n13.symm, h.wts.mod hm h.n14.symm, h.own.mod hm (h.ownNeMap h.giv), h.n12, h.n13, h.n14, h.n23, h.n24, h.n34, h.bp, h.b1, h.b2, h.b3, h.b4⟩
theorem PoAt.setStk (h : PoAt w B gp g1 g2 g3 g4 A c l D q) (hm : Only g2 w w') {k : ByteArray} {v : Int} (hf : FMap strKeys w' g2 (.int .i64 0) (fupd (fun k => .int .i64 (q.stock k)) k (.int .i64 v))) : PoAt w' B gp g1 g2 g3 g4 A c l D { q with stock := upd q.stock k v } := by
  rw [upd_fupd] at hf
  exact ⟨h.blk.mod hm (h.stk.ne_blk h.blk.tb), h.giv.mod hm h.n12, hf, h.ofs.mod hm h.n23.symm, h.wts.mod hm h.n24.symm, h.own.mod hm (h.ownNeMap h.stk), h.n12, h.n13, h.n14, h.n23, h.n24, h.n34, h.bp, h.b1, h.b2, h.b3, h.b4⟩
theorem PoAt.setOf (h : PoAt w B gp g1 g2 g3 g4 A c l D q) (hm : Only g3 w w') {k : ByteArray} {v : Int} (hf : FMap strKeys w' g3 (.int .i64 0) (fupd (fun k => .int .i64 (q.of_ k)) k (.int .i64 v))) : PoAt w' B gp g1 g2 g3 g4 A c l D { q with of_ := upd q.of_ k v } := by
  rw [upd_fupd] at hf
  exact ⟨h.blk.mod hm (h.ofs.ne_blk h.blk.tb), h.giv.mod hm h.n13, h.stk.mod hm h.n23, hf, h.wts.mod hm h.n34.symm, h.own.mod hm (h.ownNeMap h.ofs), h.n12, h.n13, h.n14, h.n23, h.n24, h.n34, h.bp, h.b1, h.b2, h.b3, h.b4⟩
theorem PoAt.setWts (h : PoAt w B gp g1 g2 g3 g4 A c l D q) (hm : Only g4 w w') {k : ByteArray} {v : Bool} (hf : FMap strKeys w' g4 (.bool false) (fupd (fun k => .bool (q.waits k)) k (.bool v))) : PoAt w' B gp g1 g2 g3 g4 A c l D { q with waits := upd q.waits k v } := by
  rw [upd_fupd] at hf
  exact ⟨h.blk.mod hm (h.wts.ne_blk h.blk.tb), h.giv.mod hm h.n14, h.stk.mod hm h.n24, h.ofs.mod hm h.n34, hf, h.own.mod hm (h.ownNeMap h.wts), h.n12, h.n13, h.n14, h.n23, h.n24, h.n34, h.bp, h.b1, h.b2, h.b3, h.b4⟩
end

theorem zero_bool (w : World) : (zeroValue 4).run Tryz.prog w = .ok (.bool false) w := by kernel_rfl
section
variable {w : World} {B gp g1 g2 g3 g4 : Nat} {A : Option Addr} {c : Nat} {l : Lim} {D : Int} {q : QSt}
theorem PoAt.lookG (h : PoAt w B gp g1 g2 g3 g4 A c l D q) (k : Int) : (Instr.lookup 91 (.map (some g1)) (.int .i64 k) false).run Tryz.prog w = .ok (.int .i64 (q.given k)) w := h.giv.look (K := intKeys) Tryz.underlying91 Tryz.underlying3 (zero_int w) k
theorem PoAt.lookS (h : PoAt w B gp g1 g2 g3 g4 A c l D q) (k : ByteArray) : (Instr.lookup 92 (.map (some g2)) (.string k) false).run Tryz.prog w = .ok (.int .i64 (q.stock k)) w := h.stk.look (K := strKeys) Tryz.underlying92 Tryz.underlying9 (zero_int w) k
theorem PoAt.lookO (h : PoAt w B gp g1 g2 g3 g4 A c l D q) (k : ByteArray) : (Instr.lookup 92 (.map (some g3)) (.string k) false).run Tryz.prog w = .ok (.int .i64 (q.of_ k)) w := h.ofs.look (K := strKeys) Tryz.underlying92 Tryz.underlying9 (zero_int w) k
theorem PoAt.lookW (h : PoAt w B gp g1 g2 g3 g4 A c l D q) (k : ByteArray) : (Instr.lookup 80 (.map (some g4)) (.string k) false).run Tryz.prog w = .ok (.bool (q.waits k)) w := h.wts.look (K := strKeys) Tryz.underlying80 Tryz.underlying9 (zero_bool w) k
end

set_option maxHeartbeats 1000000 in
theorem post_give (w : World) (B gp g1 g2 g3 g4 : Nat) (A : Option Addr) (c : Nat) (l : Lim) (D : Int) (q : QSt) (h : PoAt w B gp g1 g2 g3 g4 A c l D q) (hl : WLim l) (W want : Int) (hg : 0 ≤ q.given W ∧ q.given W ≤ l.most) (hw : 1 ≤ want ∧ want ≤ 1000000000) :
    Calls Tryz.prog 53 #[.pointer (some ⟨gp, 0, none⟩), .int .i64 W, .int .i64 want] w fun e w' => e = .returned (.int .i64 (giveN l q W want)) ∧ PoAt w' B gp g1 g2 g3 g4 A c l D (giveQ l q W want) ∧ Only g1 w w' := by
  have c2 := h.blk.cell 2
  have c6 := h.blk.cell 6
  simp at c2 c6
  have hlm := hl.most
  have hlook := fun n : Nat => (h.new ((Mod.refl _ w).drewN n)).lookG W
  have e1 : IntKind.i64.wrap (l.most - q.given W) = l.most - q.given W := IntWalk.i64_in _ (by omega)
  have hbd : 0 ≤ giveN l q W want ∧ giveN l q W want ≤ 1000000000 := by unfold giveN; omega
  have HH := Lib.hid h
  clear h
  go_enter Tryz.func53, Tryz.ntmps53
  go_wp2_with fail
  go_quiet (fail)
  clear e1
  have hgv : min want (l.most - q.given W) = giveN l q W want := rfl
  rw [hgv]
  clear hgv
  go_wp2_with (at_mapUpdate; refine wpList_fput (K := intKeys) rfl _ _ _ _ rfl Tryz.underlying91 Tryz.underlying3 rfl (HH.out.new ((Mod.refl _ w).drewN _)).giv W rfl (.int .i64 (q.given W + giveN l q W want)) rfl ?_; intro w2 hmap2 ho2 hs2)
  go_ret
  exact ⟨rfl, (HH.out.new ((Mod.refl _ w).drewN _)).setGiv ho2 hmap2, ((Mod.refl _ w).drewN _).trans ho2⟩

end Go.Proofs.YtinnckbffblecaaGreat
