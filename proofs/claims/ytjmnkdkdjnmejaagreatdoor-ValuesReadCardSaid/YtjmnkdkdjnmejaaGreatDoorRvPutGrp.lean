/- Several texts in one. (1) Reading values: what is open, in memory, when a value is put into it, a box is opened or closed. No program is walked. No conditions. (2) Reading values: the program's reader: what is blank is skipped, the first fault is kept. Conditions: a text of at most 300000 bytes. (3) Reading values: the program's reader: the first fault is kept, a value is put where it belongs. Conditions: a text of at most 300000 bytes. (4) Reading values: the program's reader puts a value where it belongs. Conditions: a text of at most 300000 bytes. -/
import Derived.Test.YtjmnkdkdjnmejaaGreatDoorRvMemGrp
import Derived.Test.YtjmnkdkdjnmejaaGreatDoorVal1Grp
import Derived.Test.YtjmnkdkdjnmejaaGreatDoorWordLawGrp
import Derived.Test.YtjmnkdkdjnmejaaGreatDoorShelf
import Derived.BigQuiet
import Derived.Test.YtjmnkdkdjnmejaaGreatDoorHeldGrp

namespace Go.Proofs.YtjmnkdkdjnmejaaGreatDoor
open Go.RowKit
set_option linter.unusedVariables false
set_option linter.unusedSimpArgs false

theorem blk_toList {A : Option Addr} {g : Nat} : g ∈ (blkOf A).toList ↔ blkOf A = some g := by simp [Option.mem_toList]
section
variable {w w' : World} {B d b : Nat} {G : Nat → Prop} {pend : Bool} {f : RFr} {o : OF} {cs : Array Value}
/-- a box's blocks are cells of three types, or maps -/
theorem FrameAt.kind (h : FrameAt w B d G pend f o) : ∀ g ∈ o.own, (TB w g 88 ∨ TB w g 30 ∨ TB w g 60 ∨ ∃ m, MapOf strKeys w g m) ∧ B ≤ g ∧ g < w.heap.size := by
  intro g hg
  obtain ⟨xs, h1, h2⟩ := h.its
  obtain ⟨ms, h3, h4⟩ := h.mes
  simp only [OF.own, List.mem_cons, List.mem_append, blk_toList, Option.mem_toList] at hg
  rcases hg with rfl | (hg | hg) | hg
  · exact ⟨.inl h.blk.tb, h.hB, h.blk.lt⟩
  · obtain ⟨a, b, c⟩ := h1.far' g hg
    exact ⟨.inr (.inl c), a, b⟩
  · obtain ⟨a, b, c⟩ := h3.far' g hg
    exact ⟨.inr (.inr (.inl c)), a, b⟩
  · have h5 := h.map
    split at h5
    · obtain ⟨g', e1, e2, e3, e4⟩ := h5
      rw [hg] at e1
      injection e1 with e1
      subst e1
      exact ⟨.inr (.inr (.inr ⟨_, e3.choose_spec.1⟩)), e2, e3.lt⟩
    · rw [hg] at h5; cases h5
theorem FrameAt.ne (h : FrameAt w B d G pend f o) (hb : TB w b 49) : b ∉ o.own := by
  intro hg
  rcases (h.kind b hg).1 with e | e | e | ⟨m, e⟩
  · exact e.ne hb (by decide) rfl
  · exact e.ne hb (by decide) rfl
  · exact e.ne hb (by decide) rfl
  · exact (e.ne_blk hb) rfl
theorem Frs.kind : ∀ (pend : Bool) (st : List RFr) (os : List OF), Frs w B d G pend st os → ∀ g ∈ ownL os, (TB w g 88 ∨ TB w g 30 ∨ TB w g 60 ∨ ∃ m, MapOf strKeys w g m) ∧ B ≤ g ∧ g < w.heap.size
  | _, [], [], _, g, hg => by simp [ownL] at hg
  | pend, f :: r, o :: q, h, g, hg => by
    simp only [ownL, List.flatMap_cons, List.mem_append] at hg
    rcases hg with hg | hg
    · exact h.1.kind g hg
    · exact Frs.kind true r q h.2 g hg
  | _, [], _ :: _, h, _, _ => h.elim
  | _, _ :: _, [], h, _, _ => h.elim
theorem Frs.ne {st : List RFr} {os : List OF} (h : Frs w B d G pend st os) (hb : TB w b 49) : b ∉ ownL os := by
  intro hg
  rcases (Frs.kind _ _ _ h b hg).1 with e | e | e | ⟨m, e⟩
  · exact e.ne hb (by decide) rfl
  · exact e.ne hb (by decide) rfl
  · exact e.ne hb (by decide) rfl
  · exact (e.ne_blk hb) rfl
theorem Frs.lt {st : List RFr} {os : List OF} (h : Frs w B d G pend st os) : ∀ g ∈ ownL os, g < w.heap.size := fun g hg => (Frs.kind _ _ _ h g hg).2.2
theorem FrameAt.pend_list (h : FrameAt w B d G pend f o) (hf : f.mem = false) (p : Bool) : FrameAt w B d G p f o :=
  ⟨h.blk, h.hB, h.its, h.mes, by have := h.map; rw [hf] at this ⊢; exact this, fun e => by rw [hf] at e; cases e⟩
end
theorem ownL_cons (o : OF) (q : List OF) : ownL (o :: q) = o.own ++ ownL q := rfl

/-- blocks of the boxes when a row has turned to g9 -/
theorem nodup_turn {b g9 : Nat} {A : Option Nat} {l r : List Nat} (h : (b :: (A.toList ++ l) ++ r).Nodup) (hg : A = some g9 ∨ ∀ x ∈ b :: (l ++ r), x < g9) : (b :: (g9 :: l) ++ r).Nodup := by
  have key : (b :: (l ++ r)).Nodup := by
    refine List.Nodup.sublist ?_ h
    simp only [List.cons_append, List.append_assoc]
    exact List.Sublist.cons_cons _ (List.sublist_append_right _ _)
  rcases hg with hg | hg
  · rw [hg] at h
    simpa using h
  · rw [show b :: (g9 :: l) ++ r = b :: g9 :: (l ++ r) by simp]
    refine List.Perm.nodup (List.Perm.swap _ _ _) (List.nodup_cons.2 ⟨fun hm => ?_, key⟩)
    exact Nat.lt_irrefl _ (hg g9 hm)

section
variable {w wf : World} {B b : Nat} {s : ByteArray} {r r' : RV} {f : RFr} {q : List RFr} {o : OF} {oq : List OF} {x : VA} {v : VT} {g9 cap : Nat}
theorem RdAt.putL (h : RdAt w B b s r true (f :: q) (o :: oq)) (hf : f.mem = false) (hx : Tree w (notIn B (ownL (o :: oq))) r.i x v) {xs : List VA}
    (hov : Own w B 30 6 VA.enc o.la o.ln o.lc xs) (hkv : Kids1 w (notIn B (ownL (o :: oq))) r.i xs f.items)
    (hm : Mod (fun k => k = o.b ∨ blkOf o.la = some k ∨ k = b) w wf) (hg : blkOf o.la = some g9 ∨ w.heap.size ≤ g9)
    (ho : Own wf B 30 6 VA.enc (some ⟨g9, 0, none⟩) (o.ln + 1) cap (xs ++ [x]))
    (hob : Blk wf o.b 88 (({ o with la := some ⟨g9, 0, none⟩, ln := o.ln + 1, lc := cap } : OF).cells false))
    (hrd : Blk wf b 49 (r'.cells s)) (hi : r'.i = r.i) (hsk : r'.sk = r.sk ∧ r'.sn = r.sn ∧ r'.sc = r.sc) :
    RdAt wf B b s r' false (f.put v :: q) ({ o with la := some ⟨g9, 0, none⟩, ln := o.ln + 1, lc := cap } :: oq) := by
  have hbt := h.rd.tb
  have hnb : b ∉ ownL (o :: oq) := h.fr.ne hbt
  have hnd := h.nd
  have hlt := h.fr.lt
  have hmp : o.mp = none := by have := h.fr.1.map; rw [hf] at this; exact this
  rw [ownL_cons] at hnd hlt hnb
  have hob0 : o.b ∈ o.own := by simp [OF.own]
  have hla0 : ∀ k, blkOf o.la = some k → k ∈ o.own := fun k e => by simp [OF.own, e]
  have hsplit := (List.nodup_append.1 hnd).2.2
  have hsub : ∀ g, g ∈ ownL ({ o with la := some ⟨g9, 0, none⟩, ln := o.ln + 1, lc := cap } :: oq) → g ∈ ownL (o :: oq) ∨ w.heap.size ≤ g := fun g hg2 => by
    rw [ownL_cons] at hg2 ⊢
    simp only [OF.own, List.mem_append, List.mem_cons, blk_toList, Option.mem_toList] at hg2 ⊢
    rcases hg2 with (e | (e | e) | e) | e
    · exact .inl (.inl (.inl e))
    · simp only [blkOf, Option.map_some, Option.some.injEq] at e
      subst e
      rcases hg with hg | hg
      · exact .inl (.inl (.inr (.inl (.inl hg))))
      · exact .inr hg
    · exact .inl (.inl (.inr (.inl (.inr e))))
    · exact .inl (.inl (.inr (.inr e)))
    · exact .inl (.inr e)
  have himp : ∀ g, notIn B (ownL (o :: oq)) g → g < w.heap.size → notIn B (ownL ({ o with la := some ⟨g9, 0, none⟩, ln := o.ln + 1, lc := cap } :: oq)) g := fun g h1 h2 => ⟨h1.1, fun h3 => by
    rcases hsub g h3 with e | e
    · exact h1.2 e
    · omega⟩
  have hS : ∀ g, notIn B (ownL (o :: oq)) g → (TB w g 30 ∨ TB w g 60) → ¬ (g = o.b ∨ blkOf o.la = some g ∨ g = b) := fun g h1 h2 h3 => by
    rcases h3 with e | e | e
    · exact h1.2 (by rw [ownL_cons, e]; exact List.mem_append_left _ hob0)
    · exact h1.2 (by rw [ownL_cons]; exact List.mem_append_left _ (hla0 g e))
    · subst e
      rcases h2 with h2 | h2
      · exact h2.ne hbt (by decide) rfl
      · exact h2.ne hbt (by decide) rfl
  have hq : ∀ g ∈ ownL oq, ¬ (g = o.b ∨ blkOf o.la = some g ∨ g = b) := fun g hg1 h3 => by
    rcases h3 with e | e | e
    · exact hsplit _ hob0 _ hg1 e.symm
    · exact hsplit _ (hla0 g e) _ hg1 rfl
    · exact hnb (List.mem_append_right _ (e ▸ hg1))
  have hS' : ∀ g, notIn B (ownL ({ o with la := some ⟨g9, 0, none⟩, ln := o.ln + 1, lc := cap } :: oq)) g ∧ g < w.heap.size ∧ notIn B (ownL (o :: oq)) g → (TB w g 30 ∨ TB w g 60) → ¬ (g = o.b ∨ blkOf o.la = some g ∨ g = b) := fun g h1 => hS g h1.2.2
  have hmk : ∀ g, notIn B (ownL (o :: oq)) g → g < w.heap.size → (notIn B (ownL ({ o with la := some ⟨g9, 0, none⟩, ln := o.ln + 1, lc := cap } :: oq)) g ∧ g < w.heap.size ∧ notIn B (ownL (o :: oq)) g) := fun g h1 h2 => ⟨himp g h1 h2, h2, h1⟩
  obtain ⟨ms, h3, h4⟩ := h.fr.1.mes
  have hskb : ∀ g, blkOf r.sk = some g → ¬ (g = o.b ∨ blkOf o.la = some g ∨ g = b) := fun g e h5 => by
    have ht := (h.sk.far' g e).2.2
    rcases h5 with e2 | e2 | e2
    · subst e2; exact ht.ne h.fr.1.blk.tb (by decide) rfl
    · exact ht.ne (hov.far' g e2).2.2 (by decide) rfl
    · subst e2; exact ht.ne hbt (by decide) rfl
  have hma : ∀ g, blkOf o.ma = some g → ¬ (g = o.b ∨ blkOf o.la = some g ∨ g = b) := fun g e h5 => by
    have ht := (h3.far' g e).2.2
    rcases h5 with e2 | e2 | e2
    · subst e2; exact ht.ne h.fr.1.blk.tb (by decide) rfl
    · exact ht.ne (hov.far' g e2).2.2 (by decide) rfl
    · subst e2; exact ht.ne hbt (by decide) rfl
  refine ⟨hrd, h.hB, ?_, ⟨⟨?_, h.fr.1.hB, ⟨xs ++ [x], ho, ?_⟩, ⟨ms, h3.mod hm hma, ?_⟩, ?_, ?_⟩, ?_⟩, ?_, ?_⟩
  · rw [hsk.1, hsk.2.1, hsk.2.2]
    have := h.sk.mod hm hskb
    simpa using this
  · have e : (f.put v).mem = false := by simp [RFr.put, hf]
    rw [e]; exact hob
  · have e : (f.put v).items = f.items ++ [v] := by simp [RFr.put, hf]
    rw [e, hi]
    exact (((hkv.imp hmk).push (Tree.imp hmk _ _ _ hx)).mod hm hS').imp (fun g h1 _ => h1.1)
  · have e : (f.put v).mems = f.mems := by simp [RFr.put, hf]
    rw [e, hi]
    exact ((h4.imp hmk).mod hm hS').imp (fun g h1 _ => h1.1)
  · have e : (f.put v).mem = false := by simp [RFr.put, hf]
    rw [e]; exact hmp
  · intro e
    have e2 : (f.put v).mem = false := by simp [RFr.put, hf]
    rw [e2] at e; cases e
  · rw [hi]
    exact Frs.imp (fun g h1 _ => h1.1) _ _ _ (Frs.mod hm hS' _ _ _ hq (Frs.imp hmk _ _ _ h.fr.2))
  · rw [ownL_cons]
    have h5 : (o.b :: ((blkOf o.la).toList ++ ((blkOf o.ma).toList ++ o.mp.toList)) ++ ownL oq).Nodup := by
      simpa [OF.own, List.append_assoc] using hnd
    have h6 := nodup_turn (g9 := g9) h5 (by
      rcases hg with hg | hg
      · exact .inl hg
      · refine .inr fun y hy => Nat.lt_of_lt_of_le (hlt y ?_) hg
        simp only [List.mem_cons, List.mem_append, OF.own] at hy ⊢
        rcases hy with e | (e | e) | e
        · exact .inl (.inl e)
        · exact .inl (.inr (.inl (.inr e)))
        · exact .inl (.inr (.inr e))
        · exact .inr e)
    simpa [OF.own, blkOf, List.append_assoc] using h6
  · rw [hi]; exact h.hi
theorem RdAt.putM (h : RdAt w B b s r true (f :: q) (o :: oq)) (hf : f.mem = true) (hx : Tree w (notIn B (ownL (o :: oq))) r.i x v) {ms : List MA}
    (hov : Own w B 60 7 MA.enc o.ma o.mn o.mc ms) (hkv : KidsM w (notIn B (ownL (o :: oq))) r.i ms f.mems)
    (hm : Mod (fun k => k = o.b ∨ blkOf o.ma = some k ∨ k = b) w wf) (hg : blkOf o.ma = some g9 ∨ w.heap.size ≤ g9)
    (ho : Own wf B 60 7 MA.enc (some ⟨g9, 0, none⟩) (o.mn + 1) cap (ms ++ [⟨o.name, x⟩]))
    (hob : Blk wf o.b 88 (({ o with ma := some ⟨g9, 0, none⟩, mn := o.mn + 1, mc := cap } : OF).cells true))
    (hrd : Blk wf b 49 (r'.cells s)) (hi : r'.i = r.i) (hsk : r'.sk = r.sk ∧ r'.sn = r.sn ∧ r'.sc = r.sc) :
    RdAt wf B b s r' false (f.put v :: q) ({ o with ma := some ⟨g9, 0, none⟩, mn := o.mn + 1, mc := cap } :: oq) := by
  have hbt := h.rd.tb
  have hnb : b ∉ ownL (o :: oq) := h.fr.ne hbt
  have hnd := h.nd
  have hlt := h.fr.lt
  have hnm : o.name = f.name := h.fr.1.nm hf rfl
  rw [ownL_cons] at hnd hlt hnb
  have hob0 : o.b ∈ o.own := by simp [OF.own]
  have hla0 : ∀ k, blkOf o.ma = some k → k ∈ o.own := fun k e => by simp [OF.own, e]
  have hsplit := (List.nodup_append.1 hnd).2.2
  have hsub : ∀ g, g ∈ ownL ({ o with ma := some ⟨g9, 0, none⟩, mn := o.mn + 1, mc := cap } :: oq) → g ∈ ownL (o :: oq) ∨ w.heap.size ≤ g := fun g hg2 => by
    rw [ownL_cons] at hg2 ⊢
    simp only [OF.own, List.mem_append, List.mem_cons, blk_toList, Option.mem_toList] at hg2 ⊢
    rcases hg2 with (e | (e | e) | e) | e
    · exact .inl (.inl (.inl e))
    · exact .inl (.inl (.inr (.inl (.inl e))))
    · simp only [blkOf, Option.map_some, Option.some.injEq] at e
      subst e
      rcases hg with hg | hg
      · exact .inl (.inl (.inr (.inl (.inr hg))))
      · exact .inr hg
    · exact .inl (.inl (.inr (.inr e)))
    · exact .inl (.inr e)
  have himp : ∀ g, notIn B (ownL (o :: oq)) g → g < w.heap.size → notIn B (ownL ({ o with ma := some ⟨g9, 0, none⟩, mn := o.mn + 1, mc := cap } :: oq)) g := fun g h1 h2 => ⟨h1.1, fun h3 => by
    rcases hsub g h3 with e | e
    · exact h1.2 e
    · omega⟩
  have hS : ∀ g, notIn B (ownL (o :: oq)) g → (TB w g 30 ∨ TB w g 60) → ¬ (g = o.b ∨ blkOf o.ma = some g ∨ g = b) := fun g h1 h2 h3 => by
    rcases h3 with e | e | e
    · exact h1.2 (by rw [ownL_cons, e]; exact List.mem_append_left _ hob0)
    · exact h1.2 (by rw [ownL_cons]; exact List.mem_append_left _ (hla0 g e))
    · subst e
      rcases h2 with h2 | h2
      · exact h2.ne hbt (by decide) rfl
      · exact h2.ne hbt (by decide) rfl
  have hq : ∀ g ∈ ownL oq, ¬ (g = o.b ∨ blkOf o.ma = some g ∨ g = b) := fun g hg1 h3 => by
    rcases h3 with e | e | e
    · exact hsplit _ hob0 _ hg1 e.symm
    · exact hsplit _ (hla0 g e) _ hg1 rfl
    · exact hnb (List.mem_append_right _ (e ▸ hg1))
  have hS' : ∀ g, notIn B (ownL ({ o with ma := some ⟨g9, 0, none⟩, mn := o.mn + 1, mc := cap } :: oq)) g ∧ g < w.heap.size ∧ notIn B (ownL (o :: oq)) g → (TB w g 30 ∨ TB w g 60) → ¬ (g = o.b ∨ blkOf o.ma = some g ∨ g = b) := fun g h1 => hS g h1.2.2
  have hmk : ∀ g, notIn B (ownL (o :: oq)) g → g < w.heap.size → (notIn B (ownL ({ o with ma := some ⟨g9, 0, none⟩, mn := o.mn + 1, mc := cap } :: oq)) g ∧ g < w.heap.size ∧ notIn B (ownL (o :: oq)) g) := fun g h1 h2 => ⟨himp g h1 h2, h2, h1⟩
  obtain ⟨xs, h3, h4⟩ := h.fr.1.its
  have hskb : ∀ g, blkOf r.sk = some g → ¬ (g = o.b ∨ blkOf o.ma = some g ∨ g = b) := fun g e h5 => by
    have ht := (h.sk.far' g e).2.2
    rcases h5 with e2 | e2 | e2
    · subst e2; exact ht.ne h.fr.1.blk.tb (by decide) rfl
    · exact ht.ne (hov.far' g e2).2.2 (by decide) rfl
    · subst e2; exact ht.ne hbt (by decide) rfl
  have hla : ∀ g, blkOf o.la = some g → ¬ (g = o.b ∨ blkOf o.ma = some g ∨ g = b) := fun g e h5 => by
    have ht := (h3.far' g e).2.2
    rcases h5 with e2 | e2 | e2
    · subst e2; exact ht.ne h.fr.1.blk.tb (by decide) rfl
    · exact ht.ne (hov.far' g e2).2.2 (by decide) rfl
    · subst e2; exact ht.ne hbt (by decide) rfl
  have hfm : (f.put v).mem = true := by simp [RFr.put, hf]
  refine ⟨hrd, h.hB, ?_, ⟨⟨?_, h.fr.1.hB, ⟨xs, h3.mod hm hla, ?_⟩, ⟨ms ++ [⟨o.name, x⟩], ho, ?_⟩, ?_, ?_⟩, ?_⟩, ?_, ?_⟩
  · rw [hsk.1, hsk.2.1, hsk.2.2]
    have := h.sk.mod hm hskb
    simpa using this
  · rw [hfm]; exact hob
  · have e : (f.put v).items = f.items := by simp [RFr.put, hf]
    rw [e, hi]
    exact ((h4.imp hmk).mod hm hS').imp (fun g h1 _ => h1.1)
  · have e : (f.put v).mems = f.mems ++ [(f.name, v)] := by simp [RFr.put, hf]
    rw [e, hi, hnm]
    exact (((hkv.imp hmk).push (Tree.imp hmk _ _ _ hx)).mod hm hS').imp (fun g h1 _ => h1.1)
  · rw [hfm]
    have h5 := h.fr.1.map
    rw [hf] at h5
    obtain ⟨g, e1, e2, e3, e5⟩ := h5
    refine ⟨g, e1, e2, ?_⟩
    have hgo : g ∈ o.own := by simp [OF.own, e1]
    have e4 : (f.put v).seen false = f.seen true := by simp [RFr.put, RFr.seen, hf]
    rw [e4]
    refine ⟨e3.mod hm fun h6 => ?_, e5⟩
    rcases h6 with e | e | e
    · exact e3.ne_blk h.fr.1.blk.tb e.symm
    · exact e3.ne_blk (hov.far' g e).2.2 rfl
    · exact e3.ne_blk hbt e.symm
  · intro _ e; cases e
  · rw [hi]
    exact Frs.imp (fun g h1 _ => h1.1) _ _ _ (Frs.mod hm hS' _ _ _ hq (Frs.imp hmk _ _ _ h.fr.2))
  · rw [ownL_cons]
    have h5 : (o.b :: ((blkOf o.ma).toList ++ ((blkOf o.la).toList ++ o.mp.toList)) ++ ownL oq).Nodup := by
      refine List.Perm.nodup ?_ hnd
      simp only [OF.own, List.cons_append, List.append_assoc]
      refine List.Perm.cons _ ?_
      rw [← List.append_assoc, ← List.append_assoc]
      have e := (List.perm_append_comm (l₁ := (blkOf o.la).toList) (l₂ := (blkOf o.ma).toList)).append_right (o.mp.toList ++ ownL oq)
      simpa [List.append_assoc] using e
    have h6 := nodup_turn (g9 := g9) h5 (by
      rcases hg with hg | hg
      · exact .inl hg
      · refine .inr fun y hy => Nat.lt_of_lt_of_le (hlt y ?_) hg
        simp only [List.mem_cons, List.mem_append, OF.own] at hy ⊢
        rcases hy with e | (e | e) | e
        · exact .inl (.inl e)
        · exact .inl (.inr (.inl (.inl e)))
        · exact .inl (.inr (.inr e))
        · exact .inr e)
    refine List.Perm.nodup ?_ h6
    have e := (List.perm_append_comm (l₁ := [g9]) (l₂ := (blkOf o.la).toList)).append_right (o.mp.toList ++ ownL oq)
    have e3 := e.cons o.b
    simpa [OF.own, blkOf, List.append_assoc] using e3
  · rw [hi]; exact h.hi
end
/- a step that turns the reader's block alone -/
section
variable {w wf : World} {B b : Nat} {s : ByteArray} {r r' : RV} {pend : Bool} {st : List RFr} {os : List OF}
theorem Frs.apart {d : Nat} {G : Nat → Prop} {t : TypeId} {g : Nat} (h : Frs w B d G pend st os) (hg : TB w g t) (h1 : t ≠ 88) (h2 : t ≠ 30) (h3 : t ≠ 60) : g ∉ ownL os := by
  intro hm
  rcases (Frs.kind _ _ _ h g hm).1 with e | e | e | ⟨m, e⟩
  · exact e.ne hg (fun e => h1 e.symm) rfl
  · exact e.ne hg (fun e => h2 e.symm) rfl
  · exact e.ne hg (fun e => h3 e.symm) rfl
  · exact (e.ne_blk hg) rfl
theorem RdAt.moved (h : RdAt w B b s r pend st os) (hm : Only b w wf) (hrd : Blk wf b 49 (r'.cells s)) (hsk : r'.sk = r.sk ∧ r'.sn = r.sn ∧ r'.sc = r.sc) (hi : r.i ≤ r'.i) (hi2 : r'.i ≤ s.size) : RdAt wf B b s r' pend st os := by
  have hbt := h.rd.tb
  refine ⟨hrd, h.hB, ?_, ?_, h.nd, hi2⟩
  · rw [hsk.1, hsk.2.1, hsk.2.2]
    exact h.sk.mod hm (fun g e e2 => by subst e2; exact (h.sk.far' g e).2.2.ne hbt (by decide) rfl)
  · refine Frs.upto hi _ _ _ (Frs.mod hm (fun g _ ht e => ?_) _ _ _ (fun g hg e => ?_) h.fr)
    · subst e
      rcases ht with ht | ht
      · exact ht.ne hbt (by decide) rfl
      · exact ht.ne hbt (by decide) rfl
    · subst e; exact h.fr.ne hbt hg
theorem RdAt.new (h : RdAt w B b s r pend st os) (hm : New w wf) : RdAt wf B b s r pend st os :=
  ⟨h.rd.mod hm (fun e => e), h.hB, h.sk.new hm, Frs.mod hm (fun _ _ _ e => e) _ _ _ (fun _ _ e => e) h.fr, h.nd, h.hi⟩
/-- the sub-claims on a tree of the reader's -/
theorem Tree.onlyRd {d : Nat} {G : Nat → Prop} {x : VA} {v : VT} (h : Tree w G d x v) (hm : Only b w wf) (hb : TB w b 49) : Tree wf G d x v :=
  Tree.mod hm (fun g _ ht e => by
    subst e
    rcases ht with ht | ht
    · exact ht.ne hb (by decide) rfl
    · exact ht.ne hb (by decide) rfl) _ _ _ h
/-- a box is opened -/
theorem RdAt.opened (h : RdAt w B b s r true st os) (hBw : B ≤ w.heap.size) {m : Bool} {mp : Option Nat} {ob : Nat} (hm : Mod (fun k => k = b ∨ blkOf r.sk = some k) w wf) (hob : w.heap.size ≤ ob) (hbk : Blk wf ob 88 ((⟨ob, none, 0, 0, none, 0, 0, ⟨#[]⟩, mp⟩ : OF).cells m))
    (hmp : if m then ∃ g, mp = some g ∧ w.heap.size ≤ g ∧ FMap strKeys wf g (.bool false) (fun _ => .bool false) else mp = none)
    (hsk : Own wf B 89 1 ptrE r'.sk r'.sn r'.sc (os.reverse.map (·.b) ++ [ob])) (hrd : Blk wf b 49 (r'.cells s)) (hi : r.i ≤ r'.i) (hi2 : r'.i ≤ s.size) :
    RdAt wf B b s r' false (RFr.new m :: st) (⟨ob, none, 0, 0, none, 0, 0, ⟨#[]⟩, mp⟩ :: os) := by
  have hbt := h.rd.tb
  have hlt := h.fr.lt
  have hmpf : ∀ g, mp = some g → w.heap.size ≤ g ∧ ob ≠ g := fun g e => by
    cases m with
    | false => rw [if_neg (by simp)] at hmp; rw [hmp] at e; cases e
    | true =>
      rw [if_pos rfl] at hmp
      obtain ⟨g', e1, e2, e3⟩ := hmp
      rw [e1] at e
      injection e with e
      subst e
      exact ⟨e2, e3.ne_blk hbk.tb⟩
  have hS : ∀ g, notIn B (ownL os) g ∧ g < w.heap.size → (TB w g 30 ∨ TB w g 60) → ¬ (g = b ∨ blkOf r.sk = some g) := fun g _ ht e => by
    rcases e with e | e
    · subst e
      rcases ht with ht | ht
      · exact ht.ne hbt (by decide) rfl
      · exact ht.ne hbt (by decide) rfl
    · have h2 := (h.sk.far' g e).2.2
      rcases ht with ht | ht
      · exact ht.ne h2 (by decide) rfl
      · exact ht.ne h2 (by decide) rfl
  refine ⟨hrd, h.hB, ?_, ⟨⟨hbk, by show B ≤ ob; omega, ⟨[], Own.nil, rfl, fun i hi => absurd hi (by simp)⟩, ⟨[], Own.nil, rfl, fun i hi => absurd hi (by simp)⟩, ?_, fun _ e => by cases e⟩, ?_⟩, ?_, hi2⟩
  · simpa using hsk
  · show if m then _ else _
    cases m with
    | false => exact hmp
    | true =>
      rw [if_pos rfl] at hmp ⊢
      obtain ⟨g', e1, e2, e3⟩ := hmp
      exact ⟨g', e1, by omega, e3, List.nodup_nil⟩
  · have h2 := Frs.mod hm hS _ _ _ (fun g hg e => by
      rcases e with e | e
      · subst e; exact h.fr.ne hbt hg
      · exact h.fr.apart (h.sk.far' g e).2.2 (by decide) (by decide) (by decide) hg) (Frs.imp (fun g h1 h2 => ⟨h1, h2⟩) _ _ _ h.fr)
    refine Frs.upto hi _ _ _ (Frs.imp (fun g h3 _ => ⟨h3.1.1, fun h4 => ?_⟩) _ _ _ h2)
    rw [ownL_cons] at h4
    simp only [OF.own, blkOf, Option.map_none, Option.toList_none, List.nil_append, List.mem_append, List.mem_cons, Option.mem_toList] at h4
    rcases h4 with (e | e) | e
    · have := h3.2; omega
    · have := (hmpf g e).1; have := h3.2; omega
    · exact h3.1.2 e
  · rw [ownL_cons]
    simp only [OF.own, blkOf, Option.map_none, Option.toList_none, List.nil_append, List.cons_append, List.nodup_cons, List.mem_append, Option.mem_toList]
    refine ⟨fun e => ?_, ?_⟩
    · rcases e with e | e
      · exact (hmpf _ e).2 rfl
      · have := hlt _ e; omega
    · cases mp with
      | none => simpa using h.nd
      | some g =>
        simp only [Option.toList_some, List.singleton_append, List.nodup_cons]
        exact ⟨fun e => by have := hlt _ e; have := (hmpf g rfl).1; omega, h.nd⟩
/-- a member's name is read -/
theorem seenF_push (l : List ByteArray) (n : ByteArray) : fupd (seenF l) n (Value.bool true) = seenF (l ++ [n]) := by
  funext x
  unfold fupd seenF
  by_cases h : x = n
  · subst h; simp
  · have h2 : ¬ n = x := fun e => h e.symm
    simp [h, h2]
theorem RFr.has_any (f : RFr) (n : ByteArray) : (f.mems.map (·.1)).any (fun a => decide (a = n)) = f.has n := by simp [RFr.has, List.any_map, Function.comp_def]
theorem RdAt.named {f : RFr} {q : List RFr} {o : OF} {oq : List OF} {g : Nat} {nm : ByteArray} (h : RdAt w B b s r false (f :: q) (o :: oq)) (hf : f.mem = true) (hg : o.mp = some g) (hn : f.has nm = false)
    (hm : Mod (fun k => k = b ∨ k = o.b ∨ k = g) w wf) (hbk : Blk wf o.b 88 (({ o with name := nm } : OF).cells true)) (hmp : FMap strKeys wf g (.bool false) (fupd (seenF (f.seen false)) nm (Value.bool true)))
    (hrd : Blk wf b 49 (r'.cells s)) (hsk : r'.sk = r.sk ∧ r'.sn = r.sn ∧ r'.sc = r.sc) (hi : r.i ≤ r'.i) (hi2 : r'.i ≤ s.size) :
    RdAt wf B b s r' true ({ f with name := nm } :: q) ({ o with name := nm } :: oq) := by
  have hbt := h.rd.tb
  have hnd := h.nd
  have hmap := h.fr.1.map
  rw [hf, if_pos rfl] at hmap
  obtain ⟨g', e1, e2, e3, e5⟩ := hmap
  rw [hg] at e1
  injection e1 with e1
  subst e1
  have hgo : g ∈ o.own := by simp [OF.own, hg]
  have hob0 : o.b ∈ o.own := by simp [OF.own]
  rw [ownL_cons] at hnd
  have hsplit := (List.nodup_append.1 hnd).2.2
  have hown : ownL ({ o with name := nm } :: oq) = ownL (o :: oq) := rfl
  have hap : fupd (seenF (f.seen false)) nm (Value.bool true) = seenF (({ f with name := nm } : RFr).seen true) := by
    rw [seenF_push]
    simp [RFr.seen]
  have hnds : (({ f with name := nm } : RFr).seen true).Nodup := by
    have h1 : (f.mems.map (·.1)).Nodup := by simpa [RFr.seen] using e5
    have h2 : nm ∉ f.mems.map (·.1) := fun e => by
      have h3 : (f.mems.map (·.1)).any (fun a => decide (a = nm)) = true := List.any_eq_true.2 ⟨nm, e, by simp⟩
      rw [RFr.has_any, hn] at h3
      cases h3
    simp only [RFr.seen, if_true]
    rw [List.nodup_append]
    refine ⟨h1, by simp, fun a ha c hc => ?_⟩
    simp only [List.mem_singleton] at hc
    subst hc
    exact fun e => h2 (e ▸ ha)
  have hS : ∀ g', notIn B (ownL (o :: oq)) g' → (TB w g' 30 ∨ TB w g' 60) → ¬ (g' = b ∨ g' = o.b ∨ g' = g) := fun g' h1 ht e => by
    rcases e with e | e | e
    · subst e
      rcases ht with ht | ht
      · exact ht.ne hbt (by decide) rfl
      · exact ht.ne hbt (by decide) rfl
    · subst e; exact h1.2 (by rw [ownL_cons]; exact List.mem_append_left _ hob0)
    · subst e; exact h1.2 (by rw [ownL_cons]; exact List.mem_append_left _ hgo)
  obtain ⟨xs, h1, h2⟩ := h.fr.1.its
  obtain ⟨ms, h3, h4⟩ := h.fr.1.mes
  have hrow : ∀ k, (TB w k 30 ∨ TB w k 60 ∨ TB w k 89) → ¬ (k = b ∨ k = o.b ∨ k = g) := fun k ht e => by
    rcases e with e | e | e
    · subst e
      rcases ht with ht | ht | ht
      · exact ht.ne hbt (by decide) rfl
      · exact ht.ne hbt (by decide) rfl
      · exact ht.ne hbt (by decide) rfl
    · subst e
      rcases ht with ht | ht | ht
      · exact ht.ne h.fr.1.blk.tb (by decide) rfl
      · exact ht.ne h.fr.1.blk.tb (by decide) rfl
      · exact ht.ne h.fr.1.blk.tb (by decide) rfl
    · subst e
      rcases ht with ht | ht | ht
      · exact e3.ne_blk ht rfl
      · exact e3.ne_blk ht rfl
      · exact e3.ne_blk ht rfl
  refine ⟨hrd, h.hB, ?_, ⟨⟨by show Blk wf o.b _ (({ o with name := nm } : OF).cells f.mem); rw [hf]; exact hbk, h.fr.1.hB, ⟨xs, h1.mod hm (fun k e => hrow k (.inl (h1.far' k e).2.2)), ?_⟩, ⟨ms, h3.mod hm (fun k e => hrow k (.inr (.inl (h3.far' k e).2.2))), ?_⟩, ?_, fun _ _ => rfl⟩, ?_⟩, ?_, hi2⟩
  · rw [hsk.1, hsk.2.1, hsk.2.2]
    have := h.sk.mod hm (fun k e => hrow k (.inr (.inr (h.sk.far' k e).2.2)))
    simpa using this
  · exact (h2.mod hm hS).upto hi
  · exact (h4.mod hm hS).upto hi
  · show if f.mem then _ else _
    rw [hf, if_pos rfl]
    refine ⟨g, hg, e2, ?_, ?_⟩
    · have h7 := hmp
      rw [hap] at h7
      exact h7
    · exact hnds
  · refine Frs.upto hi _ _ _ (Frs.mod hm hS _ _ _ (fun k hk e => ?_) h.fr.2)
    rcases e with e | e | e
    · subst e; exact h.fr.ne hbt (by rw [ownL_cons]; exact List.mem_append_right _ hk)
    · exact hsplit _ hob0 _ hk e.symm
    · exact hsplit _ hgo _ hk e.symm
  · rw [hown, ownL_cons]; exact hnd
/-- the box at hand is taken off -/
theorem RdAt.popped {f : RFr} {q : List RFr} {o : OF} {oq : List OF} (h : RdAt w B b s r pend (f :: q) (o :: oq)) (hm : Mod (fun k => k = b ∨ blkOf o.ma = some k) w wf) (hrd : Blk wf b 49 (r'.cells s)) (hsk : r'.sk = r.sk ∧ r'.sn + 1 = r.sn ∧ r'.sc = r.sc) (hi : r.i ≤ r'.i) (hi2 : r'.i ≤ s.size) :
    RdAt wf B b s r' true q oq := by
  have hbt := h.rd.tb
  have hnd := h.nd
  rw [ownL_cons] at hnd
  have hsplit := (List.nodup_append.1 hnd).2.2
  have hn0 : r.sn = oq.length + 1 := by have := h.sk.1; simpa using this.symm
  obtain ⟨g, hA, -, htg, -, -⟩ := h.sk.form (by omega)
  obtain ⟨ms, h3, h4⟩ := h.fr.1.mes
  have hmo : ∀ k, blkOf o.ma = some k → k ∈ o.own := fun k e => by simp [OF.own, e]
  refine ⟨hrd, h.hB, ?_, ?_, (List.nodup_append.1 hnd).2.1, hi2⟩
  · have h1 := h.sk
    rw [hA] at h1
    have h2 := h1.cut (i := oq.length) (by omega)
    rw [hsk.1, show r'.sn = oq.length by omega, hsk.2.2, hA]
    have e : ((o :: oq).reverse.map (·.b)).take oq.length = oq.reverse.map (·.b) := by simp
    rw [e] at h2
    refine h2.mod hm (fun k e e2 => ?_)
    injection e with e
    subst e
    rcases e2 with e2 | e2
    · subst e2; exact htg.ne hbt (by decide) rfl
    · exact htg.ne (h3.far' _ e2).2.2 (by decide) rfl
  · have h2 := Frs.mod hm (G := notIn B (ownL (o :: oq))) (fun g hg ht e => by
      rcases e with e | e
      · subst e
        rcases ht with ht | ht
        · exact ht.ne hbt (by decide) rfl
        · exact ht.ne hbt (by decide) rfl
      · exact hg.2 (by rw [ownL_cons]; exact List.mem_append_left _ (hmo g e))) _ _ _ (fun g hg e => by
      rcases e with e | e
      · subst e; exact h.fr.ne hbt (by rw [ownL_cons]; exact List.mem_append_right _ hg)
      · exact hsplit _ (hmo g e) _ hg rfl) h.fr.2
    exact Frs.upto hi _ _ _ (Frs.imp (fun g h3 _ => ⟨h3.1, fun h4 => h3.2 (by rw [ownL_cons]; exact List.mem_append_right _ h4)⟩) _ _ _ h2)
theorem RFr.names_nodup {d : Nat} {G : Nat → Prop} {f : RFr} {o : OF} (h : FrameAt w B d G pend f o) (hf : f.mem = true) : (f.mems.map (·.1)).Nodup := by
  have h5 := h.map
  rw [hf, if_pos rfl] at h5
  obtain ⟨g, -, -, -, h6⟩ := h5
  rw [RFr.seen] at h6
  exact (List.nodup_append.1 h6).1
/-- the value of what was open, its members sorted (ys) -/
theorem RdAt.valued {f : RFr} {q : List RFr} {o : OF} {oq : List OF} {w2 : World} (h : RdAt w B b s r pend (f :: q) (o :: oq)) (hone : if f.mem then f.items = [] else f.mems = [] ∧ f.name = ⟨#[]⟩) {ms ys : List MA} (h3 : Own w B 60 7 MA.enc o.ma o.mn o.mc ms) (h4 : KidsM w (notIn B (ownL (o :: oq))) r.i ms f.mems)
    (hm : Mod (fun k => k = b ∨ blkOf o.ma = some k) w w2) (hp : ys.Perm ms) (hs : ys.Pairwise fun a b => ¬ cmpB b.name a.name < 0) (ho : Own w2 B 60 7 MA.enc o.ma o.mn o.mc ys) :
    Tree w2 (notIn B (ownL oq)) (r.i + 1) (o.va f.mem) f.value := by
  have hbt := h.rd.tb
  have hnd := h.nd
  rw [ownL_cons] at hnd
  have hsplit := (List.nodup_append.1 hnd).2.2
  have hS : ∀ g', notIn B (ownL (o :: oq)) g' → (TB w g' 30 ∨ TB w g' 60) → ¬ (g' = b ∨ blkOf o.ma = some g') := fun g' h1 ht e => by
    rcases e with e | e
    · subst e
      rcases ht with ht | ht
      · exact ht.ne hbt (by decide) rfl
      · exact ht.ne hbt (by decide) rfl
    · exact h1.2 (by rw [ownL_cons]; exact List.mem_append_left _ (by simp [OF.own, e]))
  obtain ⟨xs, h1, h2⟩ := h.fr.1.its
  have hG : ∀ g, notIn B (ownL (o :: oq)) g → g < w2.heap.size → notIn B (ownL oq) g := fun g h5 _ => ⟨h5.1, fun h6 => h5.2 (by rw [ownL_cons]; exact List.mem_append_right _ h6)⟩
  have hrow : ∀ k, k ∈ o.own → notIn B (ownL oq) k := fun k hk => ⟨(h.fr.1.kind k hk).2.1, fun h6 => hsplit _ hk _ h6 rfl⟩
  have hnds : (f.mems.map (·.1)).Nodup := by
    cases hf : f.mem with
    | true => exact RFr.names_nodup h.fr.1 hf
    | false => rw [hf] at hone; rw [hone.1]; exact List.nodup_nil
  have h7 := (h4.sorted hnds hp hs).mod hm hS
  have h8 := h2.mod hm hS
  have h1' := h1.mod hm (fun k e e2 => by
    rcases e2 with e2 | e2
    · subst e2; exact (h1.far' k e).2.2.ne hbt (by decide) rfl
    · exact (h1.far' k e).2.2.ne (h3.far' k e2).2.2 (by decide) rfl)
  have hfl : f.items = f.items := rfl
  refine ⟨f.items, srtP f.mems, ?_, ⟨xs, h1'.row' (fun k e _ => hrow k (by simp [OF.own, e])), h8.1, fun i hi hi' => Tree.imp hG _ _ _ (h8.2 i hi hi')⟩, ⟨ys, ho.row' (fun k e _ => hrow k (by simp [OF.own, e])), h7.1, fun i hi hi' => ⟨(h7.2 i hi hi').1, Tree.imp hG _ _ _ (h7.2 i hi hi').2⟩⟩⟩
  simp [RFr.value, OF.va]
end

theorem blank_at (c : UInt8) : decide (0 ≤ Lib.indexByte [32, 9, 10, 13] c) = blankB c := by
  revert c
  apply byteOf
  decide +kernel
/-- the place that a reader's block tells -/
def iAt (b : Nat) (w : World) : Nat := match w.cell? ⟨b, 1, none⟩ with
  | some v => (intOf v).toNat
  | none => 0
theorem iAt_of {b : Nat} {w : World} {k : Nat} (h : w.cell? ⟨b, 1, none⟩ = some (.int .i64 (k : Int))) : iAt b w = k := by
  unfold iAt
  rw [h]
  simp [intOf]
/-- what both readers' blocks begin with: the text and the place -/
def at0 (s : ByteArray) (i : Nat) (rest : List Value) : Array Value := (Value.string s :: Value.int .i64 (i : Int) :: rest).toArray
theorem RV.at0 (s : ByteArray) (r : RV) : ∃ rest, ∀ k, ({ r with i := k } : RV).cells s = Go.Proofs.YtjmnkdkdjnmejaaGreatDoor.at0 s k rest :=
  ⟨[.slice r.sk r.sn r.sc, .bool r.begins, .bool r.done, .int .i64 r.out.kind, .bool r.out.flag, .int .i64 r.out.num, .string r.out.words, .slice r.out.la r.out.ln r.out.lc, .slice r.out.ma r.out.mn r.out.mc, .bool r.bad, .int .i64 r.pl], fun k => rfl⟩
/-- the place is moved to k, nothing else is turned -/
def Moved (b : Nat) (t : TypeId) (s : ByteArray) (rest : List Value) (k : Nat) (w w' : World) : Prop := Blk w' b t (at0 s k rest) ∧ Only b w w'
def RSkip (b : Nat) (t : TypeId) (s : ByteArray) (rest : List Value) (i : Nat) (w : World) (e : Ending) (w' : World) : Prop :=
  e = .returned (.int .u8 ((topAt s.data.toList (spanAt blankB s.data.toList i)).toNat : Int)) ∧ Moved b t s rest (spanAt blankB s.data.toList i) w w'

section
set_option maxHeartbeats 1000000
theorem val_skipA (s : ByteArray) (rest : List Value) (i b : Nat) (w : World) (hs : s.size ≤ 300000) (hi : i ≤ s.size) (hb : Blk w b 49 (at0 s i rest)) :
    Calls Tryz.prog 35 #[.pointer (some ⟨b, 0, none⟩)] w (RSkip b 49 s rest i w) := by
  have hlen : s.data.toList.length = s.size := rfl
  have HLEN := hId hlen
  obtain ⟨K, hK⟩ : ∃ K, spanAt blankB s.data.toList i = K := ⟨_, rfl⟩
  have HK := hId hK
  have HR : ∀ e w', (e = .returned (.int .u8 ((topAt s.data.toList K).toNat : Int)) ∧ Moved b 49 s rest K w w') → RSkip b 49 s rest i w e w' := fun e w' h => by unfold RSkip; rw [HK.out]; exact h
  have HB0 := hId hb
  clear hlen hK hb
  go_enter Tryz.func35, Tryz.ntmps35
  go_wp2_with fail
  go_loopw [13] (fun _ wr => ∃ k, k ≤ s.size ∧ Hid (spanAt blankB s.data.toList k = K) ∧ Hid (Blk wr b 49 (at0 s k rest)) ∧ Hid (Only b w wr)) (fun _ wr => s.size - iAt b wr)
  case atStart => exact ⟨i, hi, HK, HB0, hId (Mod.refl _ _)⟩
  case round =>
    clear HB0
    rename World => wr
    obtain ⟨k, hk, HS, HB, HM⟩ := hrel
    have c0 := HB.out.cell 0
    have c1 := HB.out.cell 1
    have z1 := HB.out.frozen 1
    have hbl := HB.out.lt
    simp only [Go.Proofs.YtjmnkdkdjnmejaaGreatDoor.at0, lqt, lqz, lqs] at c0 c1
    by_cases hlt : k < s.size
    · have hd : decide ((k : Int) < (s.size : Int)) = true := by simp; omega
      have hx := fun W => Tryz.strings_IndexByte ⟨#[32, 9, 10, 13]⟩ (s[k].toNat : Int) W
      simp only [byteBack] at hx
      have hbk := blank_at s[k]
      generalize Lib.indexByte [32, 9, 10, 13] s[k] = q at hx hbk
      cases hp : blankB s[k] <;> rw [hp] at hbk
      · have hq : decide (0 ≤ q) = false := hbk
        have hq2 : ¬ (0 : Int) ≤ q := by simpa using hq
        have HE : Hid (k = K) := hId (by rw [← HS.out]; exact (spanAt_no (by rw [HLEN.out]; exact hlt) hp).symm)
        have HT : Hid (topAt s.data.toList k = s[k]) := hId (by rw [topAt_get (by rw [HLEN.out]; exact hlt)]; rfl)
        clear hp
        go_upto_region 1 with (fail)
        go_quiet (exact Calls.quiet_of_same (hx _))
        clear hx hbk hq
        have he : ((k : Int) == (s.size : Int)) = false := by simp; omega
        go_wp2_with fail
        go_quiet (fail)
        go_wp2_with fail
        go_quiet (fail)
        go_wp2_with fail
        go_ret
        exact HR _ _ ⟨by rw [← HE.out, HT.out]; rfl, by rw [← HE.out]; exact ⟨HB.out.mod (S := fun _ => False) (by with_reducible (repeat (first | exact Mod.refl _ _ | refine Mod.drewN ?_ _ | refine Mod.drew ?_ | refine Mod.alloc ?_ _))) (fun e => e), HM.out.trans (by with_reducible (repeat (first | exact Mod.refl _ _ | refine Mod.drewN ?_ _ | refine Mod.drew ?_ | refine Mod.alloc ?_ _)))⟩⟩
      · have hq : decide (0 ≤ q) = true := hbk
        have hq2 : (0 : Int) ≤ q := by simpa using hq
        have HS1 : Hid (spanAt blankB s.data.toList (k + 1) = K) := hId (by rw [← HS.out]; exact (spanAt_yes (by rw [HLEN.out]; exact hlt) hp).symm)
        clear hp
        go_upto_region 1 with (fail)
        go_quiet (exact Calls.quiet_of_same (hx _))
        clear hx hbk hq
        have hk3 : (k : Int) + 1 < 400000 := by omega
        have hk4 : 0 ≤ (k : Int) := by omega
        have HB1 := hId ((HB.out.mod (S := fun _ => False) ((Mod.refl _ wr).drewN nq) (fun e => e)).set 1 (.int .i64 ((k + 1 : Nat) : Int)))
        have HM1 : Hid (Only b w ((wr.drewN nq).setCell ⟨b, 1, none⟩ (.int .i64 ((k + 1 : Nat) : Int)))) := hId ((HM.out.drewN nq).setCell (.inl rfl) _)
        have HIA : Hid (iAt b ((wr.drewN nq).setCell ⟨b, 1, none⟩ (.int .i64 ((k + 1 : Nat) : Int))) = k + 1) := hId (iAt_of (HB1.out.cell 1))
        have HI0 : Hid (iAt b wr = k) := hId (iAt_of c1)
        go_wp2_with fail
        go_roundw
        case rel => exact ⟨k + 1, by omega, HS1, HB1, HM1⟩
        case measure =>
          have h1 := HIA.out
          have h2 := HI0.out
          rw [show ((k + 1 : Nat) : Int) = (k : Int) + 1 by omega] at h1
          rw [h1, h2]
          omega
    · have hd : decide ((k : Int) < (s.size : Int)) = false := by simp; omega
      have hks : k = s.size := by omega
      have HE : Hid (k = K) := hId (by rw [← HS.out]; exact (spanAt_end _ (by rw [HLEN.out]; omega)).symm)
      have HT : Hid (topAt s.data.toList k = 0) := hId (topAt_end (by rw [HLEN.out]; omega))
      go_upto_region 1 with (fail)
      go_quiet (fail)
      have he : ((k : Int) == (s.size : Int)) = true := by simp; omega
      clear hks
      go_wp2_with fail
      go_quiet (fail)
      go_wp2_with fail
      go_ret
      exact HR _ _ ⟨by rw [← HE.out, HT.out]; rfl, by rw [← HE.out]; exact ⟨HB.out.mod (S := fun _ => False) (by with_reducible (repeat (first | exact Mod.refl _ _ | refine Mod.drewN ?_ _ | refine Mod.drew ?_ | refine Mod.alloc ?_ _))) (fun e => e), HM.out.trans (by with_reducible (repeat (first | exact Mod.refl _ _ | refine Mod.drewN ?_ _ | refine Mod.drew ?_ | refine Mod.alloc ?_ _)))⟩⟩
end

set_option maxHeartbeats 1000000
theorem val_fail (s : ByteArray) (r : RV) (p : Int) (b : Nat) (w : World) (hb : Blk w b 49 (r.cells s)) :
    Calls Tryz.prog 38 #[.pointer (some ⟨b, 0, none⟩), .int .i64 p] w fun e w' => e = .returned (.tuple #[]) ∧ Blk w' b 49 (({ r with bad := true, pl := if r.bad then r.pl else p } : RV).cells s) ∧ Only b w w' := by
  obtain ⟨i, sk, sn, sc, begins, done, ⟨ok, of, on, ow, ola, oln, olc, oma, omn, omc⟩, bad, pl⟩ := r
  have c11 := hb.cell 11
  have c12 := hb.cell 12
  have z11 := hb.frozen 11
  have z12 := hb.frozen 12
  have hlt := hb.lt
  simp only [RV.cells, lqt, lqz, lqs] at c11 c12
  have HB := hId hb
  clear hb
  cases bad
  · have HB1 := hId ((HB.out.set 11 (.bool true)).set 12 (.int .i64 p))
    have HM1 : Hid (Only b w ((w.setCell ⟨b, 11, none⟩ (.bool true)).setCell ⟨b, 12, none⟩ (.int .i64 p))) := hId (((Mod.refl (fun k => k = b) w).setCell (p := ⟨b, 11, none⟩) (.inl rfl) _).setCell (p := ⟨b, 12, none⟩) (.inl rfl) _)
    go_enter Tryz.func38, Tryz.ntmps38
    go_wp2_with fail
    go_end0
    exact ⟨rfl, HB1.out, HM1.out⟩
  · go_enter Tryz.func38, Tryz.ntmps38
    go_wp2_with fail
    go_end0
    exact ⟨rfl, HB.out, Mod.refl _ _⟩

/-- what put leaves -/
def RPut (B b : Nat) (s : ByteArray) (r : RV) (st : List RFr) (v : VT) (w : World) (e : Ending) (w' : World) : Prop :=
  e = .returned (.tuple #[]) ∧ Mod (From B) w w' ∧
  ((st = [] ∧ ∃ x, Blk w' b 49 (({ r with done := true, out := x } : RV).cells s) ∧ Tree w' (notIn B []) r.i x v) ∨
   (∃ f q r' os', st = f :: q ∧ r'.i = r.i ∧ r'.begins = false ∧ r'.done = r.done ∧ r'.bad = r.bad ∧ r'.pl = r.pl ∧ RdAt w' B b s r' false (f.put v :: q) os'))
set_option maxHeartbeats 2000000
set_option maxRecDepth 100000 in
theorem val_put0 (s : ByteArray) (r : RV) (B b : Nat) (w : World) (x : VA) (v : VT) (h : RdAt w B b s r true [] []) (hx : Tree w (notIn B []) r.i x v) (hB : B ≤ w.heap.size) :
    Calls Tryz.prog 65 #[.pointer (some ⟨b, 0, none⟩), x.val] w (RPut B b s r [] v w) := by
  have hsn : r.sn = 0 := by have := h.sk.1; simpa using this.symm
  have hrd := h.rd
  obtain ⟨i, sk, sn, sc, begins, done, ⟨ok, of, on, ow, ola, oln, olc, oma, omn, omc⟩, bad, pl⟩ := r
  simp only at hsn
  subst hsn
  obtain ⟨xk, xf, xn, xw, xla, xln, xlc, xma, xmn, xmc⟩ := x
  have HX := hId hx
  have HH := hId h
  have hHB := h.hB
  clear h hx
  have hnew : New w (w.alloc (.cells #[.int .i64 xk, .bool xf, .int .i64 xn, .string xw, .slice xla xln xlc, .slice xma xmn xmc] 30)) := (Mod.refl _ _).alloc _
  have hxb := Blk.new w 30 #[.int .i64 xk, .bool xf, .int .i64 xn, .string xw, .slice xla xln xlc, .slice xma xmn xmc]
  go_enter Tryz.func65, Tryz.ntmps65
  go_upto_region 1 with (fail)
  generalize w.alloc (.cells #[.int .i64 xk, .bool xf, .int .i64 xn, .string xw, .slice xla xln xlc, .slice xma xmn xmc] 30) = w1 at *
  generalize hq : w.heap.size = q at *
  have hrd1 := hrd.mod hnew (fun e => e)
  have c2 := hrd1.cell 2
  have c4 := hrd1.cell 4
  have c5 := hrd1.cell 5
  have c6 := hrd1.cell 6
  have c7 := hrd1.cell 7
  have c8 := hrd1.cell 8
  have c9 := hrd1.cell 9
  have c10 := hrd1.cell 10
  have z4 := hrd1.frozen 4
  have z5 := hrd1.frozen 5
  have z6 := hrd1.frozen 6
  have z7 := hrd1.frozen 7
  have z8 := hrd1.frozen 8
  have z9 := hrd1.frozen 9
  have z10 := hrd1.frozen 10
  have bl := hrd1.lt
  have d0 := hxb.cell 0
  have d1 := hxb.cell 1
  have d2 := hxb.cell 2
  have d3 := hxb.cell 3
  have d4 := hxb.cell 4
  have d5 := hxb.cell 5
  have dl := hxb.lt
  simp only [RV.cells, lqt, lqz, lqs] at c2 c4 c5 c6 c7 c8 c9 c10 d0 d1 d2 d3 d4 d5
  have HRD := hId hrd
  have HRD1 := hId hrd1
  have HN := hId hnew
  clear hrd hrd1 hnew hxb
  go_wp2_with fail
  refine bodyPost_ret (results_none rfl _ _ _) rfl ?_
  have hS : Only b w1 (((((((w1.setCell ⟨b, 5, none⟩ (.int .i64 xk)).setCell ⟨b, 6, none⟩ (.bool xf)).setCell ⟨b, 7, none⟩ (.int .i64 xn)).setCell ⟨b, 8, none⟩ (.string xw)).setCell ⟨b, 9, none⟩ (.slice xla xln xlc)).setCell ⟨b, 10, none⟩ (.slice xma xmn xmc)).setCell ⟨b, 4, none⟩ (.bool true)) :=
    (((((((Mod.refl (fun k => k = b) w1).setCell (p := ⟨b, 5, none⟩) (.inl rfl) _).setCell (p := ⟨b, 6, none⟩) (.inl rfl) _).setCell (p := ⟨b, 7, none⟩) (.inl rfl) _).setCell (p := ⟨b, 8, none⟩) (.inl rfl) _).setCell (p := ⟨b, 9, none⟩) (.inl rfl) _).setCell (p := ⟨b, 10, none⟩) (.inl rfl) _).setCell (p := ⟨b, 4, none⟩) (.inl rfl) _
  have hbk := ((((((HRD1.out.set 5 (.int .i64 xk)).set 6 (.bool xf)).set 7 (.int .i64 xn)).set 8 (.string xw)).set 9 (.slice xla xln xlc)).set 10 (.slice xma xmn xmc)).set 4 (.bool true)
  have hbt := HRD1.out.tb
  refine ⟨rfl, (HN.out.mono (fun _ _ e => e.elim)).trans (hS.mono (fun k _ e => by subst e; exact hHB)), .inl ⟨rfl, ⟨xk, xf, xn, xw, xla, xln, xlc, xma, xmn, xmc⟩, hbk, Tree.mod hS (fun g _ ht e => ?_) _ _ _ (HX.out.new HN.out)⟩⟩
  subst e
  rcases ht with ht | ht
  · exact (hbt.ne ht (by decide)) rfl
  · exact (hbt.ne ht (by decide)) rfl
end Go.Proofs.YtjmnkdkdjnmejaaGreatDoor
