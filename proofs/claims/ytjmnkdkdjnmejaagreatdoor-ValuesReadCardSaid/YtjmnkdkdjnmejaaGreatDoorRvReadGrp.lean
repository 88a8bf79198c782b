/- Several texts in one. (1) Reading values: value.Read. Conditions: a text of at most 240000 bytes; the table of unicode/utf8 lies as it should. (2) sync.Once, not yet done and nobody else about: the lock is taken and let go, the function is called, 'done' is stored (turned from the kit's worked walks of a lazy value). No conditions. (3) sync.Once.Do of a Replacer's build. Conditions: not yet done, the lock free. -/
import Derived.Test.YtjmnkdkdjnmejaaGreatDoorRvAdvGrp
import Derived.Test.YtjmnkdkdjnmejaaGreatDoorVal8Grp
import Derived.Tactics
import Derived.Tactics2
import Derived.Defers
import Derived.Laws.Pointers
import Derived.Laws.LoneSync
import Derived.RegionTactic
import Derived.RegionCalls
import Derived.ChangeAlike

namespace Go.Proofs.YtjmnkdkdjnmejaaGreatDoor
open Go.RowKit
set_option linter.unusedVariables false
set_option linter.unusedSimpArgs false
def zeroV : VT := .mk 0 false 0 ⟨#[]⟩ [] []
def zeroA : VA := ⟨0, false, 0, ⟨#[]⟩, none, 0, 0, none, 0, 0⟩
/-- what is answered of a state at the end -/
def outS (y : RSt) (v : VT) (p f : Int) : Prop := match y with
  | .bad q => v = zeroV ∧ p = q ∧ f = 9
  | .fin u i => if vCheck i u = 0 then v = u ∧ p = 0 ∧ f = 0 else v = zeroV ∧ p = 0 ∧ f = vCheck i u
  | .run _ _ _ => False
def RdRes (s : ByteArray) (v : VT) (p f : Int) : Prop :=
  if 200000 < s.size then v = zeroV ∧ p = 0 ∧ f = 2
  else ∃ x, Leads s.data.toList (.run true [] 0) x ∧ x.ends = true ∧ outS (finS s.data.toList x) v p f
theorem outS.same {y : RSt} {v v' : VT} {p p' f f' : Int} (h : outS y v p f) (h' : outS y v' p' f') : v = v' ∧ p = p' ∧ f = f' := by
  cases y with
  | run b st i => exact h.elim
  | bad q =>
    obtain ⟨rfl, rfl, rfl⟩ := h
    obtain ⟨rfl, rfl, rfl⟩ := h'
    exact ⟨rfl, rfl, rfl⟩
  | fin u i =>
    unfold outS at h h'
    simp only at h h'
    split at h
    · rename_i hc
      rw [if_pos hc] at h'
      obtain ⟨rfl, rfl, rfl⟩ := h
      obtain ⟨rfl, rfl, rfl⟩ := h'
      exact ⟨rfl, rfl, rfl⟩
    · rename_i hc
      rw [if_neg hc] at h'
      obtain ⟨rfl, rfl, rfl⟩ := h
      obtain ⟨rfl, rfl, rfl⟩ := h'
      exact ⟨rfl, rfl, rfl⟩
theorem RdRes.same {s : ByteArray} {v v' : VT} {p p' f f' : Int} (h : RdRes s v p f) (h' : RdRes s v' p' f') : v = v' ∧ p = p' ∧ f = f' := by
  unfold RdRes at h h'
  split at h
  · rename_i hc
    rw [if_pos hc] at h'
    obtain ⟨rfl, rfl, rfl⟩ := h
    obtain ⟨rfl, rfl, rfl⟩ := h'
    exact ⟨rfl, rfl, rfl⟩
  · rename_i hc
    rw [if_neg hc] at h'
    obtain ⟨x, h1, h2, h3⟩ := h
    obtain ⟨y, h4, h5, h6⟩ := h'
    have e := h1.same h4 h2 h5
    subst e
    exact h3.same h6
theorem outS_bad (q : Nat) : outS (.bad q) zeroV q 9 := ⟨rfl, rfl, rfl⟩
theorem outS_ok {u : VT} {i : Nat} (h : vCheck i u = 0) : outS (.fin u i) u 0 0 := by unfold outS; simp only; rw [if_pos h]; exact ⟨trivial, trivial, trivial⟩
theorem outS_no {u : VT} {i : Nat} (h : ¬ vCheck i u = 0) : outS (.fin u i) zeroV 0 (vCheck i u) := by unfold outS; simp only; rw [if_neg h]; exact ⟨trivial, trivial, trivial⟩
/-- what both readings answer -/
def RRead (s : ByteArray) (w : World) (e : Ending) (w' : World) : Prop :=
  New w w' ∧ ∃ (A : VA) (v : VT) (p f : Int), e = .returned (.tuple #[A.val, .int .i64 p, .int .i64 f]) ∧ RdRes s v p f ∧ Tree w' (fun _ => True) 240001 A v ∧ Fit 240001 v
theorem zero_fit (d : Nat) : Fit (d + 1) zeroV := ⟨by show 40 + 6 * 0 + 0 ≤ _; omega, Nat.zero_le _, Nat.zero_le _, Nat.zero_le _, (fun x hx => by cases hx), (fun x hx => by cases hx)⟩
theorem fin_fit {s : ByteArray} {v : VT} {i : Nat} (h : OkM s.data.toList.length (.fin v i)) (hs : s.size ≤ 200000) (d : Nat) : Fit d v := by
  have h1 : i ≤ s.data.toList.length ∧ OkV s.data.toList.length i v := h
  have h2 : s.data.toList.length = s.size := rfl
  have h3 := h1.2.w d
  exact ⟨by omega, Wide.mono (by omega) _ _ (h1.2.wide d)⟩
set_option maxHeartbeats 1500000
set_option maxRecDepth 100000 in
theorem value_read (s : ByteArray) (w : World) (hs : s.size ≤ 240000) (hU : Utf8T w) : Calls Tryz.prog 5 #[.string s] w (RRead s w) := by
  have HU := hId hU
  have hR := Blk.new w 30 #[.int .i64 0, .bool false, .int .i64 0, .string ⟨#[]⟩, .slice none 0 0, .slice none 0 0]
  have hm1 : New w (w.alloc (.cells #[.int .i64 0, .bool false, .int .i64 0, .string ⟨#[]⟩, .slice none 0 0, .slice none 0 0] 30)) := (Mod.refl _ _).alloc _
  clear hU
  go_enter Tryz.func5, Tryz.ntmps5
  go_upto_region 1 with (fail)
  generalize w.alloc (.cells #[.int .i64 0, .bool false, .int .i64 0, .string ⟨#[]⟩, .slice none 0 0, .slice none 0 0] 30) = w1 at *
  generalize hrb : w.heap.size = rb at *
  have HRB := hId hrb
  have HR := hId hR
  have HM1 := hId hm1
  clear hrb hR hm1
  by_cases hbig : 200000 < s.size
  · have hd : decide ((200000 : Int) < (s.size : Int)) = true := by simp; omega
    have r0 := HR.out.cell 0
    have r1 := HR.out.cell 1
    have r2 := HR.out.cell 2
    have r3 := HR.out.cell 3
    have r4 := HR.out.cell 4
    have r5 := HR.out.cell 5
    have rf := HR.out.frozen
    have rl := HR.out.lt
    simp only [lqt, lqz, lqs] at r0 r1 r2 r3 r4 r5
    go_wp2_with fail
    have HW9 : Hid (Mod (fun k => k = rb) w1 ((((((w1.setCell ⟨rb, 0, none⟩ (.int .i64 0)).setCell ⟨rb, 1, none⟩ (.bool false)).setCell ⟨rb, 2, none⟩ (.int .i64 0)).setCell ⟨rb, 3, none⟩ (.string ⟨#[]⟩)).setCell ⟨rb, 4, none⟩ (.slice none 0 0)).setCell ⟨rb, 5, none⟩ (.slice none 0 0))) := hId (((((((Mod.refl (fun k => k = rb) w1).setCell (p := ⟨rb, 0, none⟩) (.inl rfl) _).setCell (p := ⟨rb, 1, none⟩) (.inl rfl) _).setCell (p := ⟨rb, 2, none⟩) (.inl rfl) _).setCell (p := ⟨rb, 3, none⟩) (.inl rfl) _).setCell (p := ⟨rb, 4, none⟩) (.inl rfl) _).setCell (p := ⟨rb, 5, none⟩) (.inl rfl) _)
    have HR9 : Hid (Blk ((((((w1.setCell ⟨rb, 0, none⟩ (.int .i64 0)).setCell ⟨rb, 1, none⟩ (.bool false)).setCell ⟨rb, 2, none⟩ (.int .i64 0)).setCell ⟨rb, 3, none⟩ (.string ⟨#[]⟩)).setCell ⟨rb, 4, none⟩ (.slice none 0 0)).setCell ⟨rb, 5, none⟩ (.slice none 0 0)) rb 30 #[(.int .i64 0), (.bool false), (.int .i64 0), (.string ⟨#[]⟩), (.slice none 0 0), (.slice none 0 0)]) := hId ((((((HR.out.set 0 (.int .i64 0)).set 1 (.bool false)).set 2 (.int .i64 0)).set 3 (.string ⟨#[]⟩)).set 4 (.slice none 0 0)).set 5 (.slice none 0 0))
    clear r0 r1 r2 r3 r4 r5 rf rl
    generalize ((((((w1.setCell ⟨rb, 0, none⟩ (.int .i64 0)).setCell ⟨rb, 1, none⟩ (.bool false)).setCell ⟨rb, 2, none⟩ (.int .i64 0)).setCell ⟨rb, 3, none⟩ (.string ⟨#[]⟩)).setCell ⟨rb, 4, none⟩ (.slice none 0 0)).setCell ⟨rb, 5, none⟩ (.slice none 0 0)) = w9 at *
    have r0 := HR9.out.cell 0
    have r1 := HR9.out.cell 1
    have r2 := HR9.out.cell 2
    have r3 := HR9.out.cell 3
    have r4 := HR9.out.cell 4
    have r5 := HR9.out.cell 5
    have rf := HR9.out.frozen
    have rl := HR9.out.lt
    simp only [lqt, lqz, lqs] at r0 r1 r2 r3 r4 r5
    refine bodyPost_ret (v := .tuple #[VA.val zeroA, .int .i64 0, .int .i64 2]) (by simp [results, Tryz.results5, go_sem, r0, r1, r2, r3, r4, r5, rf, rl, VA.val, zeroA]) rfl ?_
    exact ⟨HM1.out.step HW9.out (fun k hk e => by have := HRB.out; omega), _, zeroV, _, _, rfl, by unfold RdRes; rw [if_pos hbig]; exact ⟨rfl, rfl, rfl⟩, leafTree _ _ (by omega) _ _ _ _, zero_fit _⟩
  · have hd : decide ((200000 : Int) < (s.size : Int)) = false := by simp; omega
    have hrd1 := Blk.new w1 49 ((⟨0, none, 0, 0, false, false, zeroA, false, 0⟩ : RV).cells s)
    have hm2 : New w1 (w1.alloc (.cells ((⟨0, none, 0, 0, false, false, zeroA, false, 0⟩ : RV).cells s) 49)) := (Mod.refl _ _).alloc _
    simp only [RV.cells, zeroA] at hrd1 hm2
    go_upto_region 4 with (fail)
    generalize w1.alloc (.cells #[.string s, .int .i64 (((0 : Nat) : Int)), .slice none 0 0, .bool false, .bool false, .int .i64 0, .bool false, .int .i64 0, .string ⟨#[]⟩, .slice none 0 0, .slice none 0 0, .bool false, .int .i64 0] 49) = w2 at *
    obtain ⟨b, hb⟩ : ∃ b, w1.heap.size = b := ⟨_, rfl⟩
    rw [hb] at hrd1
    simp only [hb]
    have HB := hId hb
    have HM2 := hId hm2
    have hB2 : b ≤ w2.heap.size := by rw [← hb]; exact hm2.size
    have hat : RdAt w2 b b s ⟨0, none, 0, 0, false, false, ⟨0, false, 0, ⟨#[]⟩, none, 0, 0, none, 0, 0⟩, false, 0⟩ true [] [] := ⟨hrd1, Nat.le_refl _, Own.nil, trivial, List.nodup_nil, Nat.zero_le _⟩
    have hru := val_run s _ b b w2 hat hB2 hs rfl rfl rfl
    clear hrd1 hm2 hb hat
    go_wp2_with fail
    refine hru.mono ?_
    clear hru
    rintro e w3 ⟨x, hld, hen, rfl, hm3, hat⟩
    have HX := hId (And.intro hld hen)
    have HM3 : Hid (New w w3) := hId ((HM1.out.trans HM2.out).step hm3 (fun k hk e => by have h1 : b ≤ k := e; have := HB.out; have := HM1.out.size; omega))
    have hrbb : rb < b := by have := HR.out.lt; have := HB.out; omega
    have HR := hId ((HR.out.mod HM2.out (fun e => e)).mod hm3 (fun e => by have h1 : b ≤ rb := e; omega))
    have HOK : Hid (OkM s.data.toList.length x) := hId (hld.ok (show s.data.toList.length ≤ 240000 from hs) ⟨Nat.zero_le _, fun D => Nat.zero_le _, fun f hf => absurd hf (by simp), Nat.zero_le _⟩)
    clear hld hm3 HM2
    obtain ⟨y, hy⟩ : ∃ y, finS s.data.toList x = y := ⟨_, rfl⟩
    have HY := hId hy
    rw [hy] at hat
    have hOKY : OkM s.data.toList.length y := by
      rw [← hy]
      have h1 := HOK.out
      cases x with
      | run bb st i => exact h1
      | bad q => exact h1
      | fin u i =>
        have h2 : i ≤ s.data.toList.length ∧ OkV s.data.toList.length i u := h1
        have h3 := spanAt_le blankB h2.1
        have h4 := spanAt_ge blankB s.data.toList i
        unfold finS
        simp only
        split
        · exact h3
        · exact ⟨h3, fun D => Nat.le_trans (h2.2.w D) (by omega), h2.2.wide⟩
    have HOKY := hId hOKY
    have hny : ∀ bb st i, y ≠ .run bb st i := fun bb st i e => by
      rw [← hy] at e
      cases x with
      | run b' st' i' => cases hen
      | bad q => cases e
      | fin u i2 =>
        unfold finS at e
        simp only at e
        split at e <;> cases e
    clear hen hy hOKY HOK
    cases y with
    | run bb st i => exact absurd rfl (hny bb st i)
    | bad q =>
      clear hny
      obtain ⟨r, hri, hbd, hpl, hblk⟩ := hat
      obtain ⟨i', sk, sn, sc, begins, done, ⟨ok, of, on, ow, ola, oln, olc, oma, omn, omc⟩, bad, pl⟩ := r
      simp only at hri hbd hpl
      subst hbd hpl
      have HBLK := hId hblk
      have c11 := hblk.cell 11
      have bl := hblk.lt
      simp only [RV.cells, lqt, lqz, lqs] at c11
      clear hblk
      go_upto_region 6 with (fail)
      have hne : b ≠ rb := by omega
      have HSX : Hid (∀ W, Mod (fun k => k = rb) w3 W → W.cell? ⟨b, 12, none⟩ = some (.int .i64 (q : Int)) ∧ b < W.heap.size) := hId (fun W hW => by
        have h1 := HBLK.out.mod hW hne
        exact ⟨(h1.cell 12).trans rfl, h1.lt⟩)
      clear c11 bl
      refine wp_region_held_drew (S := Mod (fun k => k = rb) w3) (by kernel_rfl) (by with_reducible (repeat (first | exact Mod.refl _ _ | refine Mod.drewN ?_ _ | refine Mod.drew ?_ | refine Mod.alloc ?_ _))) (fun hHeld => ?_)
      simp only [List.size_toArray, List.length_cons, List.length_nil, Nat.reduceAdd]
      refine wpAnyH_take (i := 0) (v := ?_) rfl (by kernel_rfl) (by kernel_rfl) (by kernel_rfl) (fun _ _ _ h => h) (Or.inl ⟨by rfl, fun W hSw => ?_⟩) (by assumption) ?_
      rotate_left
      · (have hq := HSX.out W hSw); (try simp only [lgt, lgz, lgs]); go_simp; any_goals (with_reducible rfl)
      simp only [Act.put, lgt, lgz, lgs, lst, lsz, lss]
      refine wpAnyH_take (i := 1) (v := ?_) rfl (by kernel_rfl) (by kernel_rfl) (by kernel_rfl) (fun _ _ _ h => h) (Or.inl ⟨by rfl, fun W hSw => ?_⟩) (by assumption) ?_
      rotate_left
      · (have hq := HSX.out W hSw); (try simp only [lgt, lgz, lgs]); go_simp; any_goals (with_reducible rfl)
      simp only [Act.put, lgt, lgz, lgs, lst, lsz, lss]
      refine wpAnyH_take (i := 2) (v := ?_) rfl (by kernel_rfl) (by kernel_rfl) (by kernel_rfl) (fun _ _ _ h => h) (Or.inl ⟨by rfl, fun W hSw => ?_⟩) (by assumption) ?_
      rotate_left
      · (have hq := HSX.out W hSw); (try simp only [lgt, lgz, lgs]); go_simp; any_goals (with_reducible rfl)
      simp only [Act.put, lgt, lgz, lgs, lst, lsz, lss]
      refine wpAnyH_take (i := 3) (v := ?_) rfl (by kernel_rfl) (by kernel_rfl) (by kernel_rfl) (fun _ _ _ h => h) (Or.inl ⟨by rfl, fun W hSw => ?_⟩) (by assumption) ?_
      rotate_left
      · (have hq := HSX.out W hSw); (try simp only [lgt, lgz, lgs]); go_simp; any_goals (with_reducible rfl)
      simp only [Act.put, lgt, lgz, lgs, lst, lsz, lss]
      refine wpAnyH_take (i := 4) (v := ?_) rfl (by kernel_rfl) (by kernel_rfl) (by kernel_rfl) (fun _ _ _ h => h) (Or.inl ⟨by rfl, fun W hSw => ?_⟩) (by assumption) ?_
      rotate_left
      · (have hq := HSX.out W hSw); (try simp only [lgt, lgz, lgs]); go_simp; any_goals (with_reducible rfl)
      simp only [Act.put, lgt, lgz, lgs, lst, lsz, lss]
      have r0 := HR.out.cell 0
      have r1 := HR.out.cell 1
      have r2 := HR.out.cell 2
      have r3 := HR.out.cell 3
      have r4 := HR.out.cell 4
      have r5 := HR.out.cell 5
      have rf := HR.out.frozen
      have rl := HR.out.lt
      simp only [lqt, lqz, lqs] at r0 r1 r2 r3 r4 r5
      refine wpAnyH_ready (rs := [5]) (by kernel_rfl) (by simp) ?_
      refine AllReadyH.cons rfl (fun K hK => ?_) AllReadyH.nil
      (try simp only [lgt, lgz, lgs])
      go_simp
      have HM8 : Hid (Mod (fun k => k = rb) w3 ((((((w3.setCell ⟨rb, 0, none⟩ (.int .i64 0)).setCell ⟨rb, 1, none⟩ (.bool false)).setCell ⟨rb, 2, none⟩ (.int .i64 0)).setCell ⟨rb, 3, none⟩ (.string ⟨#[]⟩)).setCell ⟨rb, 4, none⟩ (.slice none 0 0)).setCell ⟨rb, 5, none⟩ (.slice none 0 0)).drew) := hId (Mod.drew (((((((Mod.refl (fun k => k = rb) w3).setCell (p := ⟨rb, 0, none⟩) (.inl rfl) _).setCell (p := ⟨rb, 1, none⟩) (.inl rfl) _).setCell (p := ⟨rb, 2, none⟩) (.inl rfl) _).setCell (p := ⟨rb, 3, none⟩) (.inl rfl) _).setCell (p := ⟨rb, 4, none⟩) (.inl rfl) _).setCell (p := ⟨rb, 5, none⟩) (.inl rfl) _))
      have HR8 : Hid (Blk ((((((w3.setCell ⟨rb, 0, none⟩ (.int .i64 0)).setCell ⟨rb, 1, none⟩ (.bool false)).setCell ⟨rb, 2, none⟩ (.int .i64 0)).setCell ⟨rb, 3, none⟩ (.string ⟨#[]⟩)).setCell ⟨rb, 4, none⟩ (.slice none 0 0)).setCell ⟨rb, 5, none⟩ (.slice none 0 0)).drew rb 30 #[.int .i64 0, .bool false, .int .i64 0, .string ⟨#[]⟩, .slice none 0 0, .slice none 0 0]) := hId (((((((HR.out.set 0 (.int .i64 0)).set 1 (.bool false)).set 2 (.int .i64 0)).set 3 (.string ⟨#[]⟩)).set 4 (.slice none 0 0)).set 5 (.slice none 0 0)).mod ((Mod.refl (fun _ => False) _).drew) (fun e => e))
      clear r0 r1 r2 r3 r4 r5 rf rl
      generalize ((((((w3.setCell ⟨rb, 0, none⟩ (.int .i64 0)).setCell ⟨rb, 1, none⟩ (.bool false)).setCell ⟨rb, 2, none⟩ (.int .i64 0)).setCell ⟨rb, 3, none⟩ (.string ⟨#[]⟩)).setCell ⟨rb, 4, none⟩ (.slice none 0 0)).setCell ⟨rb, 5, none⟩ (.slice none 0 0)).drew = w8 at *
      refine hK.out _ _ HM8.out (fun hHeld => ?_)
      clear hK K
      (try simp only [Act.put, lgt, lgz, lgs, lst, lsz, lss])
      refine wpAnyH_take (i := 6) (v := ?_) rfl (by kernel_rfl) (by kernel_rfl) (by kernel_rfl) (fun _ _ _ h => h) (Or.inl ⟨by rfl, fun W hSw => ?_⟩) (by assumption) ?_
      rotate_left
      · (have hq := HSX.out W hSw); (try simp only [lgt, lgz, lgs]); go_simp; any_goals (with_reducible rfl)
      simp only [Act.put, lgt, lgz, lgs, lst, lsz, lss]
      refine wpAnyH_take (i := 7) (v := ?_) rfl (by kernel_rfl) (by kernel_rfl) (by kernel_rfl) (fun _ _ _ h => h) (Or.inl ⟨by rfl, fun W hSw => ?_⟩) (by assumption) ?_
      rotate_left
      · (have hq := HSX.out W hSw); (try simp only [lgt, lgz, lgs]); go_simp; any_goals (with_reducible rfl)
      simp only [Act.put, lgt, lgz, lgs, lst, lsz, lss]
      refine wpAnyH_done (by kernel_rfl) ?_ _
      clear hHeld
      go_wp2_with fail
      have r0 := HR8.out.cell 0
      have r1 := HR8.out.cell 1
      have r2 := HR8.out.cell 2
      have r3 := HR8.out.cell 3
      have r4 := HR8.out.cell 4
      have r5 := HR8.out.cell 5
      have rf := HR8.out.frozen
      have rl := HR8.out.lt
      simp only [lqt, lqz, lqs] at r0 r1 r2 r3 r4 r5
      refine bodyPost_ret (v := .tuple #[VA.val zeroA, .int .i64 (q : Int), .int .i64 9]) (by simp [results, Tryz.results5, go_sem, r0, r1, r2, r3, r4, r5, rf, rl, VA.val, zeroA]) rfl ?_
      exact ⟨HM3.out.step HM8.out (fun k hk e => by have := HRB.out; omega), _, zeroV, _, _, rfl, by unfold RdRes; rw [if_neg hbig]; exact ⟨x, HX.out.1, HX.out.2, by rw [HY.out]; exact outS_bad q⟩, leafTree _ _ (by omega) _ _ _ _, zero_fit _⟩
    | fin v i =>
      clear hny
      obtain ⟨r, hri, hin, hdn, hbd, hblk, htree⟩ := hat
      obtain ⟨i', sk, sn, sc, begins, done, ⟨ok, of, on, ow, ola, oln, olc, oma, omn, omc⟩, bad, pl⟩ := r
      simp only at hri hbd hdn htree
      subst hri hbd hdn
      have HBLK := hId hblk
      have c11 := hblk.cell 11
      have c5 := hblk.cell 5
      have c6 := hblk.cell 6
      have c7 := hblk.cell 7
      have c8 := hblk.cell 8
      have c9 := hblk.cell 9
      have c10 := hblk.cell 10
      have bl := hblk.lt
      simp only [RV.cells, lqt, lqz, lqs] at c11 c5 c6 c7 c8 c9 c10
      have hft := fin_fit HOKY.out (by omega) i'
      have HTR := hId htree
      have hck := check_v i' ⟨ok, of, on, ow, ola, oln, olc, oma, omn, omc⟩ v (notIn b []) w3 htree hft (HU.out.new HM3.out)
      simp only [VA.val] at hck
      clear hblk htree hft
      go_wp2_with fail
      refine hck.mono ?_
      clear hck
      rintro e w4 ⟨rfl, hm4⟩
      have HM4 : Hid (New w w4) := hId (HM3.out.trans hm4)
      have HR := hId (HR.out.mod hm4 (fun e => e))
      have HTR := hId (HTR.out.new hm4)
      have HBLK := hId (HBLK.out.mod hm4 (fun e => e))
      clear hm4 c11 c5 c6 c7 c8 c9 c10 bl
      have c5 := HBLK.out.cell 5
      have c6 := HBLK.out.cell 6
      have c7 := HBLK.out.cell 7
      have c8 := HBLK.out.cell 8
      have c9 := HBLK.out.cell 9
      have c10 := HBLK.out.cell 10
      have bl := HBLK.out.lt
      simp only [RV.cells, lqt, lqz, lqs] at c5 c6 c7 c8 c9 c10
      have r0 := HR.out.cell 0
      have r1 := HR.out.cell 1
      have r2 := HR.out.cell 2
      have r3 := HR.out.cell 3
      have r4 := HR.out.cell 4
      have r5 := HR.out.cell 5
      have rf := HR.out.frozen
      have rl := HR.out.lt
      simp only [lqt, lqz, lqs] at r0 r1 r2 r3 r4 r5
      have hne : b ≠ rb := by omega
      have HOUT : Hid (∀ v2 p f, outS (.fin v i') v2 p f → RdRes s v2 p f) := hId (fun v2 p f h => by
        unfold RdRes
        rw [if_neg hbig]
        exact ⟨x, HX.out.1, HX.out.2, by rw [HY.out]; exact h⟩)
      by_cases hvc : vCheck i' v = 0
      · have hvb : ((vCheck i' v) != 0) = false := by simp [hvc]
        have HV : Hid (outS (.fin v i') v 0 0) := hId (outS_ok hvc)
        clear hvc
        generalize vCheck i' v = ck at *
        go_wp2_with fail
        have HW9 : Hid (Mod (fun k => k = rb) w4 ((((((w4.setCell ⟨rb, 0, none⟩ (.int .i64 ok)).setCell ⟨rb, 1, none⟩ (.bool of)).setCell ⟨rb, 2, none⟩ (.int .i64 on)).setCell ⟨rb, 3, none⟩ (.string ow)).setCell ⟨rb, 4, none⟩ (.slice ola oln olc)).setCell ⟨rb, 5, none⟩ (.slice oma omn omc))) := hId (((((((Mod.refl (fun k => k = rb) w4).setCell (p := ⟨rb, 0, none⟩) (.inl rfl) _).setCell (p := ⟨rb, 1, none⟩) (.inl rfl) _).setCell (p := ⟨rb, 2, none⟩) (.inl rfl) _).setCell (p := ⟨rb, 3, none⟩) (.inl rfl) _).setCell (p := ⟨rb, 4, none⟩) (.inl rfl) _).setCell (p := ⟨rb, 5, none⟩) (.inl rfl) _)
        have HR9 : Hid (Blk ((((((w4.setCell ⟨rb, 0, none⟩ (.int .i64 ok)).setCell ⟨rb, 1, none⟩ (.bool of)).setCell ⟨rb, 2, none⟩ (.int .i64 on)).setCell ⟨rb, 3, none⟩ (.string ow)).setCell ⟨rb, 4, none⟩ (.slice ola oln olc)).setCell ⟨rb, 5, none⟩ (.slice oma omn omc)) rb 30 #[(.int .i64 ok), (.bool of), (.int .i64 on), (.string ow), (.slice ola oln olc), (.slice oma omn omc)]) := hId ((((((HR.out.set 0 (.int .i64 ok)).set 1 (.bool of)).set 2 (.int .i64 on)).set 3 (.string ow)).set 4 (.slice ola oln olc)).set 5 (.slice oma omn omc))
        clear r0 r1 r2 r3 r4 r5 rf rl
        generalize ((((((w4.setCell ⟨rb, 0, none⟩ (.int .i64 ok)).setCell ⟨rb, 1, none⟩ (.bool of)).setCell ⟨rb, 2, none⟩ (.int .i64 on)).setCell ⟨rb, 3, none⟩ (.string ow)).setCell ⟨rb, 4, none⟩ (.slice ola oln olc)).setCell ⟨rb, 5, none⟩ (.slice oma omn omc)) = w9 at *
        have r0 := HR9.out.cell 0
        have r1 := HR9.out.cell 1
        have r2 := HR9.out.cell 2
        have r3 := HR9.out.cell 3
        have r4 := HR9.out.cell 4
        have r5 := HR9.out.cell 5
        have rf := HR9.out.frozen
        have rl := HR9.out.lt
        simp only [lqt, lqz, lqs] at r0 r1 r2 r3 r4 r5
        refine bodyPost_ret (v := .tuple #[VA.val (⟨ok, of, on, ow, ola, oln, olc, oma, omn, omc⟩ : VA), .int .i64 0, .int .i64 0]) (by simp [results, Tryz.results5, go_sem, r0, r1, r2, r3, r4, r5, rf, rl, VA.val, zeroA]) rfl ?_
        exact ⟨HM4.out.step HW9.out (fun k hk e => by have := HRB.out; omega), _, _, _, _, rfl, HOUT.out _ _ _ HV.out, Tree.imp (fun _ _ _ => trivial) _ _ _ (Tree.upto (by have h1 : i' ≤ s.data.toList.length := HOKY.out.1; have h2 : s.data.toList.length = s.size := rfl; omega) (Tree.mod HW9.out (fun g hg _ e => by have h1 := hg.1; omega) _ _ _ HTR.out)), fin_fit HOKY.out (by omega) _⟩
      · have hvb : ((vCheck i' v) != 0) = true := by simp [hvc]
        have HV : Hid (outS (.fin v i') zeroV 0 (vCheck i' v)) := hId (outS_no hvc)
        clear hvc
        generalize vCheck i' v = ck at *
        go_wp2_with fail
        have HW9 : Hid (Mod (fun k => k = rb) w4 ((((((w4.setCell ⟨rb, 0, none⟩ (.int .i64 0)).setCell ⟨rb, 1, none⟩ (.bool false)).setCell ⟨rb, 2, none⟩ (.int .i64 0)).setCell ⟨rb, 3, none⟩ (.string ⟨#[]⟩)).setCell ⟨rb, 4, none⟩ (.slice none 0 0)).setCell ⟨rb, 5, none⟩ (.slice none 0 0))) := hId (((((((Mod.refl (fun k => k = rb) w4).setCell (p := ⟨rb, 0, none⟩) (.inl rfl) _).setCell (p := ⟨rb, 1, none⟩) (.inl rfl) _).setCell (p := ⟨rb, 2, none⟩) (.inl rfl) _).setCell (p := ⟨rb, 3, none⟩) (.inl rfl) _).setCell (p := ⟨rb, 4, none⟩) (.inl rfl) _).setCell (p := ⟨rb, 5, none⟩) (.inl rfl) _)
        have HR9 : Hid (Blk ((((((w4.setCell ⟨rb, 0, none⟩ (.int .i64 0)).setCell ⟨rb, 1, none⟩ (.bool false)).setCell ⟨rb, 2, none⟩ (.int .i64 0)).setCell ⟨rb, 3, none⟩ (.string ⟨#[]⟩)).setCell ⟨rb, 4, none⟩ (.slice none 0 0)).setCell ⟨rb, 5, none⟩ (.slice none 0 0)) rb 30 #[(.int .i64 0), (.bool false), (.int .i64 0), (.string ⟨#[]⟩), (.slice none 0 0), (.slice none 0 0)]) := hId ((((((HR.out.set 0 (.int .i64 0)).set 1 (.bool false)).set 2 (.int .i64 0)).set 3 (.string ⟨#[]⟩)).set 4 (.slice none 0 0)).set 5 (.slice none 0 0))
        clear r0 r1 r2 r3 r4 r5 rf rl
        generalize ((((((w4.setCell ⟨rb, 0, none⟩ (.int .i64 0)).setCell ⟨rb, 1, none⟩ (.bool false)).setCell ⟨rb, 2, none⟩ (.int .i64 0)).setCell ⟨rb, 3, none⟩ (.string ⟨#[]⟩)).setCell ⟨rb, 4, none⟩ (.slice none 0 0)).setCell ⟨rb, 5, none⟩ (.slice none 0 0)) = w9 at *
        have r0 := HR9.out.cell 0
        have r1 := HR9.out.cell 1
        have r2 := HR9.out.cell 2
        have r3 := HR9.out.cell 3
        have r4 := HR9.out.cell 4
        have r5 := HR9.out.cell 5
        have rf := HR9.out.frozen
        have rl := HR9.out.lt
        simp only [lqt, lqz, lqs] at r0 r1 r2 r3 r4 r5
        refine bodyPost_ret (v := .tuple #[VA.val zeroA, .int .i64 0, .int .i64 ck]) (by simp [results, Tryz.results5, go_sem, r0, r1, r2, r3, r4, r5, rf, rl, VA.val, zeroA]) rfl ?_
        exact ⟨HM4.out.step HW9.out (fun k hk e => by have := HRB.out; omega), _, zeroV, _, _, rfl, HOUT.out _ _ _ HV.out, leafTree _ _ (by omega) _ _ _ _, zero_fit _⟩

theorem rp_disable (w : World) : (callFunc 156 #[]).run Tryz.prog w = .ok (.value (.tuple #[])) w := run_call_mark0 Tryz.func156 (by kernel_rfl) (by kernel_rfl) (by kernel_rfl) .disable (by kernel_rfl) w
theorem rp_enable (w : World) : (callFunc 158 #[]).run Tryz.prog w = .ok (.value (.tuple #[])) w := run_call_mark0 Tryz.func158 (by kernel_rfl) (by kernel_rfl) (by kernel_rfl) .enable (by kernel_rfl) w
theorem rp_acquire (a : Addr) (w : World) : (callFunc 159 #[.pointer (some a)]).run Tryz.prog w = .ok (.value (.tuple #[])) w := run_call_marked Tryz.func159 (by kernel_rfl) (by kernel_rfl) (by kernel_rfl) .acquire (by kernel_rfl) a w
theorem rp_releaseMerge (a : Addr) (w : World) : (callFunc 161 #[.pointer (some a)]).run Tryz.prog w = .ok (.value (.tuple #[])) w := run_call_marked Tryz.func161 (by kernel_rfl) (by kernel_rfl) (by kernel_rfl) .releaseMerge (by kernel_rfl) a w
theorem rp_store (a : Addr) (x : Value) (u : FrameMode) (w : World) (hc : w.cell? a = some x) (hz : w.frozen? a = false) :
    CallsD Tryz.prog 95 #[.pointer (some a), .bool true] u w fun e u' w' => u' = u ∧ (e = .returned (.tuple #[]) ∧ w' = w.drew.setCell a (.int .u32 1)) := by
  have hc' : w.drew.cell? a = some x := by go_simp
  have hz' : w.drew.frozen? a = false := by go_simp
  have hst := run_call_store (P := Tryz.prog) Tryz.func134 (by kernel_rfl) (by kernel_rfl) (by kernel_rfl) (by kernel_rfl) (k := .u32) (y := 1) hc' hz'
  go_enter_d Tryz.func95, Tryz.ntmps95
  go_wp2
  go_region_calls
  all_goals (go_end0; exact ⟨rfl, rfl⟩)
set_option maxRecDepth 100000 in
set_option maxHeartbeats 1000000 in
theorem rp_unlock (a : Addr) (u : FrameMode) (w : World) (hc : w.cell? a = some (.int .i32 1)) (hz : w.frozen? a = false) :
    CallsD Tryz.prog 94 #[.pointer (some a)] u w fun e u' w' => u' = u ∧ (e = .returned (.tuple #[]) ∧ w' = w.setCell a (.int .i32 0)) := by
  have hd := rp_disable
  have he := rp_enable
  have hr := rp_releaseMerge
  have hadd := run_call_add (P := Tryz.prog) Tryz.func162 (by kernel_rfl) (by kernel_rfl) (by kernel_rfl) .i32 (by kernel_rfl) (y := -1) (s := 0) hc hz (by simp [go_sem]; rfl)
  have hcv := run_convert_to_unsafe (P := Tryz.prog) (src := 218) (dst := 189) Tryz.underlying218 Tryz.underlying189 (by kernel_rfl) hc
  go_enter_d Tryz.func94, Tryz.ntmps94
  go_wp2
  go_end0
  go_wp2
  go_end0
  exact ⟨rfl, rfl⟩
set_option maxRecDepth 100000 in
set_option maxHeartbeats 1000000 in
theorem rp_lock (a : Addr) (w : World) (hc : w.cell? a = some (.int .i32 0)) (hz : w.frozen? a = false) :
    Calls Tryz.prog 93 #[.pointer (some a)] w fun e w' => e = .returned (.tuple #[]) ∧ w' = w.setCell a (.int .i32 1) := by
  have hd := rp_disable
  have he := rp_enable
  have ha := rp_acquire
  have hcas := run_call_cas_hit (P := Tryz.prog) Tryz.func157 (by kernel_rfl) (by kernel_rfl) (by kernel_rfl) .i32 (by kernel_rfl) (y := 1) hc hz
  have hc' : (w.setCell a (.int .i32 1)).cell? a = some (.int .i32 1) := World.cell?_setCell_same w a _ hc
  have hcv := run_convert_to_unsafe (P := Tryz.prog) (src := 218) (dst := 189) Tryz.underlying218 Tryz.underlying189 (by kernel_rfl) hc'
  go_enter Tryz.func93, Tryz.ntmps93
  go_wp2
  first | go_end0 | (simp only [Exit.inBlock, Exit.then]; refine bodyPost_ret (results_none rfl _ _ _) rfl ?_) | refine bodyPost_ret (results_none rfl _ _ _) rfl ?_
  go_wp2
  go_end0
  exact ⟨rfl, rfl⟩

theorem rp_load (a : Addr) (x : Int) (w : World) (hc : w.cell? a = some (.int .u32 x)) : Calls Tryz.prog 61 #[.pointer (some a)] w fun e w' => e = .returned (.bool (x != 0)) ∧ w' = w := by
  have hl := run_call_load (P := Tryz.prog) Tryz.func92 (by kernel_rfl) (by kernel_rfl) (by kernel_rfl) .u32 (by kernel_rfl) hc
  go_enter Tryz.func61, Tryz.ntmps61
  go_wp2
  go_ret
  exact ⟨rfl, rfl⟩
set_option maxRecDepth 100000 in
set_option maxHeartbeats 1600000 in
theorem rp_slow (b : Nat) (w : World) (R : World → Prop) (h0 : w.cell? ⟨b, 0, none⟩ = some (.int .u32 0)) (h1 : w.cell? ⟨b, 1, none⟩ = some (.int .i32 0)) (f1 : w.frozen? ⟨b, 1, none⟩ = false)
    (hcall : Calls Tryz.prog 33 #[.pointer (some ⟨b, 0, none⟩)] (w.setCell ⟨b, 1, none⟩ (.int .i32 1)) fun e w' => e = .returned (.tuple #[]) ∧ R w')
    (hR : ∀ w', R w' → (∃ x, w'.cell? ⟨b, 0, none⟩ = some x) ∧ w'.frozen? ⟨b, 0, none⟩ = false ∧ w'.cell? ⟨b, 1, none⟩ = some (.int .i32 1) ∧ w'.frozen? ⟨b, 1, none⟩ = false) :
    Calls Tryz.prog 62 #[.pointer (some ⟨b, 0, none⟩), .func (.func 33) #[.pointer (some ⟨b, 0, none⟩)] #[]] w fun e w' => e = .returned (.tuple #[]) ∧
      ∃ w1, R w1 ∧ w' = (w1.drew.setCell ⟨b, 0, none⟩ (.int .u32 1)).setCell ⟨b, 1, none⟩ (.int .i32 0) := by
  have hl := rp_load ⟨b, 0, none⟩ 0 (w.setCell ⟨b, 1, none⟩ (.int .i32 1)) ((World.cell?_setCell_other _ ⟨b, 1, none⟩ ⟨b, 0, none⟩ _ (by simp)).trans h0)
  have hnot : ∀ (x : Bool) (w : World), (Op.unary .not (.bool x)).run Tryz.prog w = .ok (.bool (!x)) w := fun _ _ => rfl
  go_enter_defers Tryz.func62, Tryz.ntmps62
  go_wp2_with (first | (go_at_call 93; refine (rp_lock ⟨b, 1, none⟩ _ (by go_simp) (by go_simp)).mono ?_; rintro e w' ⟨rfl, rfl⟩) | fail)
  refine hl.mono ?_
  clear hl
  rintro e w' ⟨rfl, rfl⟩
  go_wp2_with fail
  refine hcall.mono ?_
  clear hcall
  rintro e w1 ⟨rfl, hr⟩
  obtain ⟨⟨x, a0⟩, z0, a1, z1⟩ := hR w1 hr
  have HR1 := hId hr
  clear hR hr
  go_wp2_with fail
  (try go_end0)
  (try go_wp2)
  refine leaves_cons (f := 95) (args := #[.pointer (some ⟨b, 0, none⟩), .bool true]) (by simp) (by simp [go_sem]) ?_
  refine (rp_store ⟨b, 0, none⟩ x .returning _ (by simpa using a0) (by simpa using z0)).mono ?_
  rintro e u' w'' ⟨rfl, rfl, rfl⟩
  refine leaves_cons (f := 94) (args := #[.pointer (some ⟨b, 1, none⟩)]) (by simp [settle]) (by simp [go_sem]) ?_
  refine (rp_unlock ⟨b, 1, none⟩ _ _ ?_ (by simp [z1])).mono ?_
  · refine (World.cell?_setCell_other _ ⟨b, 0, none⟩ ⟨b, 1, none⟩ _ (by simp)).trans ?_
    rw [World.cell?_drew]
    exact a1
  rintro e u' w'' ⟨rfl, rfl, rfl⟩
  simp [Leaves, settle, results, Tryz.results62]
  exact ⟨w1, HR1.out, rfl⟩
set_option maxRecDepth 100000 in
set_option maxHeartbeats 1600000 in
theorem rp_do (b : Nat) (w : World) (R : World → Prop) (h0 : w.cell? ⟨b, 0, none⟩ = some (.int .u32 0)) (h1 : w.cell? ⟨b, 1, none⟩ = some (.int .i32 0)) (f1 : w.frozen? ⟨b, 1, none⟩ = false)
    (hcall : Calls Tryz.prog 33 #[.pointer (some ⟨b, 0, none⟩)] (w.setCell ⟨b, 1, none⟩ (.int .i32 1)) fun e w' => e = .returned (.tuple #[]) ∧ R w')
    (hR : ∀ w', R w' → (∃ x, w'.cell? ⟨b, 0, none⟩ = some x) ∧ w'.frozen? ⟨b, 0, none⟩ = false ∧ w'.cell? ⟨b, 1, none⟩ = some (.int .i32 1) ∧ w'.frozen? ⟨b, 1, none⟩ = false) :
    Calls Tryz.prog 32 #[.pointer (some ⟨b, 0, none⟩), .func (.func 33) #[.pointer (some ⟨b, 0, none⟩)] #[]] w fun e w' => e = .returned (.tuple #[]) ∧
      ∃ w1, R w1 ∧ w' = (w1.drew.setCell ⟨b, 0, none⟩ (.int .u32 1)).setCell ⟨b, 1, none⟩ (.int .i32 0) := by
  have hl := rp_load ⟨b, 0, none⟩ 0 w h0
  have hs := rp_slow b w R h0 h1 f1 hcall hR
  have hnot : ∀ (x : Bool) (w : World), (Op.unary .not (.bool x)).run Tryz.prog w = .ok (.bool (!x)) w := fun _ _ => rfl
  clear hcall hR
  go_enter Tryz.func32, Tryz.ntmps32
  go_wp2_with fail
  refine hl.mono ?_
  clear hl
  rintro e w' ⟨rfl, rfl⟩
  go_wp2_with fail
  refine hs.mono ?_
  clear hs
  rintro e w' ⟨rfl, hx⟩
  have HX := hId hx
  clear hx
  go_wp2_with fail
  go_end0
  exact ⟨rfl, HX.out⟩
end Go.Proofs.YtjmnkdkdjnmejaaGreatDoor
