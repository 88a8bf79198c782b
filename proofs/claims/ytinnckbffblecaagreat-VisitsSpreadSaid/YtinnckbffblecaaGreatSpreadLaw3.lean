/- The plain law of Spread, third part: the two players stay alike. No program in sight. Conditions: right arguments. -/
import Derived.Test.YtinnckbffblecaaGreatSpreadLaw2
namespace Go.Proofs.YtinnckbffblecaaGreat
open Go.RowKit
set_option linter.unusedVariables false
set_option linter.unusedSimpArgs false

section
variable {l : Lim} {D T τ : Int} {k : Nat} {p : PSt} {q : QSt}

theorem Sim.evs (h : Sim l D τ k p q) : (p.os.map (Ord.ev D)).Perm (q.ls.map Let.ev) := by
  have := (h.perm.map Let.ev).symm
  rw [List.map_map] at this
  have e : (Let.ev ∘ Ord.let_ l.per D) = Ord.ev D := by funext o; exact Ord.let_ev l.per D o
  rwa [e] at this
theorem Sim.evnd (h : Sim l D τ k p q) : ((p.os.map (Ord.ev D)).map (·.gate)).Nodup := by
  rw [List.map_map]; exact h.nodup

/-- the next thing is the same for both -/
theorem Sim.pick (h : Sim l D τ k p q) {i : Nat} (hp : pick T (p.os.map (Ord.ev D)) = some i) :
    ∃ kk o, Go.Proofs.YtinnckbffblecaaGreat.pick T (q.ls.map Let.ev) = some kk ∧ p.os[i]? = some o ∧ q.ls[kk]? = some (o.let_ l.per D) ∧ o.next D ≤ T ∧ ∀ o' ∈ p.os, o.next D ≤ o'.next D := by
  obtain ⟨kk, e, h1, h2, h3, h4, h5⟩ := pick_perm h.evs h.evnd hp
  rw [List.getElem?_map, Option.map_eq_some_iff] at h2 h3
  obtain ⟨o, ho, rfl⟩ := h2
  obtain ⟨x, hx, hxe⟩ := h3
  refine ⟨kk, o, h1, ho, ?_, h4, fun o' ho' => ?_⟩
  · have hxm : x ∈ p.os.map (Ord.let_ l.per D) := h.perm.mem_iff.1 (List.mem_of_getElem? hx)
    obtain ⟨o', ho', rfl⟩ := List.mem_map.1 hxm
    rw [Ord.let_ev] at hxe
    have : o'.gate = o.gate := congrArg Ev.gate hxe
    rw [nodup_inj h.nodup ho' (List.mem_of_getElem? ho) this] at hx
    exact hx
  · rcases Int.lt_or_le T (o'.next D) with hlt | hle
    · have : (Ord.ev D o).at_ = o.next D := rfl
      omega
    · exact h5 _ (List.mem_map.2 ⟨o', ho', rfl⟩) hle

theorem given_there (h : Sim l D τ k p q) {t : Int} (ht : τ ≤ t) (hl : WLim l) : q.given (t / l.per) = isum (thereG l p.cs t) := by
  have hn := h.now
  have hper := hl.per
  have hle : p.cs.now / l.per ≤ t / l.per := Int.ediv_le_ediv (by omega) (by omega)
  rw [h.given _ hle]
  unfold thereG
  split
  · rfl
  · simp [isum]

theorem lease_ok {s : CS} (hok : s.Ok l) (hl : WLim l) {t want : Int} (gate : ByteArray) (ht0 : 0 ≤ t) (ht1 : t < 345686400000) (hw : 1 ≤ want) :
    (leaseS l s t gate want).Ok l ∧ 0 ≤ leaseN l s t want ∧ leaseN l s t want ≤ want ∧ isum (leaseS l s t gate want).g = isum (thereG l s t) + leaseN l s t want := by
  obtain ⟨h1, h2, h3, h4⟩ := thereG_ok hok hl t
  have hg := igot_le h1 gate
  have hn : 0 ≤ leaseN l s t want ∧ leaseN l s t want ≤ want ∧ leaseN l s t want ≤ l.most - isum (thereG l s t) := by unfold leaseN; omega
  have hs : isum (iput (thereG l s t) gate (igot (thereG l s t) gate + leaseN l s t want)) = isum (thereG l s t) + leaseN l s t want := by
    rw [isum_iput h3]; omega
  refine ⟨⟨ht0, ht1, iput_nonneg h1 (by omega), ?_, iput_nodup h3⟩, hn.1, hn.2.1, hs⟩
  show isum (iput _ _ _) ≤ _
  rw [hs]; omega

theorem Sim.step (h : Sim l D τ k p q) (hl : WLim l) (hD : 0 ≤ D) (hT : T < 345686400000) {i : Nat} (hp : Go.Proofs.YtinnckbffblecaaGreat.pick T (p.os.map (Ord.ev D)) = some i) :
    ∃ kk τ', Go.Proofs.YtinnckbffblecaaGreat.pick T (q.ls.map Let.ev) = some kk ∧ τ ≤ τ' ∧ τ' ≤ T ∧ Sim l D τ' k (happenP l D p i) (runStepQ l D q kk) := by
  obtain ⟨kk, o, hk, ho, hx, hle, hmin⟩ := h.pick hp
  have hom := List.mem_of_getElem? ho
  have hil := lt_of_some ho
  have hτ := h.nxt o hom
  have ha := h.asked o hom
  have ht0 := h.t0
  have hper := hl.per
  refine ⟨kk, o.next D, hk, hτ, hle, ?_⟩
  have hpe : (q.ls.eraseIdx kk).Perm ((p.os.eraseIdx i).map (Ord.let_ l.per D)) := by
    have h1 := (eraseIdx_perm hx).symm.trans h.perm
    exact (h1.trans ((eraseIdx_perm ho).map _)).cons_inv
  have hdiv : τ / l.per ≤ o.next D / l.per := Int.ediv_le_ediv (by omega) hτ
  have hzero : ∀ {x : List Ord}, D = 0 → x = [] := fun e => by have := h.zero e; rw [this] at ho; simp at ho
  unfold happenP runStepQ
  rw [ho, hx]
  cases hd : o.done
  · -- the center gives
    have hnx : o.next D = o.asked + D := by simp [Ord.next, hd]
    have hlet : o.let_ l.per D = ⟨o.asked, o.asked + D, o.gate, o.want, false, 0⟩ := by simp [Ord.let_, hd]
    have hg := given_there h hτ hl
    have hgn : giveN l q (o.next D / l.per) o.want = leaseN l p.cs (o.next D) o.want := by unfold giveN leaseN; rw [hg]
    obtain ⟨L1, L2, L3, L4⟩ := lease_ok (t := o.next D) (want := o.want) h.ok hl o.gate (by omega) (by omega) (by omega)
    simp only [hlet, hd, Bool.false_eq_true, if_false]
    rw [← hnx]
    have hgates : (p.os.set i ⟨o.asked, o.want, o.gate, leaseN l p.cs (o.next D) o.want, true⟩).map (·.gate) = p.os.map (·.gate) := by
      rw [List.map_set]
      have : (p.os.map (·.gate))[i]? = some o.gate := by rw [List.getElem?_map, ho]; rfl
      apply List.ext_getElem?
      intro j
      rw [List.getElem?_set]
      split
      · rename_i e; subst e; rw [this]; simp [hil]
      · rfl
    have hmem : ∀ o' ∈ p.os.set i ⟨o.asked, o.want, o.gate, leaseN l p.cs (o.next D) o.want, true⟩, o' = ⟨o.asked, o.want, o.gate, leaseN l p.cs (o.next D) o.want, true⟩ ∨ o' ∈ p.os := by
      intro o' ho'
      rcases List.mem_or_eq_of_mem_set ho' with h | h
      · exact .inr h
      · exact .inl h
    refine ⟨?_, ?_, ?_, h.gates, ?_, ?_, ?_, L1, ?_, ?_, h.stk0, h.qstk, ?_, ?_, by omega, hzero⟩
    · show (q.ls.eraseIdx kk ++ [_]).Perm _
      refine (List.perm_append_singleton _ _).trans ?_
      refine List.Perm.trans ?_ ((set_perm _ hil).map _).symm
      simp only [List.map_cons]
      have : Ord.let_ l.per D ⟨o.asked, o.want, o.gate, leaseN l p.cs (o.next D) o.want, true⟩ = ⟨o.asked, o.next D + D, o.gate, giveN l q (o.next D / l.per) o.want, true, o.next D / l.per⟩ := by
        rw [hgn]
        simp only [Ord.let_, if_true, Let.mk.injEq, true_and, and_true]
        rw [hnx]
        refine ⟨by omega, rfl⟩
      rw [this]
      exact hpe.cons _
    · show (List.map _ (p.os.set i _)).Nodup
      rw [hgates]; exact h.nodup
    · intro g
      show q.waits g = true ↔ g ∈ (p.os.set i _).map _
      rw [hgates]; exact h.waits g
    · intro g; exact Int.le_trans (h.winle g) hdiv
    · intro W hW
      show upd q.given (o.next D / l.per) _ W = _
      have hW' : o.next D / l.per ≤ W := hW
      have hnow : (leaseS l p.cs (o.next D) o.gate o.want).now = o.next D := rfl
      simp only [hnow]
      by_cases e : W = o.next D / l.per
      · subst e
        rw [upd_same, if_pos rfl, L4, hg, hgn]
      · rw [upd_ne _ _ e, if_neg e]
        have h1 : p.cs.now / l.per ≤ o.next D / l.per := Int.ediv_le_ediv (by omega) (by have := h.now; omega)
        rw [h.given W (by omega), if_neg (by omega)]
    · exact Int.le_refl _
    · intro o' ho'
      rcases hmem o' ho' with rfl | hm
      · show o.next D ≤ Ord.next D ⟨o.asked, o.want, o.gate, leaseN l p.cs (o.next D) o.want, true⟩
        rw [hnx]; simp only [Ord.next, if_true]; omega
      · exact hmin o' hm
    · intro o' ho'
      rcases hmem o' ho' with rfl | hm
      · refine ⟨ha.1, by show o.asked ≤ o.next D; omega, ha.2.2.1, ha.2.2.2.1, L2, by have := ha.2.2.2.1; simp only; omega⟩
      · have := h.asked o' hm; omega
    · intro g; have := h.stk1 g; simpa using this
    · intro g; have := h.qstk1 g; show q.stock g + 1000000000 * ((p.os.set i _).length : Int) ≤ _; rw [List.length_set]; exact this
  · -- the gateway gets it
    have hnx : o.next D = o.asked + 2 * D := by simp [Ord.next, hd]
    have hlet : o.let_ l.per D = ⟨o.asked, o.asked + 2 * D, o.gate, o.given, true, (o.asked + D) / l.per⟩ := by simp [Ord.let_, hd]
    simp only [hlet, hd, if_true]
    rw [← hnx]
    have hgp : (p.os.map (·.gate)).Perm (o.gate :: (p.os.eraseIdx i).map (·.gate)) := (eraseIdx_perm ho).map _
    have hnd2 : (o.gate :: (p.os.eraseIdx i).map (·.gate)).Nodup := hgp.nodup_iff.1 h.nodup
    have hmem : ∀ o' ∈ p.os.eraseIdx i, o' ∈ p.os := fun o' ho' => List.mem_of_mem_eraseIdx ho'
    have hlen : (p.os.eraseIdx i).length + 1 = p.os.length := by rw [List.length_eraseIdx, if_pos hil]; omega
    have hwin := h.winle o.gate
    have hwle := h.winle o.gate
    have hgr := h.gates o.gate
    have hs0 := h.stk0 o.gate
    have hq0 := h.qstk o.gate
    obtain ⟨b1, b2, b3, b4⟩ := backP_eq l D p o
    obtain ⟨g1, g2, g3⟩ := getQ_rest l { q with ls := q.ls.eraseIdx kk } o.gate ((o.asked + D) / l.per) o.given (o.next D)
    have g4 := getQ_of l { q with ls := q.ls.eraseIdx kk } o.gate ((o.asked + D) / l.per) o.given (o.next D)
    have g5 := getQ_stock l { q with ls := q.ls.eraseIdx kk } o.gate ((o.asked + D) / l.per) o.given (o.next D)
    simp only at g1 g2 g3 g4 g5
    refine ⟨?_, ?_, ?_, ?_, ?_, ?_, ?_, ?_, ?_, ?_, ?_, ?_, ?_, ?_, by omega, hzero⟩
    · simp only [g3]; exact hpe
    · exact (List.nodup_cons.1 hnd2).2
    · intro g
      by_cases e : g = o.gate
      · subst e; simp only [upd_same]; exact ⟨fun h => by simp at h, fun h => absurd h (List.nodup_cons.1 hnd2).1⟩
      · simp only [upd_ne _ _ e]
        rw [h.waits g, hgp.mem_iff, List.mem_cons]
        exact ⟨fun h => h.resolve_left e, .inr⟩
    · intro g
      simp only [b3, b4, g4, g5]
      by_cases e : g = o.gate
      · subst e
        simp only [upd_same]
        by_cases c3 : (o.asked + D) / l.per = o.next D / l.per
        · rw [if_pos c3, if_pos c3.symm, if_pos c3.symm]
          left
          refine ⟨rfl, ?_⟩
          split <;> split <;> omega
        · have c3' : ¬ o.next D / l.per = (o.asked + D) / l.per := fun e => c3 e.symm
          rw [if_neg c3, if_neg c3', if_neg c3']
          split <;> omega
      · simp only [upd_ne _ _ e]; exact h.gates g
    · intro g
      simp only [b3]
      by_cases e : g = o.gate
      · subst e; rw [upd_same]; exact Int.le_refl _
      · rw [upd_ne _ _ e]; exact Int.le_trans (h.winle g) hdiv
    · simp only [b1, g1]; exact h.given
    · simp only [b1]; have := h.now; omega
    · simp only [b1]; exact h.ok
    · intro o' ho'; exact hmin o' (hmem o' ho')
    · intro o' ho'; have := h.asked o' (hmem o' ho'); omega
    · intro g
      simp only [b4]
      by_cases e : g = o.gate
      · subst e; rw [upd_same]; split <;> split <;> omega
      · rw [upd_ne _ _ e]; exact h.stk0 g
    · intro g
      simp only [g5]
      by_cases e : g = o.gate
      · subst e; rw [upd_same]; split <;> (try split) <;> omega
      · rw [upd_ne _ _ e]; exact h.qstk g
    · intro g
      have hk1 := h.stk1 g
      simp only [b4]
      by_cases e : g = o.gate
      · subst e; rw [upd_same]; split <;> split <;> omega
      · rw [upd_ne _ _ e]; omega
    · intro g
      have hk1 := h.qstk1 g
      simp only [g5]
      by_cases e : g = o.gate
      · subst e; rw [upd_same]; split <;> (try split) <;> omega
      · rw [upd_ne _ _ e]; omega

/-- both go on alike up to a moment -/
theorem Sim.all (h : Sim l D τ k p q) (hl : WLim l) (hD : 0 ≤ D) (hτ : τ ≤ T) (hT : T < 345686400000) : Sim l D T k (allP l D T p) (allQ l D T q) := by
  generalize hm : meas (p.os.map (Ord.ev D)) = m
  induction m using Nat.strongRecOn generalizing p q τ with
  | _ m ih =>
    cases hp : Go.Proofs.YtinnckbffblecaaGreat.pick T (p.os.map (Ord.ev D)) with
    | none =>
      rw [allP_stop hp, allQ_stop (pick_perm_none h.evs hp)]
      have hper := hl.per
      have hnx : ∀ o ∈ p.os, T ≤ o.next D := fun o ho => by
        have := pick_none hp _ (List.mem_map.2 ⟨o, ho, rfl⟩)
        have e : (Ord.ev D o).at_ = o.next D := rfl
        omega
      have hdiv : τ / l.per ≤ T / l.per := Int.ediv_le_ediv (by omega) hτ
      have ht0 := h.t0
      exact ⟨h.perm, h.nodup, h.waits, h.gates, fun g => Int.le_trans (h.winle g) hdiv, h.given, by have := h.now; omega, h.ok, hnx, fun o ho => by have := h.asked o ho; omega, h.stk0, h.qstk, h.stk1, h.qstk1, by omega, h.zero⟩
    | some i =>
      obtain ⟨kk, τ', hk, h1, h2, hs⟩ := h.step hl hD hT hp
      rw [allP_step hp, allQ_step hk]
      have hlt := meas_happenP l D p i (by simpa using pick_lt hp)
      exact ih _ (by omega) hs h2 rfl

theorem Sim.visit (h : Sim l D τ k p q) (hl : WLim l) (hD : 0 ≤ D) (batch : Int) (hb : 1 ≤ batch ∧ batch ≤ 1000000000) (v : VisD) (hτ : τ ≤ v.at_) (hT : v.at_ < 345686400000) (hc : 1 ≤ v.cost ∧ v.cost ≤ 1000000000) :
    (visitP l batch D p v).1 = (visitQ l batch D q v).1 ∧ Sim l D v.at_ (k + 1) (visitP l batch D p v).2 (visitQ l batch D q v).2 := by
  have h1 := h.all (T := v.at_) hl hD hτ hT
  unfold visitP visitQ
  generalize allP l D v.at_ p = p1 at *
  generalize allQ l D v.at_ q = q1 at *
  have hper := hl.per
  have hwle := h1.winle v.gate
  have hgr := h1.gates v.gate
  have hs0 := h1.stk0 v.gate
  have hq0 := h1.qstk v.gate
  have hk1 := h1.stk1 v.gate
  have hk2 := h1.qstk1 v.gate
  -- behind the emptying
  have h2 : Sim l D v.at_ k (stockP l p1 v.gate v.at_) (haveQ l q1 v.gate v.at_) ∧ (stockP l p1 v.gate v.at_).stk v.gate = (haveQ l q1 v.gate v.at_).stock v.gate ∧
      (stockP l p1 v.gate v.at_).win v.gate = v.at_ / l.per ∧ (haveQ l q1 v.gate v.at_).of_ v.gate = v.at_ / l.per := by
    obtain ⟨r1, r2, r3⟩ := haveQ_rest l q1 v.gate v.at_
    refine ⟨⟨?_, ?_, ?_, ?_, ?_, ?_, ?_, ?_, ?_, ?_, ?_, ?_, ?_, ?_, h1.t0, by rw [stockP_os]; exact h1.zero⟩, ?_, ?_, ?_⟩
    · rw [r3, stockP_os]; exact h1.perm
    · rw [stockP_os]; exact h1.nodup
    · rw [stockP_os, r2]; exact h1.waits
    · intro g
      rw [stockP_win, stockP_stk, haveQ_of, haveQ_stock]
      by_cases e : g = v.gate
      · subst e; simp only [upd_same]; left; refine ⟨by trivial, ?_⟩; split <;> split <;> omega
      · simp only [upd_ne _ _ e]; exact h1.gates g
    · intro g
      rw [stockP_win]
      by_cases e : g = v.gate
      · subst e; rw [upd_same]; exact Int.le_refl _
      · rw [upd_ne _ _ e]; exact h1.winle g
    · rw [stockP_cs, r1]; exact h1.given
    · rw [stockP_cs]; exact h1.now
    · rw [stockP_cs]; exact h1.ok
    · rw [stockP_os]; exact h1.nxt
    · rw [stockP_os]; exact h1.asked
    · intro g
      rw [stockP_stk]
      by_cases e : g = v.gate
      · subst e; rw [upd_same]; split <;> omega
      · rw [upd_ne _ _ e]; exact h1.stk0 g
    · intro g
      rw [haveQ_stock]
      by_cases e : g = v.gate
      · subst e; rw [upd_same]; split <;> omega
      · rw [upd_ne _ _ e]; exact h1.qstk g
    · intro g
      rw [stockP_stk, stockP_os]
      by_cases e : g = v.gate
      · subst e; rw [upd_same]; split <;> omega
      · rw [upd_ne _ _ e]; exact h1.stk1 g
    · intro g
      rw [haveQ_stock, stockP_os]
      by_cases e : g = v.gate
      · subst e; rw [upd_same]; split <;> omega
      · rw [upd_ne _ _ e]; exact h1.qstk1 g
    · rw [stockP_stk, haveQ_stock]; simp only [upd_same]; split <;> split <;> omega
    · rw [stockP_win, upd_same]
    · rw [haveQ_of, upd_same]
  clear h1 hwle hgr hs0 hq0 hk1 hk2
  obtain ⟨h2, hst, hw2, ho2⟩ := h2
  generalize stockP l p1 v.gate v.at_ = p2 at *
  generalize haveQ l q1 v.gate v.at_ = q2 at *
  have hs0 := h2.stk0 v.gate
  have hk1 := h2.stk1 v.gate
  have ht0 := h2.t0
  simp only
  by_cases c1 : v.cost ≤ p2.stk v.gate
  · have c2 : ¬ (q2.stock v.gate < v.cost ∧ q2.waits v.gate = false) := fun h => by omega
    have c3 : v.cost ≤ q2.stock v.gate := by omega
    unfold askQ addP
    rw [if_pos c1, if_neg c2, if_pos c3]
    refine ⟨rfl, h2.perm, h2.nodup, h2.waits, ?_, h2.winle, h2.given, h2.now, h2.ok, h2.nxt, h2.asked, ?_, ?_, ?_, ?_, h2.t0, h2.zero⟩
    · intro g
      simp only
      by_cases e : g = v.gate
      · subst e; simp only [upd_same]; left; omega
      · simp only [upd_ne _ _ e]; exact h2.gates g
    · intro g
      simp only
      by_cases e : g = v.gate
      · subst e; rw [upd_same]; omega
      · rw [upd_ne _ _ e]; exact h2.stk0 g
    · intro g
      simp only
      by_cases e : g = v.gate
      · subst e; rw [upd_same]; omega
      · rw [upd_ne _ _ e]; exact h2.qstk g
    · intro g
      have := h2.stk1 g
      simp only
      by_cases e : g = v.gate
      · subst e; rw [upd_same]; omega
      · rw [upd_ne _ _ e]; omega
    · intro g
      have := h2.qstk1 g
      simp only
      by_cases e : g = v.gate
      · subst e; rw [upd_same]; omega
      · rw [upd_ne _ _ e]; omega
  · rw [if_neg c1]
    have c3 : q2.stock v.gate < v.cost := by omega
    have hmax : 1 ≤ max v.cost batch ∧ max v.cost batch ≤ 1000000000 := by omega
    have hany : p2.os.any (fun o => decide (o.gate = v.gate)) = q2.waits v.gate := by
      rw [Bool.eq_iff_iff, h2.waits]
      simp [List.any_eq_true]
    by_cases cD : D = 0
    · rw [if_pos cD]
      have hos := h2.zero cD
      have cw : q2.waits v.gate = false := by rw [← hany, hos]; rfl
      have hgv := given_there h2 (Int.le_refl v.at_) hl
      have hgn : giveN l q2 (v.at_ / l.per) (max v.cost batch) = leaseN l p2.cs v.at_ (max v.cost batch) := by unfold giveN leaseN; rw [hgv]
      obtain ⟨L1, L2, L3, L4⟩ := lease_ok (t := v.at_) (want := max v.cost batch) h2.ok hl v.gate ht0 hT hmax.1
      have hmax2 := hmax.2
      have hq0 := h2.qstk v.gate
      have hlen : p2.os.length = 0 := by rw [hos]; rfl
      -- what both have then
      have hQ : askQ l batch D q2 v = { giveQ l q2 (v.at_ / l.per) (max v.cost batch) with stock := upd q2.stock v.gate (q2.stock v.gate + leaseN l p2.cs v.at_ (max v.cost batch)) } := by
        unfold askQ getQ haveQ
        rw [if_pos ⟨c3, cw⟩, if_pos cD, if_pos rfl]
        have : (giveQ l q2 (v.at_ / l.per) (max v.cost batch)).of_ v.gate = v.at_ / l.per := ho2
        rw [if_pos this, hgn]
        rfl
      have hgiven : ∀ W, v.at_ / l.per ≤ W → (giveQ l q2 (v.at_ / l.per) (max v.cost batch)).given W = if W = v.at_ / l.per then isum (leaseS l p2.cs v.at_ v.gate (max v.cost batch)).g else 0 := by
        intro W hW
        show upd q2.given (v.at_ / l.per) _ W = _
        by_cases e : W = v.at_ / l.per
        · subst e
          rw [upd_same, if_pos rfl, L4, hgv, hgn]
        · rw [upd_ne _ _ e, if_neg e]
          have h1 : p2.cs.now / l.per ≤ v.at_ / l.per := Int.ediv_le_ediv (by omega) h2.now
          rw [h2.given W (by omega), if_neg (by omega)]
      rw [hQ]
      unfold takeP addP
      simp only [upd_same, hst]
      generalize leaseN l p2.cs v.at_ (max v.cost batch) = n at *
      split
      · refine ⟨rfl, h2.perm, h2.nodup, h2.waits, ?_, h2.winle, hgiven, Int.le_refl _, L1, h2.nxt, h2.asked, ?_, ?_, ?_, ?_, h2.t0, h2.zero⟩
        · intro g
          simp only [upd_upd]
          by_cases e : g = v.gate
          · subst e; simp only [upd_same]; left; exact ⟨hw2.trans ho2.symm, by first | trivial | omega⟩
          · simp only [upd_ne _ _ e]; exact h2.gates g
        · intro g
          simp only [upd_upd]
          by_cases e : g = v.gate
          · subst e; rw [upd_same]; omega
          · rw [upd_ne _ _ e]; exact h2.stk0 g
        · intro g
          simp only [upd_upd]
          by_cases e : g = v.gate
          · subst e; rw [upd_same]; omega
          · rw [upd_ne _ _ e]; exact h2.qstk g
        · intro g
          have := h2.stk1 g
          simp only [upd_upd]
          by_cases e : g = v.gate
          · subst e; rw [upd_same]; omega
          · rw [upd_ne _ _ e]; omega
        · intro g
          have := h2.qstk1 g
          simp only [upd_upd]
          by_cases e : g = v.gate
          · subst e; rw [upd_same]; omega
          · rw [upd_ne _ _ e]; omega
      · refine ⟨rfl, h2.perm, h2.nodup, h2.waits, ?_, h2.winle, hgiven, Int.le_refl _, L1, h2.nxt, h2.asked, ?_, ?_, ?_, ?_, h2.t0, h2.zero⟩
        · intro g
          simp only
          by_cases e : g = v.gate
          · subst e; simp only [upd_same]; left; exact ⟨hw2.trans ho2.symm, by first | trivial | omega⟩
          · simp only [upd_ne _ _ e]; exact h2.gates g
        · intro g
          simp only
          by_cases e : g = v.gate
          · subst e; rw [upd_same]; omega
          · rw [upd_ne _ _ e]; exact h2.stk0 g
        · intro g
          simp only
          by_cases e : g = v.gate
          · subst e; rw [upd_same]; omega
          · rw [upd_ne _ _ e]; exact h2.qstk g
        · intro g
          have := h2.stk1 g
          simp only
          by_cases e : g = v.gate
          · subst e; rw [upd_same]; omega
          · rw [upd_ne _ _ e]; omega
        · intro g
          have := h2.qstk1 g
          simp only
          by_cases e : g = v.gate
          · subst e; rw [upd_same]; omega
          · rw [upd_ne _ _ e]; omega
    · rw [if_neg cD]
      cases cw : q2.waits v.gate
      · rw [hany, cw]
        have c2 : q2.stock v.gate < v.cost ∧ q2.waits v.gate = false := ⟨c3, cw⟩
        unfold askQ
        rw [if_pos c2, if_neg cD]
        simp only
        rw [if_neg (by omega)]
        have hnot : v.gate ∉ p2.os.map (·.gate) := fun hm => by have := (h2.waits v.gate).2 hm; rw [cw] at this; cases this
        have hmem : ∀ o ∈ p2.os ++ [⟨v.at_, max v.cost batch, v.gate, 0, false⟩], o ∈ p2.os ∨ o = ⟨v.at_, max v.cost batch, v.gate, 0, false⟩ := by
          intro o ho; simpa using ho
        refine ⟨rfl, ?_, ?_, ?_, h2.gates, h2.winle, h2.given, h2.now, h2.ok, ?_, ?_, h2.stk0, h2.qstk, ?_, ?_, h2.t0, fun e => absurd e cD⟩
        · simp only [Bool.false_eq_true, if_false, List.map_append, List.map_cons, List.map_nil]
          refine h2.perm.append ?_
          simp [Ord.let_]
        · simp only [Bool.false_eq_true, if_false, List.map_append, List.map_cons, List.map_nil]
          rw [List.nodup_append]
          refine ⟨h2.nodup, by simp, ?_⟩
          intro a ha b hb e
          simp at hb
          subst hb e
          exact hnot ha
        · intro g
          simp only [Bool.false_eq_true, if_false, List.map_append, List.map_cons, List.map_nil, List.mem_append, List.mem_singleton]
          by_cases e : g = v.gate
          · subst e; simp [upd_same]
          · rw [upd_ne _ _ e, h2.waits g]
            exact ⟨.inl, fun h => h.resolve_right e⟩
        · intro o ho
          simp only [Bool.false_eq_true, if_false] at ho
          rcases hmem o ho with h | rfl
          · exact h2.nxt o h
          · simp [Ord.next]; omega
        · intro o ho
          simp only [Bool.false_eq_true, if_false] at ho
          rcases hmem o ho with h | rfl
          · exact h2.asked o h
          · simp only; omega
        · intro g
          have := h2.stk1 g
          simp only [Bool.false_eq_true, if_false, List.length_append, List.length_cons, List.length_nil]
          omega
        · intro g
          have := h2.qstk1 g
          simp only [Bool.false_eq_true, if_false, List.length_append, List.length_cons, List.length_nil]
          omega
      · rw [hany, cw]
        have c2 : ¬ (q2.stock v.gate < v.cost ∧ q2.waits v.gate = false) := fun h => by rw [cw] at h; simp at h
        unfold askQ
        rw [if_neg c2]
        rw [if_neg (show ¬ v.cost ≤ q2.stock v.gate by omega)]
        simp only [if_true]
        exact ⟨by trivial, h2.perm, h2.nodup, h2.waits, h2.gates, h2.winle, h2.given, h2.now, h2.ok, h2.nxt, h2.asked, h2.stk0, h2.qstk, fun g => by have := h2.stk1 g; omega, fun g => by have := h2.qstk1 g; omega, h2.t0, h2.zero⟩

end
end Go.Proofs.YtinnckbffblecaaGreat
