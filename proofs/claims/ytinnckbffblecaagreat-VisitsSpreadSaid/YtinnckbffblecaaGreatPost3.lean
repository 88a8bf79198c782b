/- The reference's player of visits: which letter comes next. Conditions: modest numbers. -/
import Derived.Test.YtinnckbffblecaaGreatPost2
namespace Go.Proofs.YtinnckbffblecaaGreat
open Go.RowKit Go.MapKept
set_option linter.unusedVariables false
set_option linter.unusedSimpArgs false


def boolKeys : Keys Bool := ⟨Value.bool, .bool, fun a b h => by injection h, fun _ => trivial⟩
def pickI (r : Option Nat) : Int := match r with | none => -1 | some j => j

theorem sides_made (w : World) (hb : Tryz.prog.underlying 152 = some (.map 4 3)) : ∃ w', (Instr.mapUpdate 152 (.map (some w.heap.size)) (.bool false) (.int .i64 1)).run Tryz.prog (w.alloc (.map #[] 0)) = .ok () w' ∧ FMap boolKeys w' w.heap.size (.int .i64 0) (fun b => .int .i64 (evSide b)) ∧ New w w' := by
  obtain ⟨w', h1, h2, h3, h4⟩ := run_mapUpdate (P := Tryz.prog) (K := boolKeys) hb Tryz.underlying4 (MapOf.made (w := w.alloc (.map #[] 0)) (b := w.heap.size) (heap_alloc_new w _)) false (.int .i64 1)
  refine ⟨w', h1, ⟨_, h2, fun k => ?_⟩, ((Mod.refl (fun _ => False) w).alloc _).step h3 (fun i hi e => by omega)⟩
  rw [aget_aput, aget_nil]
  cases k <;> rfl

set_option maxRecDepth 100000 in
set_option maxHeartbeats 2000000 in
theorem post_next (w : World) (B gp g1 g2 g3 g4 : Nat) (A : Option Addr) (c : Nat) (l : Lim) (D : Int) (q : QSt) (h : PoAt w B gp g1 g2 g3 g4 A c l D q) (hn : q.ls.length ≤ 1000000) (T : Int) :
    Calls Tryz.prog 80 #[.pointer (some ⟨gp, 0, none⟩), .int .i64 T] w fun e w' => e = .returned (.int .i64 (pickI (pick T (q.ls.map Let.ev)))) ∧ New w w' := by
  obtain ⟨w1, hins, hsd, hn1⟩ := sides_made w (by kernel_rfl)
  have h1 := h.new hn1
  have s10 := h1.blk.cell 10
  simp at s10
  have hmm := @run_makeMap Tryz.prog
  have HH := Lib.hid h1
  have HSD := Lib.hid hsd
  generalize hes : q.ls.map Let.ev = es
  have hesl : es.length = q.ls.length := by rw [← hes]; simp
  have HES := Lib.hid hes
  clear h h1 hes hsd
  go_enter Tryz.func80, Tryz.ntmps80
  go_wp2_with fail
  generalize hgm : w.heap.size = gm at *
  go_loopw [5, 7, 8, 9, 17] (fun t _ _ _ i wr => ∃ k : Nat, k ≤ q.ls.length ∧ i = .int .i64 k ∧ New w1 wr ∧ t = .int .i64 (pickI (pickN T es k))) (fun _ _ _ _ i _ => q.ls.length - (intOf i).toNat)
  case atStart => exact ⟨0, Nat.zero_le _, rfl, Mod.refl _ _, rfl⟩
  case round =>
    rename World => wr
    obtain ⟨k, hk, rfl, hm, rfl⟩ := hrel
    by_cases hlt : k < q.ls.length
    · have hh := HH.out.new hm
      obtain ⟨g, o, rfl, hg, hc⟩ := hh.own.sl.2 (by omega)
      have hgl := hg.lt
      have hek : es[k]? = some (q.ls[k].ev) := by rw [← HES.out, List.getElem?_map, List.getElem?_eq_getElem hlt]; rfl
      have k0 := hc k hlt 0 (by omega)
      have k1 := hc k hlt 1 (by omega)
      have k2 := hc k hlt 2 (by omega)
      have k3 := hc k hlt 3 (by omega)
      have k4 := hc k hlt 4 (by omega)
      have k5 := hc k hlt 5 (by omega)
      simp only [Let.enc, Nat.add_zero] at k0 k1 k2 k3 k4 k5
      have hb1 : (0 : Int) ≤ k := by omega
      have hb2 : (k : Int) < q.ls.length := by omega
      have hgpl := hh.blk.lt
      have d10 := hh.blk.cell 10
      simp at d10
      have hsp := pickN_spec T es k (by omega)
      have HEK := Lib.hid hek
      have hats : (q.ls[k].ev).at_ = q.ls[k].at_ := rfl
      have HLK : Hid (∀ b n (W : World), New wr W → (Instr.lookup 152 (.map (some gm)) (.bool b) false).run Tryz.prog (W.drewN n) = .ok (.int .i64 (evSide b)) (W.drewN n)) := Lib.hid (fun b n W hW => ((HSD.out.mod (hm.trans hW) (fun e => e)).mod ((Mod.refl (fun _ => False) W).drewN n) (fun e => e)).look (K := boolKeys) (by kernel_rfl) Tryz.underlying4 (zero_int _) b)
      have HC := Lib.hid hc
      clear hek hc
      by_cases hT : q.ls[k].at_ ≤ T
      · have hTn : ¬ T < q.ls[k].at_ := by omega
        rcases hsp with ⟨hpn, -⟩ | ⟨j, f, hpn, hj, hjf, -⟩
        · have hpk := pickN_none HEK.out hT hpn
          have HPK := Lib.hid hpk
          have hpz : pickI none = -1 := rfl
          rw [hpn, hpz]
          clear hpn hpk hpz
          go_wp2_with fail
          refine ⟨⟨k + 1, by omega, by go_num, hm.alloc _, by rw [HPK.out]; rfl⟩, by simp [intOf]; omega⟩
        · have hpk := pickN_lt HEK.out hT hpn hjf
          have HPK := Lib.hid hpk
          have hjl : j < q.ls.length := by omega
          have hf : f = q.ls[j].ev := by
            rw [← HES.out, List.getElem?_map, List.getElem?_eq_getElem hjl] at hjf; injection hjf with hjf; exact hjf.symm
          subst hf
          have j0 := HC.out j hjl 0 (by omega)
          have j1 := HC.out j hjl 1 (by omega)
          have j2 := HC.out j hjl 2 (by omega)
          have j3 := HC.out j hjl 3 (by omega)
          have j4 := HC.out j hjl 4 (by omega)
          have j5 := HC.out j hjl 5 (by omega)
          simp only [Let.enc, Nat.add_zero] at j0 j1 j2 j3 j4 j5
          have hpz : pickI (some j) = (j : Int) := rfl
          rw [hpn, hpz]
          have hb3 : (0 : Int) ≤ j := by omega
          have hb4 : (j : Int) < q.ls.length := by omega
          have hb5 : ¬ (j : Int) < 0 := by omega
          have HEV : Hid (orL [Lib.compareInt q.ls[k].at_ q.ls[j].at_, Lib.compareInt (evSide q.ls[k].back) (evSide q.ls[j].back), Lib.compareInt q.ls[k].asked q.ls[j].asked, Lib.compareBytes q.ls[k].gate.data.toList q.ls[j].gate.data.toList] = evCmp q.ls[k].ev q.ls[j].ev) := Lib.hid rfl
          clear hpn hpk hpz hjf
          generalize q.ls[k] = x at *
          generalize q.ls[j] = y at *
          go_upto_region 10 with (fail)
          have hA := ((Mod.refl (fun _ => False) wr).alloc (.cells #[.int .i64 x.asked, .int .i64 x.at_, .string x.gate, .int .i64 x.many, .bool x.back, .int .i64 x.window] 100)).alloc (.cells #[.int .i64 y.asked, .int .i64 y.at_, .string y.gate, .int .i64 y.many, .bool y.back, .int .i64 y.window] 100)
          have bx := (Blk.new wr 100 #[.int .i64 x.asked, .int .i64 x.at_, .string x.gate, .int .i64 x.many, .bool x.back, .int .i64 x.window]).mod ((Mod.refl (fun _ => False) _).alloc (.cells #[.int .i64 y.asked, .int .i64 y.at_, .string y.gate, .int .i64 y.many, .bool y.back, .int .i64 y.window] 100)) (fun e => e)
          have by' := Blk.new' (w := wr.alloc (.cells #[.int .i64 x.asked, .int .i64 x.at_, .string x.gate, .int .i64 x.many, .bool x.back, .int .i64 x.window] 100)) (g := wr.heap.size + 1) 100 #[.int .i64 y.asked, .int .i64 y.at_, .string y.gate, .int .i64 y.many, .bool y.back, .int .i64 y.window] (by simp)
          have HLX := Lib.hid (fun (b : Bool) (n : Nat) => HLK.out b n _ hA)
          generalize (wr.alloc (.cells #[.int .i64 x.asked, .int .i64 x.at_, .string x.gate, .int .i64 x.many, .bool x.back, .int .i64 x.window] 100)).alloc (.cells #[.int .i64 y.asked, .int .i64 y.at_, .string y.gate, .int .i64 y.many, .bool y.back, .int .i64 y.window] 100) = w2 at *
          generalize wr.heap.size + 1 = yb at *
          generalize wr.heap.size = xb at *
          have x0 := bx.cell 0
          have x1 := bx.cell 1
          have x2 := bx.cell 2
          have x4 := bx.cell 4
          have y0 := by'.cell 0
          have y1 := by'.cell 1
          have y2 := by'.cell 2
          have y4 := by'.cell 4
          simp at x0 x1 x2 x4 y0 y1 y2 y4
          have hlx := fun n : Nat => HLX.out x.back n
          have hly := fun n : Nat => HLX.out y.back n
          clear k0 k1 k2 k3 k4 k5 j0 j1 j2 j3 j4 j5 d10 bx by'
          generalize evSide x.back = sx at *
          generalize evSide y.back = sy at *
          refine wp_region_quiet_tail 24 (by kernel_rfl) (by kernel_rfl) ?_
          simp only [List.take_succ_cons, List.take_zero, List.drop_succ_cons, List.drop_zero]
          repeat (go_big_quiet_step (first | (go_at_call 96; with_reducible exact Calls.quiet_of_same (Tryz.cmp_Compare_int _ _ _)) | (go_at_call 97; with_reducible exact Calls.quiet_of_same (Tryz.strings_Compare _ _ _))))
          refine wpQuiet_nil ?_
          intro _ hw'
          obtain ⟨nr, hw''⟩ := hw'
          subst hw''
          go_wp2_with fail
          refine (cmpOr_int [Lib.compareInt x.at_ y.at_, Lib.compareInt sx sy, Lib.compareInt x.asked y.asked, Lib.compareBytes x.gate.data.toList y.gate.data.toList] _ 4 _ (Blk.new _ _ _) rfl (by omega)).mono ?_
          rintro e w3 ⟨rfl, rfl⟩
          rw [HEV.out]
          have HMZ : Hid (New w1 ((w2.drewN nr).alloc (.cells #[.int .i64 (Lib.compareInt x.at_ y.at_), .int .i64 (Lib.compareInt sx sy), .int .i64 (Lib.compareInt x.asked y.asked), .int .i64 (Lib.compareBytes x.gate.data.toList y.gate.data.toList)] 3))) := Lib.hid (((hm.trans hA).drewN nr).alloc _)
          clear hlx hly x0 x1 x2 x4 y0 y1 y2 y4
          generalize evCmp x.ev y.ev = cv at *
          by_cases hcv : cv < 0
          · have hk2 := HPK.out
            rw [if_pos hcv] at hk2
            have HK2 := Lib.hid hk2
            clear hk2
            go_wp2_with fail
            refine ⟨⟨k + 1, by omega, by go_num, HMZ.out, by rw [HK2.out]; rfl⟩, by simp [intOf]; omega⟩
          · have hk2 := HPK.out
            rw [if_neg hcv] at hk2
            have HK2 := Lib.hid hk2
            clear hk2
            go_wp2_with fail
            refine ⟨⟨k + 1, by omega, by go_num, HMZ.out, by rw [HK2.out]; rfl⟩, by simp [intOf]; omega⟩
      · have hTn : T < q.ls[k].at_ := by omega
        have hpk := pickN_late HEK.out hT
        have HPK := Lib.hid hpk
        clear hpk hsp
        generalize hpp : pickI (pickN T es k) = pp at *
        have HPP := Lib.hid hpp
        clear hpp
        go_wp2_with fail
        refine ⟨⟨k + 1, by omega, by go_num, hm.alloc _, by rw [HPK.out, HPP.out]⟩, by simp [intOf]; omega⟩
    · obtain rfl : k = q.ls.length := by omega
      go_wp2_with fail
      go_ret
      exact ⟨ret_int (by rw [pick, hesl]), hn1.trans hm⟩

end Go.Proofs.YtinnckbffblecaaGreat
