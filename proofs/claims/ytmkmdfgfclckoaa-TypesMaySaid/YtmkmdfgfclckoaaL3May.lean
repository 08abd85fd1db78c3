/- TypesMay answers true, whatever the input. -/
import Derived.Test.YtmkmdfgfclckoaaL31
import Derived.Test.YtmkmdfgfclckoaaTy4
set_option linter.unusedVariables false
set_option linter.unusedSimpArgs false
namespace Go.SX
open Go Go.Proofs

set_option maxHeartbeats 1600000 in
theorem may31_c (H : Heap) (x : Int) (hx : U x) : Fv Try.prog (fnv 33) [.int .u64 x] H (.bool (!mayB x)) := by
  refine Fc.of_body (N := 6) Try.func33 rfl (by kernel_rfl) rfl rfl ?_
  intro w0
  refine T.seq ?_
  refine T.region ?_
  refine R.asE rfl (by conv => lhs; whnf) ?_
  refine TL.nil (Post.thnN ?_)
  refine T.seq ?_
  refine T.region ?_
  refine R.mvE rfl (by conv => lhs; whnf) ?_
  refine R.callv rfl rfl rfl (rmay_c _ _ hx) ?_
  refine R.not rfl rfl ?_
  refine R.asE rfl (by conv => lhs; whnf) ?_
  refine TL.nil (Post.thnN ?_)
  refine T.ret ?_
  exact fin1 rfl rfl ⟨rfl, rfl⟩


set_option maxHeartbeats 1600000 in
theorem may3_c (H : Heap) (v u : Value) (xs ys : List Int) (hr : RdS (intE .u64) H v xs) (hr2 : RdS (intE .u64) H u ys) (hU : Us xs) (hU2 : Us ys) : Fv Try.prog (fnv 7) [v, u] H (.bool true) := by
  refine Fc.of_body (N := 117) Try.func7 rfl (by kernel_rfl) rfl rfl ?_
  intro w0
  obtain ⟨A, c, rfl, hc1, hc2, hr⟩ := hr.shape
  obtain ⟨A2, c2, rfl, hc3, hc4, hr2⟩ := hr2.shape
  obtain ⟨fx, hfx⟩ : ∃ l, l = xs.take 20 := ⟨_, rfl⟩
  have hfU : Us fx := by rw [hfx]; exact few_us hU
  have hfl : fx.length ≤ 20 := by rw [hfx]; simp; omega
  obtain ⟨fy, hfy⟩ : ∃ l, l = ys.take 20 := ⟨_, rfl⟩
  have hgU : Us fy := by rw [hfy]; exact few_us hU2
  have hgl : fy.length ≤ 20 := by rw [hfy]; simp; omega
  refine T.seq ?_
  refine T.region ?_
  refine R.asE rfl (by conv => lhs; whnf) ?_
  refine TL.nil (Post.thnN ?_)
  refine T.seq ?_
  refine T.seq ?_
  refine T.region ?_
  refine R.callv rfl rfl rfl (wakes_c _) ?_
  refine R.not rfl rfl ?_
  refine TL.nil (Post.thnN ?_)
  refine T.condN rfl ?_
  refine T.skip (Post.thnN ?_)
  refine T.seq ?_
  refine T.region ?_
  refine R.mvE rfl (by conv => lhs; whnf) ?_
  refine TL.call [] rfl rfl rfl (few_c _ _ _ hr) ?_
  intro v19 H19 L19 s19 q19
  obtain ⟨c19, rfl, w19⟩ := q19
  refine TL.shut .hd ?_
  intro HF19 sF19 qF19
  rw [← hfx] at w19
  have f19 := w19.read sF19 qF19
  obtain ⟨AF19, pF19, rfl, mF19, nF19, f19⟩ := f19.shape
  refine R.mvE rfl (by conv => lhs; whnf) ?_
  refine TL.call [] rfl rfl rfl (few_c _ _ _ (hr2.mono (s19.trans sF19))) ?_
  intro v21 H21 L21 s21 q21
  obtain ⟨c21, rfl, w21⟩ := q21
  refine TL.shut .hd ?_
  intro HF21 sF21 qF21
  rw [← hfy] at w21
  have f21 := w21.read sF21 qF21
  obtain ⟨AF21, pF21, rfl, mF21, nF21, f21⟩ := f21.shape
  refine R.asE rfl (by conv => lhs; whnf) ?_
  refine R.asE rfl (by conv => lhs; whnf) ?_
  refine TL.nil (Post.thnN ?_)
  refine T.cut (ι := Unit) (fun _ H' L' ds' => L' = [] ∧ ds' = []) (fun _ => [(0, .slice A xs.length c), (1, .slice A2 ys.length c2), (5, .slice AF19 fx.length pF19), (6, .slice AF21 fy.length pF21)]) ?_ ?_
  · refine T.seq ?_
    refine T.region ?_
    refine R.mvE rfl (by conv => lhs; whnf) ?_
    refine R.mvE rfl (by conv => lhs; whnf) ?_
    refine R.bld (cs := [.slice AF19 fx.length pF19, .slice AF21 fy.length pF21]) rfl (fun _ => by kernel_rfl) ?_
    refine R.mvE rfl (by conv => lhs; whnf) ?_
    refine TL.nil (Post.thnN ?_)
    refine T.block ?_
    refine T.loop (ι := Nat) (fun k H' L' ds' => k ≤ 2 ∧ L' = [] ∧ ds' = []) (fun k => [(0, .slice A xs.length c), (1, .slice A2 ys.length c2), (5, .slice AF19 fx.length pF19), (6, .slice AF21 fy.length pF21), (24, .agg #[.slice AF19 fx.length pF19, .slice AF21 fy.length pF21]), (25, .int .i64 k)]) (fun k => 2 - k) (0) ?_ ?_ ?_
    · exact ⟨Nat.zero_le _, rfl, rfl⟩
    · exact ⟨rfl, rfl, rfl, rfl, rfl, rfl, trivial⟩
    · intro k σ0 H_0 L_0 ds_0 s_0 hI_0
      obtain ⟨hk, rfl, rfl⟩ := hI_0
      refine T.seq ?_
      refine T.region ?_
      refine R.lss rfl rfl rfl ?_
      refine TL.nil (Post.thnN ?_)
      refine T.seq ?_
      refine T.condD rfl (fun c26 => ?_) (fun c26 => ?_)
      · obtain ⟨Al, cl, l, hidx, hl, hlU, hll⟩ : ∃ Al cl l, ([.slice AF19 fx.length pF19, .slice AF21 fy.length pF21] : List Value)[((k : Nat) : Int).toNat * 1]? = some (.slice Al (List.length l) cl) ∧ RdS (intE .u64) HF21 (.slice Al l.length cl) l ∧ Us l ∧ l.length ≤ 20 := by
          have hk2 : k = 0 ∨ k = 1 := by omega
          rcases hk2 with rfl | rfl
          · exact ⟨_, _, fx, rfl, f19.mono (s21.trans sF21), hfU, hfl⟩
          · exact ⟨_, _, fy, rfl, f21, hgU, hgl⟩
        refine T.skip (Post.thnN ?_)
        refine T.seq ?_
        refine T.block ?_
        refine T.seq ?_
        refine T.region ?_
        refine R.idx Try.underlying45 Try.isAgg22 Try.sizeOf22 rfl rfl rfl (by omega) (by omega) hidx ?_
        refine R.asE rfl (by conv => lhs; whnf) ?_
        refine TL.nil (Post.thnN ?_)
        refine T.cut (ι := Unit) (fun _ H' L' ds' => L' = [] ∧ ds' = []) (fun _ => [(0, .slice A xs.length c), (1, .slice A2 ys.length c2), (5, .slice AF19 fx.length pF19), (6, .slice AF21 fy.length pF21), (8, .slice Al l.length cl), (24, .agg #[.slice AF19 fx.length pF19, .slice AF21 fy.length pF21]), (25, .int .i64 k)]) ?_ ?_
        · refine T.seq ?_
          refine T.region ?_
          refine R.mvE rfl (by conv => lhs; whnf) ?_
          refine R.callv rfl rfl rfl (check_c _ _ _ (hl.mono s_0) hlU) ?_
          refine R.asE rfl (by conv => lhs; whnf) ?_
          refine TL.nil (Post.thnN ?_)
          refine T.seq ?_
          refine T.region ?_
          refine R.mvE rfl (by conv => lhs; whnf) ?_
          refine R.eql rfl rfl rfl ?_
          refine R.mvE rfl (by conv => lhs; whnf) ?_
          refine R.callv rfl rfl rfl (rright_c _ _ _ (hl.mono s_0) hlU) ?_
          refine R.neqB Try.underlying4 rfl rfl rfl ?_
          refine R.mvE rfl (by conv => lhs; whnf) ?_
          refine TL.set 35 (.bool false) (congrArg Value.bool (by cases typeB l <;> rfl)) ?_
          refine R.mvE rfl (by conv => lhs; whnf) ?_
          refine R.neq rfl rfl rfl ?_
          refine R.mvE rfl (by conv => lhs; whnf) ?_
          refine TL.gsplitD 38 rfl (fun g38 => ?_) (fun g38 => ?_)
          · refine R.mvE rfl (by conv => lhs; whnf) ?_
            refine R.neq rfl rfl rfl ?_
            refine R.pkTE rfl rfl (by conv => lhs; whnf) ?_
            refine R.pkFE rfl rfl (by conv => lhs; whnf) ?_
            refine TL.nil (Post.thnN ?_)
            refine T.set 42 (.bool false) (congrArg Value.bool (by rw [chk_ne.1 g38]; rfl)) ?_
            refine T.condN rfl ?_
            refine T.skip (Post.thnN ?_)
            -- cut c42, way y
            exact ⟨(), HLe.refl _, ⟨rfl, rfl⟩, rfl, rfl, rfl, rfl, rfl, rfl, rfl, trivial⟩
          · refine TL.off rfl rfl rfl ?_
            refine TL.off rfl rfl rfl ?_
            refine R.pkFE rfl rfl (by conv => lhs; whnf) ?_
            refine R.pkFE rfl rfl (by conv => lhs; whnf) ?_
            refine TL.nil (Post.thnN ?_)
            refine T.condN rfl ?_
            refine T.skip (Post.thnN ?_)
            -- cut c42, way n
            exact ⟨(), HLe.refl _, ⟨rfl, rfl⟩, rfl, rfl, rfl, rfl, rfl, rfl, rfl, trivial⟩
        · intro _ σ_c42 H_c42 L_c42 ds_c42 s_c42 hI_c42
          obtain ⟨rfl, rfl⟩ := hI_c42
          refine T.seq ?_
          refine T.region ?_
          refine R.mvE rfl (by conv => lhs; whnf) ?_
          refine R.callp rfl rfl rfl (Of_c _ _ l (hl.mono (s_0.trans s_c42)) hlU (by omega)) ?_
          intro v45 H45 s45 q45
          obtain ⟨r45, rfl, h45⟩ := q45
          obtain ⟨A45, p45, rfl, m45, n45, h45⟩ := h45.shape
          refine R.mvE rfl (by conv => lhs; whnf) ?_
          refine R.ext rfl rfl rfl ?_
          refine R.ext rfl rfl rfl ?_
          refine R.asE rfl (by conv => lhs; whnf) ?_
          refine R.asE rfl (by conv => lhs; whnf) ?_
          refine TL.nil (Post.thnN ?_)
          refine T.seq ?_
          refine T.region ?_
          refine R.mvE rfl (by conv => lhs; whnf) ?_
          refine R.callp rfl rfl rfl (rof_c _ _ l (hl.mono ((s_0.trans s_c42).trans s45)) (by omega)) ?_
          intro v49 H49 s49 q49
          obtain ⟨A49, p49, rfl, m49, n49, q49⟩ := q49.shape
          refine R.asE rfl (by conv => lhs; whnf) ?_
          refine R.asE rfl (by conv => lhs; whnf) ?_
          refine TL.nil (Post.thnN ?_)
          refine T.cut (ι := Value) (fun w H' L' ds' => L' = [] ∧ ds' = [] ∧ RdS (intE .u64) H' w (ofR l).1) (fun w => [(0, .slice A xs.length c), (1, .slice A2 ys.length c2), (5, .slice AF19 fx.length pF19), (6, .slice AF21 fy.length pF21), (10, .slice A45 (ofR l).1.length p45), (11, .int .i64 (ofR l).2), (12, w), (13, .int .i64 (ofR l).2), (24, .agg #[.slice AF19 fx.length pF19, .slice AF21 fy.length pF21]), (25, .int .i64 k)]) ?_ ?_
          · refine T.block ?_
            refine T.seq ?_
            refine T.region ?_
            refine R.mvE rfl (by conv => lhs; whnf) ?_
            refine R.callv rfl rfl rfl (containsFU22_c _ _ _ _ (fun y => !mayB y) (hl.mono (((s_0.trans s_c42).trans s45).trans s49)) hlU (fun H2 _ y hy => may31_c H2 y hy)) ?_
            refine R.asE rfl (by conv => lhs; whnf) ?_
            refine TL.nil (Post.thnN ?_)
            refine T.cond rfl (fun c50 => ?_) (fun c50 => ?_)
            · refine T.region ?_
              refine R.asE rfl (by conv => lhs; whnf) ?_
              refine R.asE rfl (by conv => lhs; whnf) ?_
              refine TL.nil (Post.blkN ?_)
              refine id (Post.thnN ?_)
              -- cut b2, way y
              have hq := ofR_a (any_may c50)
              exact ⟨.slice none 0 0, HLe.refl _, ⟨rfl, rfl, by rw [hq]; exact RdS.nil⟩, rfl, rfl, rfl, rfl, rfl, rfl, rfl, congrArg (Value.int .i64) (by rw [hq]), rfl, rfl, trivial⟩
            · refine T.seq ?_
              refine T.region ?_
              refine R.mvE rfl (by conv => lhs; whnf) ?_
              refine R.len Try.underlying22 rfl rfl ?_
              refine R.gtr rfl rfl rfl ?_
              refine R.asE rfl (by conv => lhs; whnf) ?_
              refine TL.nil (Post.thnN ?_)
              refine T.condD rfl (fun c53 => ?_) (fun c53 => ?_)
              · refine T.region ?_
                refine R.asE rfl (by conv => lhs; whnf) ?_
                refine R.asE rfl (by conv => lhs; whnf) ?_
                refine TL.nil (Post.blkN ?_)
                refine id (Post.thnN ?_)
                -- cut b2, way ny
                have hq := ofR_b (all_may c50) (by omega)
                exact ⟨.slice none 0 0, HLe.refl _, ⟨rfl, rfl, by rw [hq]; exact RdS.nil⟩, rfl, rfl, rfl, rfl, rfl, rfl, rfl, congrArg (Value.int .i64) (by rw [hq]), rfl, rfl, trivial⟩
              · refine T.skip (Post.blkN ?_)
                refine id (Post.thnN ?_)
                -- cut b2, way nn
                have hq := ofR_c (all_may c50) (by omega)
                exact ⟨_, HLe.refl _, ⟨rfl, rfl, by rw [hq]; exact q49⟩, rfl, rfl, rfl, rfl, rfl, rfl, rfl, congrArg (Value.int .i64) (by rw [hq]), rfl, rfl, trivial⟩
          · intro w σ_b2 H_b2 L_b2 ds_b2 s_b2 hI_b2
            obtain ⟨rfl, rfl, hw⟩ := hI_b2
            refine T.seq ?_
            refine T.region ?_
            refine R.mvE rfl (by conv => lhs; whnf) ?_
            refine R.mvE rfl (by conv => lhs; whnf) ?_
            refine R.neq rfl rfl rfl ?_
            refine R.mvE rfl (by conv => lhs; whnf) ?_
            refine TL.set 60 (.bool false) (congrArg Value.bool (by simp)) ?_
            refine R.mvE rfl (by conv => lhs; whnf) ?_
            refine R.mvE rfl (by conv => lhs; whnf) ?_
            refine R.callv rfl rfl rfl (equalU22_c _ _ _ _ _ ((h45.mono s49).mono s_b2) hw) ?_
            refine R.not rfl rfl ?_
            refine R.pkFE rfl rfl (by conv => lhs; whnf) ?_
            refine TL.nil (Post.thnN ?_)
            refine T.set 65 (.bool false) (congrArg Value.bool (by simp)) ?_
            refine T.condN rfl ?_
            refine T.skip (Post.blkN ?_)
            refine id (Post.thnN ?_)
            refine T.region ?_
            refine R.addI rfl rfl rfl (by omega) ?_
            refine R.mvE rfl (by conv => lhs; whnf) ?_
            refine TL.nil (Post.thnN ?_)
            -- round's end, way y
            exact ⟨k + 1, ((s_0.trans s_c42).trans (s45.trans s49)).trans s_b2, ⟨by omega, rfl, rfl⟩, by omega, ⟨rfl, rfl, rfl, rfl, rfl, rfl, trivial⟩⟩
      · refine T.exit (Post.thnE (Post.thnE (Post.blkX ?_)))
        refine id (Post.thnN ?_)
        -- cut b0, way n
        exact ⟨(), s_0, ⟨rfl, rfl⟩, rfl, rfl, rfl, rfl, trivial⟩
  · intro _ σ_b0 H_b0 L_b0 ds_b0 s_b0 hI_b0
    obtain ⟨rfl, rfl⟩ := hI_b0
    refine T.seq ?_
    refine T.region ?_
    refine R.mvE rfl (by conv => lhs; whnf) ?_
    refine R.mvE rfl (by conv => lhs; whnf) ?_
    refine R.callp rfl rfl rfl (Meet_c _ _ _ _ _ (f19.mono ((s21.trans sF21).trans s_b0)) (f21.mono s_b0) hfU hgU (by omega)) ?_
    intro v70 H70 s70 q70
    obtain ⟨r70, rfl, h70⟩ := q70
    obtain ⟨A70, p70, rfl, m70, n70, h70⟩ := h70.shape
    refine R.mvE rfl (by conv => lhs; whnf) ?_
    refine R.ext rfl rfl rfl ?_
    refine R.ext rfl rfl rfl ?_
    refine R.asE rfl (by conv => lhs; whnf) ?_
    refine R.asE rfl (by conv => lhs; whnf) ?_
    refine TL.nil (Post.thnN ?_)
    refine T.cut (ι := Unit) (fun _ H' L' ds' => L' = [] ∧ ds' = []) (fun _ => [(0, .slice A xs.length c), (1, .slice A2 ys.length c2), (5, .slice AF19 fx.length pF19), (6, .slice AF21 fy.length pF21)]) ?_ ?_
    · refine T.seq ?_
      refine T.region ?_
      refine R.mvE rfl (by conv => lhs; whnf) ?_
      refine R.callv rfl rfl rfl (rright_c _ _ _ (f19.mono (((s21.trans sF21).trans s_b0).trans s70)) hfU) ?_
      refine R.not rfl rfl ?_
      refine R.mvE rfl (by conv => lhs; whnf) ?_
      refine TL.gsplit 76 rfl (fun g76 => ?_) (fun g76 => ?_)
      · refine TL.off rfl rfl rfl ?_
        refine TL.off rfl rfl rfl ?_
        refine TL.off rfl rfl rfl ?_
        refine R.pkTE rfl rfl (by conv => lhs; whnf) ?_
        refine TL.nil (Post.thnN ?_)
        refine T.condY rfl ?_
        refine T.seq ?_
        refine T.region ?_
        refine R.mvE rfl (by conv => lhs; whnf) ?_
        refine R.neq rfl rfl rfl ?_
        refine R.mvE rfl (by conv => lhs; whnf) ?_
        refine TL.set 83 (.bool false) (congrArg Value.bool (by rw [meetR_a (by simpa using g76)]; rfl)) ?_
        refine R.mvE rfl (by conv => lhs; whnf) ?_
        refine R.len Try.underlying22 rfl rfl ?_
        refine R.gtr rfl rfl rfl ?_
        refine R.pkFE rfl rfl (by conv => lhs; whnf) ?_
        refine TL.nil (Post.thnN ?_)
        refine T.set 87 (.bool false) (congrArg Value.bool (by rw [meetR_a (by simpa using g76)]; rfl)) ?_
        refine T.condN rfl ?_
        refine T.skip (Post.thnN ?_)
        -- cut c80, way y
        exact ⟨(), HLe.refl _, ⟨rfl, rfl⟩, rfl, rfl, rfl, rfl, trivial⟩
      · refine R.mvE rfl (by conv => lhs; whnf) ?_
        refine R.callv rfl rfl rfl (rright_c _ _ _ (f21.mono (s_b0.trans s70)) hgU) ?_
        refine R.not rfl rfl ?_
        refine R.pkFE rfl rfl (by conv => lhs; whnf) ?_
        refine TL.nil (Post.thnN ?_)
        refine T.cond rfl (fun c80 => ?_) (fun c80 => ?_)
        · refine T.seq ?_
          refine T.region ?_
          refine R.mvE rfl (by conv => lhs; whnf) ?_
          refine R.neq rfl rfl rfl ?_
          refine R.mvE rfl (by conv => lhs; whnf) ?_
          refine TL.set 83 (.bool false) (congrArg Value.bool (by rw [meetR_b (by simpa using c80)]; rfl)) ?_
          refine R.mvE rfl (by conv => lhs; whnf) ?_
          refine R.len Try.underlying22 rfl rfl ?_
          refine R.gtr rfl rfl rfl ?_
          refine R.pkFE rfl rfl (by conv => lhs; whnf) ?_
          refine TL.nil (Post.thnN ?_)
          refine T.set 87 (.bool false) (congrArg Value.bool (by rw [meetR_b (by simpa using c80)]; rfl)) ?_
          refine T.condN rfl ?_
          refine T.skip (Post.thnN ?_)
          -- cut c80, way ny
          exact ⟨(), HLe.refl _, ⟨rfl, rfl⟩, rfl, rfl, rfl, rfl, trivial⟩
        · refine T.seq ?_
          refine T.region ?_
          refine R.mvE rfl (by conv => lhs; whnf) ?_
          refine R.neq rfl rfl rfl ?_
          refine R.mvE rfl (by conv => lhs; whnf) ?_
          refine TL.set 90 (.bool false) (congrArg Value.bool (by rw [meetR_c (by simpa using g76) (by simpa using c80)]; rfl)) ?_
          refine R.mvE rfl (by conv => lhs; whnf) ?_
          refine R.mvE rfl (by conv => lhs; whnf) ?_
          refine R.mvE rfl (by conv => lhs; whnf) ?_
          refine R.callp rfl rfl rfl (rmeet_c _ _ _ _ _ (f19.mono (((s21.trans sF21).trans s_b0).trans s70)) (by omega) (f21.mono (s_b0.trans s70))) ?_
          intro v94 H94 s94 q94
          refine R.callv rfl rfl rfl (equalU22_c _ _ _ _ _ (h70.mono s94) q94) ?_
          refine R.not rfl rfl ?_
          refine R.pkFE rfl rfl (by conv => lhs; whnf) ?_
          refine TL.nil (Post.thnN ?_)
          refine T.set 97 (.bool false) (congrArg Value.bool (by rw [meetR_c (by simpa using g76) (by simpa using c80), ← meet_eq]; simp)) ?_
          refine T.condN rfl ?_
          refine T.skip (Post.thnN ?_)
          -- cut c80, way nn
          exact ⟨(), s94, ⟨rfl, rfl⟩, rfl, rfl, rfl, rfl, trivial⟩
    · intro _ σ_c80 H_c80 L_c80 ds_c80 s_c80 hI_c80
      obtain ⟨rfl, rfl⟩ := hI_c80
      replace s_c80 := s70.trans s_c80
      refine T.seq ?_
      refine T.region ?_
      refine R.mvE rfl (by conv => lhs; whnf) ?_
      refine R.mvE rfl (by conv => lhs; whnf) ?_
      refine R.callv rfl rfl rfl (Compare_c _ _ _ _ _ (f19.mono (((s21.trans sF21).trans s_b0).trans s_c80)) (f21.mono (s_b0.trans s_c80))) ?_
      refine R.mvE rfl (by conv => lhs; whnf) ?_
      refine R.mvE rfl (by conv => lhs; whnf) ?_
      refine R.callv rfl rfl rfl (rcompare_c _ _ _ _ _ (f19.mono (((s21.trans sF21).trans s_b0).trans s_c80)) (f21.mono (s_b0.trans s_c80))) ?_
      refine R.eql rfl rfl rfl ?_
      refine R.mvE rfl (by conv => lhs; whnf) ?_
      refine TL.set 105 (.bool true) (congrArg Value.bool (decide_eq_true rfl)) ?_
      refine R.mvE rfl (by conv => lhs; whnf) ?_
      refine R.mvE rfl (by conv => lhs; whnf) ?_
      refine TL.call [] rfl rfl rfl (few_c _ _ _ (hr.mono (((s19.trans sF19).trans (s21.trans sF21)).trans (s_b0.trans s_c80)))) ?_
      intro v108 H108 L108 s108 q108
      obtain ⟨c108, rfl, w108⟩ := q108
      refine TL.shut .hd ?_
      intro HF108 sF108 qF108
      rw [← hfx] at w108
      have f108 := w108.read sF108 qF108
      obtain ⟨AF108, pF108, rfl, mF108, nF108, f108⟩ := f108.shape
      refine R.callv rfl rfl rfl (equalU22_c _ _ _ _ _ (f19.mono ((((s21.trans sF21).trans s_b0).trans s_c80).trans (s108.trans sF108))) f108) ?_
      refine R.pkTE rfl rfl (by conv => lhs; whnf) ?_
      refine R.mvE rfl (by conv => lhs; whnf) ?_
      refine TL.set 111 (.bool true) (congrArg Value.bool (decide_eq_true rfl)) ?_
      refine R.mvE rfl (by conv => lhs; whnf) ?_
      refine R.mvE rfl (by conv => lhs; whnf) ?_
      refine TL.call [] rfl rfl rfl (few_c _ _ _ (hr2.mono ((((s19.trans sF19).trans (s21.trans sF21)).trans (s_b0.trans s_c80)).trans (s108.trans sF108)))) ?_
      intro v114 H114 L114 s114 q114
      obtain ⟨c114, rfl, w114⟩ := q114
      refine TL.shut .hd ?_
      intro HF114 sF114 qF114
      rw [← hfy] at w114
      have f114 := w114.read sF114 qF114
      obtain ⟨AF114, pF114, rfl, mF114, nF114, f114⟩ := f114.shape
      refine R.callv rfl rfl rfl (equalU22_c _ _ _ _ _ (f21.mono ((s_b0.trans s_c80).trans ((s108.trans sF108).trans (s114.trans sF114)))) f114) ?_
      refine R.pkTE rfl rfl (by conv => lhs; whnf) ?_
      refine R.asE rfl (by conv => lhs; whnf) ?_
      refine TL.nil (Post.thnN ?_)
      refine T.ret ?_
      exact fin1 rfl rfl ⟨rfl, congrArg Value.bool (decide_eq_true rfl)⟩

end Go.SX
