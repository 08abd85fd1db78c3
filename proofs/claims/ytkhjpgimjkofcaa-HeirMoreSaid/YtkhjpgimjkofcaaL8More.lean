/- HeirMore answers true, whatever the input. -/
import Derived.Test.YtkhjpgimjkofcaaHe5
import Derived.Test.YtkhjpgimjkofcaaCw3
import Derived.Test.YtkhjpgimjkofcaaWp
set_option linter.unusedVariables false
set_option linter.unusedSimpArgs false
namespace Go.SX
open Go Go.Proofs

set_option maxHeartbeats 1600000 in
theorem heirMore_c (H : Heap) (v u : Value) (xs : List Lk) (os : List Int) (mm : Int) (hr : RdS pairE H v xs) (hr2 : RdS (intE .i64) H u os) : Fv Try.prog (fnv 6) [v, u, .int .i64 mm] H (.bool true) := by
  refine Fc.of_body (N := 167) Try.func6 rfl (by kernel_rfl) rfl rfl ?_
  intro w0
  obtain ⟨A, c, rfl, hc1, hc2, hr⟩ := hr.shape
  obtain ⟨A2, c2, rfl, hc3, hc4, hr2⟩ := hr2.shape
  obtain ⟨fx, hfx⟩ : ∃ l, l = xs.take 24 := ⟨_, rfl⟩
  have hfl : fx.length ≤ 1000 := by rw [hfx]; simp; omega
  obtain ⟨fo, hfo⟩ : ∃ l, l = os.take 8 := ⟨_, rfl⟩
  have hol : fo.length ≤ 8 := by rw [hfo]; simp; omega
  refine T.seq ?_
  refine T.region ?_
  refine R.asE rfl (by conv => lhs; whnf) ?_
  refine TL.nil (Post.thnN ?_)
  refine T.seq ?_
  refine T.seq ?_
  refine T.region ?_
  refine R.callv rfl rfl rfl (wakes18_c _) ?_
  refine R.not rfl rfl ?_
  refine TL.nil (Post.thnN ?_)
  refine T.condN rfl ?_
  refine T.skip (Post.thnN ?_)
  refine T.seq ?_
  refine T.region ?_
  refine R.mvE rfl (by conv => lhs; whnf) ?_
  refine TL.call [] rfl rfl rfl (own18_c _ _ _ hr) ?_
  intro v31 H31 L31 s31 q31
  obtain ⟨c31, rfl, w31⟩ := q31
  rw [← hfx] at w31
  refine TL.shut .hd ?_
  intro HF31 sF31 qF31
  have f31 := w31.read sF31 qF31
  obtain ⟨AF31, pF31, rfl, mF31, nF31, f31⟩ := f31.shape
  refine R.mvE rfl (by conv => lhs; whnf) ?_
  refine TL.call [] rfl rfl rfl (few18_c _ _ _ (hr2.mono (s31.trans sF31))) ?_
  intro v33 H33 L33 s33 q33
  obtain ⟨c33, rfl, w33⟩ := q33
  rw [← hfo] at w33
  refine TL.shut .hd ?_
  intro HF33 sF33 qF33
  have f33 := w33.read sF33 qF33
  obtain ⟨AF33, pF33, rfl, mF33, nF33, f33⟩ := f33.shape
  refine R.asE rfl (by conv => lhs; whnf) ?_
  refine R.asE rfl (by conv => lhs; whnf) ?_
  refine TL.nil (Post.thnN ?_)
  refine T.seq ?_
  refine T.seq ?_
  refine T.region ?_
  refine R.mvE rfl (by conv => lhs; whnf) ?_
  refine R.callv rfl rfl rfl (ccheck_c _ _ _ (f31.mono (s33.trans sF33))) ?_
  refine R.neq rfl rfl rfl ?_
  refine TL.nil (Post.thnN ?_)
  refine T.condD rfl (fun c36 => ?_) (fun c36 => ?_)
  · refine T.seq ?_
    refine T.region ?_
    refine R.asE rfl (by conv => lhs; whnf) ?_
    refine TL.nil (Post.thnN ?_)
    refine T.ret (Post.thnR ?_)
    -- way y
    exact fin1 rfl rfl ⟨rfl, rfl⟩
  · have hc : chainB fx = true := by
      cases h : chainB fx with
      | true => rfl
      | false => rw [h] at c36; exact absurd (by decide) c36
    refine T.skip (Post.thnN ?_)
    refine T.seq ?_
    refine T.region ?_
    refine R.mvE rfl (by conv => lhs; whnf) ?_
    refine TL.call [] rfl rfl rfl (cloneI23_c _ _ _ f33 (by omega)) ?_
    intro v38 H38 L38 s38 q38
    obtain ⟨c38, rfl, w38⟩ := q38
    refine R.mvE rfl (by conv => lhs; whnf) ?_
    refine R.bs rfl (run_buildSlice1 Try.underlying23 Try.sizeOf3 Try.zeroValue3 rfl rfl) ?_
    intro b40
    refine TL.shut .hd ?_
    intro H40 s40 q40
    obtain ⟨cs41, y41, r41⟩ := Src.rdA (RdS.lit1 q40)
    refine R.app (ys := [mm]) Try_ty23 rfl rfl rfl (w38.mono s40) .hd (r41 _) y41 (by simp; omega) (by simp; omega) ?_
    intro v41 c41 w41
    refine TL.shut .hd ?_
    intro H41 s41 q41
    have g41 := w41.read s41 q41
    obtain ⟨A41, k41, rfl, m41, n41, g41⟩ := g41.shape
    refine R.asE rfl (by conv => lhs; whnf) ?_
    refine TL.nil (Post.thnN ?_)
    refine T.seq ?_
    refine T.seq ?_
    refine T.region ?_
    refine R.mvE rfl (by conv => lhs; whnf) ?_
    refine R.len Try.underlying22 rfl rfl ?_
    refine R.mvE rfl (by conv => lhs; whnf) ?_
    refine TL.nil (Post.thnN ?_)
    refine T.block ?_
    refine T.loop (ι := Nat) (fun i H' L' ds' => i ≤ fx.length ∧ L' = [] ∧ ds' = []) (fun i => [(2, .int .i64 mm), (7, .slice AF31 fx.length pF31), (8, .slice AF33 fo.length pF33), (9, .slice A41 (fo ++ [mm]).length k41), (42, .slice AF31 fx.length pF31), (43, .int .i64 fx.length), (44, .int .i64 i)]) (fun i => fx.length - i) (0) ?_ ?_ ?_
    · exact ⟨Nat.zero_le _, rfl, rfl⟩
    · exact ⟨rfl, rfl, rfl, rfl, rfl, rfl, rfl, trivial⟩
    · intro i σ0 H_0 L_0 ds_0 s_0 hI_0
      obtain ⟨hi, rfl, rfl⟩ := hI_0
      refine T.seq ?_
      refine T.region ?_
      refine R.lss rfl rfl rfl ?_
      refine TL.nil (Post.thnN ?_)
      refine T.seq ?_
      refine T.condD rfl (fun c45 => ?_) (fun c45 => ?_)
      · have hlt : i < fx.length := by omega
        obtain ⟨y, hy⟩ := getk hlt
        refine T.skip (Post.thnN ?_)
        refine T.seq ?_
        refine T.block ?_
        refine T.seq ?_
        refine T.region ?_
        obtain ⟨b46, o46, i46, e46⟩ := ((f31.mono (s33.trans (sF33.trans (s38.trans (s40.trans s41))))).mono s_0).elem (hy)
        refine R.ixp Try.underlying22 Try.sizeOf37 rfl rfl rfl (by omega) i46 ?_
        refine R.ldP Try.isAgg37 Try.sizeOf37 rfl rfl (e46) ?_
        refine R.alloc Try.zeroValue37 rfl ?_
        intro b11
        refine R.stA (old := [.int .i64 0, .int .i64 0]) Try.sizeOf37 rfl rfl rfl rfl rfl (by intro v hv; simp at hv; rcases hv with rfl | rfl <;> rfl) .hd ?_
        refine TL.nil (Post.thnN ?_)
        refine T.seq ?_
        refine T.shut .hd ?_
        intro H11 s11 q11
        have h11 : H11 b11 = some (.cells #[.int .i64 y.1, .int .i64 y.2] 37) := shut1 q11
        refine T.region ?_
        refine R.fldA Try.underlying37 rfl Try.sizeOf3 (by decide) rfl rfl ?_
        refine R.ldH Try.isAgg3 rfl rfl (h11) rfl ?_
        refine R.fldA Try.underlying37 rfl Try.sizeOf3 (by decide) rfl rfl ?_
        refine R.ldH Try.isAgg3 rfl rfl (h11) rfl ?_
        refine R.bsN [_, _] rfl Try.underlying23 Try.sizeOf3 Try.zeroValue3 rfl rfl rfl rfl rfl rfl ?_
        intro b52
        refine TL.shut .hd ?_
        intro H52 s52 q52
        have l52 : RdS (intE .i64) H52 _ [y.1, y.2] := RdS.litN [y.1, y.2] q52 rfl
        refine R.len Try.underlying23 rfl rfl ?_
        refine R.mvE rfl (by conv => lhs; whnf) ?_
        refine TL.nil (Post.thnN ?_)
        refine T.block ?_
        refine T.loop (ι := Nat) (fun j H' L' ds' => j ≤ [y.1, y.2].length ∧ L' = [] ∧ ds' = []) (fun j => [(2, .int .i64 mm), (7, .slice AF31 fx.length pF31), (8, .slice AF33 fo.length pF33), (9, .slice A41 (fo ++ [mm]).length k41), (42, .slice AF31 fx.length pF31), (43, .int .i64 fx.length), (44, .int .i64 i), (52, .slice (some ⟨b52, 0, none⟩) [y.1, y.2].length [y.1, y.2].length), (53, .int .i64 [y.1, y.2].length), (54, .int .i64 j)]) (fun j => [y.1, y.2].length - j) (0) ?_ ?_ ?_
        · exact ⟨Nat.zero_le _, rfl, rfl⟩
        · exact ⟨rfl, rfl, rfl, rfl, rfl, rfl, rfl, rfl, rfl, rfl, trivial⟩
        · intro j σ1 H_1 L_1 ds_1 s_1 hI_1
          obtain ⟨hj, rfl, rfl⟩ := hI_1
          have hl2 : [y.1, y.2].length = 2 := rfl
          refine T.seq ?_
          refine T.region ?_
          refine R.lss rfl rfl rfl ?_
          refine TL.nil (Post.thnN ?_)
          refine T.seq ?_
          refine T.condD rfl (fun c55 => ?_) (fun c55 => ?_)
          · have hlt2 : j < [y.1, y.2].length := by omega
            obtain ⟨v, hv⟩ := getk hlt2
            refine T.skip (Post.thnN ?_)
            refine T.seq ?_
            refine T.block ?_
            refine T.seq ?_
            refine T.region ?_
            obtain ⟨b56, o56, i56, e56⟩ := (l52.mono s_1).elem (hv)
            refine R.ixp Try.underlying23 Try.sizeOf3 rfl rfl rfl (by omega) i56 ?_
            refine R.ldC Try.isAgg3 rfl rfl (e56).int ?_
            refine R.asE rfl (by conv => lhs; whnf) ?_
            refine TL.nil (Post.thnN ?_)
            refine T.seq ?_
            refine T.region ?_
            refine R.mvE rfl (by conv => lhs; whnf) ?_
            refine R.mvE rfl (by conv => lhs; whnf) ?_
            refine R.mvE rfl (by conv => lhs; whnf) ?_
            refine R.callp rfl rfl rfl (owner_c _ _ fx v (f31.mono (s33.trans (sF33.trans (s38.trans (s40.trans (s41.trans (s_0.trans (s11.trans (s52.trans s_1))))))))) hfl _ fo (f33.mono (s38.trans (s40.trans (s41.trans (s_0.trans (s11.trans (s52.trans s_1)))))))) ?_
            intro v62 H62 s62 q62
            obtain ⟨w62, rfl, g62⟩ := q62
            refine R.mvE rfl (by conv => lhs; whnf) ?_
            refine R.ext rfl rfl rfl ?_
            refine R.ext rfl rfl rfl ?_
            refine R.ext rfl rfl rfl ?_
            refine R.asE rfl (by conv => lhs; whnf) ?_
            refine R.asE rfl (by conv => lhs; whnf) ?_
            refine R.asE rfl (by conv => lhs; whnf) ?_
            refine TL.nil (Post.thnN ?_)
            refine T.seq ?_
            refine T.region ?_
            refine R.mvE rfl (by conv => lhs; whnf) ?_
            refine R.mvE rfl (by conv => lhs; whnf) ?_
            refine R.mvE rfl (by conv => lhs; whnf) ?_
            refine R.callp rfl rfl rfl (owner_c _ _ fx v (f31.mono (s33.trans (sF33.trans (s38.trans (s40.trans (s41.trans ((s_0.trans (s11.trans (s52.trans s_1))).trans s62))))))) hfl _ (fo ++ [mm]) (g41.mono ((s_0.trans (s11.trans (s52.trans s_1))).trans s62))) ?_
            intro v70 H70 s70 q70
            obtain ⟨w70, rfl, g70⟩ := q70
            refine R.mvE rfl (by conv => lhs; whnf) ?_
            refine R.ext rfl rfl rfl ?_
            refine R.ext rfl rfl rfl ?_
            refine R.ext rfl rfl rfl ?_
            refine R.asE rfl (by conv => lhs; whnf) ?_
            refine R.asE rfl (by conv => lhs; whnf) ?_
            refine R.asE rfl (by conv => lhs; whnf) ?_
            refine TL.nil (Post.thnN ?_)
            refine T.seq ?_
            refine T.region ?_
            refine R.mvE rfl (by conv => lhs; whnf) ?_
            refine R.mvE rfl (by conv => lhs; whnf) ?_
            refine R.eql rfl rfl rfl ?_
            refine R.mvE rfl (by conv => lhs; whnf) ?_
            refine TL.gsplitD 77 rfl (fun g77 => ?_) (fun g77 => ?_)
            · subst g77
              have hwy : wayR fx v v ≠ [] := by rw [way_self]; simp
              have hm2 := more2 hc (os := fo) hwy
              have hm3 := more3 hc (m := v) (os := fo)
              refine TL.off rfl rfl rfl ?_
              refine TL.off rfl rfl rfl ?_
              refine TL.off rfl rfl rfl ?_
              refine TL.off rfl rfl rfl ?_
              refine R.pkTE rfl rfl (by conv => lhs; whnf) ?_
              refine R.asE rfl (by conv => lhs; whnf) ?_
              refine TL.nil (Post.thnN ?_)
              refine T.block ?_
              refine T.seq ?_
              refine T.region ?_
              refine R.mvE rfl (by conv => lhs; whnf) ?_
              refine R.not rfl rfl ?_
              refine R.mvE rfl (by conv => lhs; whnf) ?_
              refine TL.off rfl rfl rfl ?_
              refine TL.off rfl rfl rfl ?_
              refine TL.off rfl rfl rfl ?_
              refine TL.off rfl rfl rfl ?_
              refine TL.offU rfl rfl ?_
              refine TL.offU rfl rfl ?_
              refine TL.offU rfl rfl ?_
              refine TL.off rfl rfl rfl ?_
              refine R.pkFE rfl rfl (by conv => lhs; whnf) ?_
              refine R.asE rfl (by conv => lhs; whnf) ?_
              refine TL.nil (Post.thnN ?_)
              refine T.condN rfl ?_
              refine T.seq ?_
              refine T.region ?_
              refine R.mvE rfl (by conv => lhs; whnf) ?_
              refine R.mvE rfl (by conv => lhs; whnf) ?_
              refine R.mvE rfl (by conv => lhs; whnf) ?_
              refine R.neq rfl rfl rfl ?_
              refine R.mvE rfl (by conv => lhs; whnf) ?_
              refine TL.set 101 (.bool false) (congrArg Value.bool (by simp [hm2.1])) ?_
              refine R.mvE rfl (by conv => lhs; whnf) ?_
              refine R.mvE rfl (by conv => lhs; whnf) ?_
              refine R.neq rfl rfl rfl ?_
              refine R.mvE rfl (by conv => lhs; whnf) ?_
              refine TL.gsplitD 105 rfl (fun g105 => ?_) (fun g105 => ?_)
              · have hm4 := hm2.2 g105
                refine R.mvE rfl (by conv => lhs; whnf) ?_
                refine R.neq rfl rfl rfl ?_
                refine R.mvE rfl (by conv => lhs; whnf) ?_
                refine TL.set 108 (.bool false) (congrArg Value.bool (by simp [hm4.1])) ?_
                refine R.mvE rfl (by conv => lhs; whnf) ?_
                refine R.mvE rfl (by conv => lhs; whnf) ?_
                refine R.neq rfl rfl rfl ?_
                refine R.pkFE rfl rfl (by conv => lhs; whnf) ?_
                refine R.pkTE rfl rfl (by conv => lhs; whnf) ?_
                refine R.pkFE rfl rfl (by conv => lhs; whnf) ?_
                refine R.pkTE rfl rfl (by conv => lhs; whnf) ?_
                refine R.asE rfl (by conv => lhs; whnf) ?_
                refine TL.nil (Post.thnN ?_)
                refine T.set 96 (.bool false) (congrArg Value.bool (by simp [hm4.2])) ?_
                refine T.condN rfl ?_
                refine T.seq ?_
                refine T.region ?_
                refine R.mvE rfl (by conv => lhs; whnf) ?_
                refine R.mvE rfl (by conv => lhs; whnf) ?_
                refine R.eql rfl rfl rfl ?_
                refine R.mvE rfl (by conv => lhs; whnf) ?_
                refine TL.set 120 (.bool true) (congrArg Value.bool (decide_eq_true rfl)) ?_
                refine R.mvE rfl (by conv => lhs; whnf) ?_
                refine R.mvE rfl (by conv => lhs; whnf) ?_
                refine R.neq rfl rfl rfl ?_
                refine R.pkTE rfl rfl (by conv => lhs; whnf) ?_
                refine R.asE rfl (by conv => lhs; whnf) ?_
                refine TL.nil (Post.thnN ?_)
                refine T.set 116 (.bool false) (congrArg Value.bool (by simp [hm3])) ?_
                refine T.condN rfl ?_
                refine T.skip (Post.blkN ?_)
                refine id (Post.blkN ?_)
                refine id (Post.thnN ?_)
                refine T.region ?_
                refine R.addI rfl rfl rfl (by omega) ?_
                refine R.mvE rfl (by conv => lhs; whnf) ?_
                refine TL.nil (Post.thnN ?_)
                -- round's end, way nyyyy
                exact ⟨j + 1, s_1.trans (s62.trans s70), ⟨by omega, rfl, rfl⟩, by omega, ⟨rfl, rfl, rfl, rfl, rfl, rfl, rfl, rfl, rfl, rfl, trivial⟩⟩
              · refine TL.off rfl rfl rfl ?_
                refine TL.off rfl rfl rfl ?_
                refine TL.off rfl rfl rfl ?_
                refine TL.offU rfl rfl ?_
                refine TL.offU rfl rfl ?_
                refine TL.offU rfl rfl ?_
                refine TL.off rfl rfl rfl ?_
                refine R.pkFE rfl rfl (by conv => lhs; whnf) ?_
                refine R.pkFE rfl rfl (by conv => lhs; whnf) ?_
                refine R.pkTE rfl rfl (by conv => lhs; whnf) ?_
                refine R.asE rfl (by conv => lhs; whnf) ?_
                refine TL.nil (Post.thnN ?_)
                refine T.condN rfl ?_
                refine T.seq ?_
                refine T.region ?_
                refine R.mvE rfl (by conv => lhs; whnf) ?_
                refine R.mvE rfl (by conv => lhs; whnf) ?_
                refine R.eql rfl rfl rfl ?_
                refine R.mvE rfl (by conv => lhs; whnf) ?_
                refine TL.set 120 (.bool true) (congrArg Value.bool (decide_eq_true rfl)) ?_
                refine R.mvE rfl (by conv => lhs; whnf) ?_
                refine R.mvE rfl (by conv => lhs; whnf) ?_
                refine R.neq rfl rfl rfl ?_
                refine R.pkTE rfl rfl (by conv => lhs; whnf) ?_
                refine R.asE rfl (by conv => lhs; whnf) ?_
                refine TL.nil (Post.thnN ?_)
                refine T.set 116 (.bool false) (congrArg Value.bool (by simp [hm3])) ?_
                refine T.condN rfl ?_
                refine T.skip (Post.blkN ?_)
                refine id (Post.blkN ?_)
                refine id (Post.thnN ?_)
                refine T.region ?_
                refine R.addI rfl rfl rfl (by omega) ?_
                refine R.mvE rfl (by conv => lhs; whnf) ?_
                refine TL.nil (Post.thnN ?_)
                -- round's end, way nyyyn
                exact ⟨j + 1, s_1.trans (s62.trans s70), ⟨by omega, rfl, rfl⟩, by omega, ⟨rfl, rfl, rfl, rfl, rfl, rfl, rfl, rfl, rfl, rfl, trivial⟩⟩
            · refine R.mvE rfl (by conv => lhs; whnf) ?_
              refine R.mvE rfl (by conv => lhs; whnf) ?_
              refine R.mvE rfl (by conv => lhs; whnf) ?_
              refine R.callv rfl rfl rfl (leads_c _ _ fx v (f31.mono (s33.trans (sF33.trans (s38.trans (s40.trans (s41.trans ((s_0.trans (s11.trans (s52.trans s_1))).trans (s62.trans s70)))))))) hfl mm) ?_
              refine R.pkFE rfl rfl (by conv => lhs; whnf) ?_
              refine R.asE rfl (by conv => lhs; whnf) ?_
              refine TL.nil (Post.thnN ?_)
              refine T.block ?_
              refine T.seq ?_
              refine T.region ?_
              refine R.mvE rfl (by conv => lhs; whnf) ?_
              refine R.not rfl rfl ?_
              refine R.mvE rfl (by conv => lhs; whnf) ?_
              refine TL.gsplit 86 rfl (fun g86 => ?_) (fun g86 => ?_)
              · have hlf : leadsR fx v mm = false := by
                  cases h : leadsR fx v mm with
                  | false => rfl
                  | true => rw [h] at g86; cases g86
                have hm1 := more1 (os := fo) (no_way hlf g77)
                refine R.mvE rfl (by conv => lhs; whnf) ?_
                refine R.mvE rfl (by conv => lhs; whnf) ?_
                refine R.neq rfl rfl rfl ?_
                refine R.mvE rfl (by conv => lhs; whnf) ?_
                refine TL.set 90 (.bool false) (congrArg Value.bool (by simp [hm1])) ?_
                refine R.mvE rfl (by conv => lhs; whnf) ?_
                refine R.mvE rfl (by conv => lhs; whnf) ?_
                refine R.neq rfl rfl rfl ?_
                refine R.pkFE rfl rfl (by conv => lhs; whnf) ?_
                refine R.pkTE rfl rfl (by conv => lhs; whnf) ?_
                refine R.asE rfl (by conv => lhs; whnf) ?_
                refine TL.nil (Post.thnN ?_)
                refine T.set 83 (.bool false) (congrArg Value.bool (by simp [hm1])) ?_
                refine T.condN rfl ?_
                refine T.seq ?_
                refine T.region ?_
                refine R.mvE rfl (by conv => lhs; whnf) ?_
                refine R.mvE rfl (by conv => lhs; whnf) ?_
                refine TL.set 98 (.bool false) (congrArg Value.bool (hlf)) ?_
                refine TL.off rfl rfl rfl ?_
                refine TL.off rfl rfl rfl ?_
                refine TL.off rfl rfl rfl ?_
                refine TL.offU rfl rfl ?_
                refine TL.offU rfl rfl ?_
                refine TL.offU rfl rfl ?_
                refine TL.offU rfl rfl ?_
                refine TL.offU rfl rfl ?_
                refine TL.offU rfl rfl ?_
                refine TL.offU rfl rfl ?_
                refine TL.offU rfl rfl ?_
                refine TL.offU rfl rfl ?_
                refine TL.offU rfl rfl ?_
                refine TL.offU rfl rfl ?_
                refine TL.offU rfl rfl ?_
                refine TL.off rfl rfl rfl ?_
                refine R.pkFE rfl rfl (by conv => lhs; whnf) ?_
                refine R.asE rfl (by conv => lhs; whnf) ?_
                refine TL.nil (Post.thnN ?_)
                refine T.condN rfl ?_
                refine T.seq ?_
                refine T.region ?_
                refine R.mvE rfl (by conv => lhs; whnf) ?_
                refine R.mvE rfl (by conv => lhs; whnf) ?_
                refine R.eql rfl rfl rfl ?_
                refine R.mvE rfl (by conv => lhs; whnf) ?_
                refine TL.set 120 (.bool false) (congrArg Value.bool (decide_eq_false g77)) ?_
                refine TL.off rfl rfl rfl ?_
                refine TL.off rfl rfl rfl ?_
                refine TL.off rfl rfl rfl ?_
                refine R.pkFE rfl rfl (by conv => lhs; whnf) ?_
                refine R.asE rfl (by conv => lhs; whnf) ?_
                refine TL.nil (Post.thnN ?_)
                refine T.condN rfl ?_
                refine T.skip (Post.blkN ?_)
                refine id (Post.blkN ?_)
                refine id (Post.thnN ?_)
                refine T.region ?_
                refine R.addI rfl rfl rfl (by omega) ?_
                refine R.mvE rfl (by conv => lhs; whnf) ?_
                refine TL.nil (Post.thnN ?_)
                -- round's end, way nyyny
                exact ⟨j + 1, s_1.trans (s62.trans s70), ⟨by omega, rfl, rfl⟩, by omega, ⟨rfl, rfl, rfl, rfl, rfl, rfl, rfl, rfl, rfl, rfl, trivial⟩⟩
              · have hlt3 : leadsR fx v mm = true := by
                  cases h : leadsR fx v mm with
                  | true => rfl
                  | false => rw [h] at g86; cases g86
                have hm2 := more2 hc (os := fo) (yes_way hlt3)
                refine TL.off rfl rfl rfl ?_
                refine TL.off rfl rfl rfl ?_
                refine TL.off rfl rfl rfl ?_
                refine TL.off rfl rfl rfl ?_
                refine TL.offU rfl rfl ?_
                refine TL.offU rfl rfl ?_
                refine TL.offU rfl rfl ?_
                refine TL.off rfl rfl rfl ?_
                refine R.pkFE rfl rfl (by conv => lhs; whnf) ?_
                refine R.asE rfl (by conv => lhs; whnf) ?_
                refine TL.nil (Post.thnN ?_)
                refine T.condN rfl ?_
                refine T.seq ?_
                refine T.region ?_
                refine R.mvE rfl (by conv => lhs; whnf) ?_
                refine R.mvE rfl (by conv => lhs; whnf) ?_
                refine TL.set 98 (.bool true) (congrArg Value.bool (hlt3)) ?_
                refine R.mvE rfl (by conv => lhs; whnf) ?_
                refine R.neq rfl rfl rfl ?_
                refine R.mvE rfl (by conv => lhs; whnf) ?_
                refine TL.set 101 (.bool false) (congrArg Value.bool (by simp [hm2.1])) ?_
                refine R.mvE rfl (by conv => lhs; whnf) ?_
                refine R.mvE rfl (by conv => lhs; whnf) ?_
                refine R.neq rfl rfl rfl ?_
                refine R.mvE rfl (by conv => lhs; whnf) ?_
                refine TL.gsplitD 105 rfl (fun g105 => ?_) (fun g105 => ?_)
                · have hm4 := hm2.2 g105
                  refine R.mvE rfl (by conv => lhs; whnf) ?_
                  refine R.neq rfl rfl rfl ?_
                  refine R.mvE rfl (by conv => lhs; whnf) ?_
                  refine TL.set 108 (.bool false) (congrArg Value.bool (by simp [hm4.1])) ?_
                  refine R.mvE rfl (by conv => lhs; whnf) ?_
                  refine R.mvE rfl (by conv => lhs; whnf) ?_
                  refine R.neq rfl rfl rfl ?_
                  refine R.pkFE rfl rfl (by conv => lhs; whnf) ?_
                  refine R.pkTE rfl rfl (by conv => lhs; whnf) ?_
                  refine R.pkFE rfl rfl (by conv => lhs; whnf) ?_
                  refine R.pkTE rfl rfl (by conv => lhs; whnf) ?_
                  refine R.asE rfl (by conv => lhs; whnf) ?_
                  refine TL.nil (Post.thnN ?_)
                  refine T.set 96 (.bool false) (congrArg Value.bool (by simp [hm4.2])) ?_
                  refine T.condN rfl ?_
                  refine T.seq ?_
                  refine T.region ?_
                  refine R.mvE rfl (by conv => lhs; whnf) ?_
                  refine R.mvE rfl (by conv => lhs; whnf) ?_
                  refine R.eql rfl rfl rfl ?_
                  refine R.mvE rfl (by conv => lhs; whnf) ?_
                  refine TL.set 120 (.bool false) (congrArg Value.bool (decide_eq_false g77)) ?_
                  refine TL.off rfl rfl rfl ?_
                  refine TL.off rfl rfl rfl ?_
                  refine TL.off rfl rfl rfl ?_
                  refine R.pkFE rfl rfl (by conv => lhs; whnf) ?_
                  refine R.asE rfl (by conv => lhs; whnf) ?_
                  refine TL.nil (Post.thnN ?_)
                  refine T.condN rfl ?_
                  refine T.skip (Post.blkN ?_)
                  refine id (Post.blkN ?_)
                  refine id (Post.thnN ?_)
                  refine T.region ?_
                  refine R.addI rfl rfl rfl (by omega) ?_
                  refine R.mvE rfl (by conv => lhs; whnf) ?_
                  refine TL.nil (Post.thnN ?_)
                  -- round's end, way nyynny
                  exact ⟨j + 1, s_1.trans (s62.trans s70), ⟨by omega, rfl, rfl⟩, by omega, ⟨rfl, rfl, rfl, rfl, rfl, rfl, rfl, rfl, rfl, rfl, trivial⟩⟩
                · refine TL.off rfl rfl rfl ?_
                  refine TL.off rfl rfl rfl ?_
                  refine TL.off rfl rfl rfl ?_
                  refine TL.offU rfl rfl ?_
                  refine TL.offU rfl rfl ?_
                  refine TL.offU rfl rfl ?_
                  refine TL.off rfl rfl rfl ?_
                  refine R.pkFE rfl rfl (by conv => lhs; whnf) ?_
                  refine R.pkFE rfl rfl (by conv => lhs; whnf) ?_
                  refine R.pkTE rfl rfl (by conv => lhs; whnf) ?_
                  refine R.asE rfl (by conv => lhs; whnf) ?_
                  refine TL.nil (Post.thnN ?_)
                  refine T.condN rfl ?_
                  refine T.seq ?_
                  refine T.region ?_
                  refine R.mvE rfl (by conv => lhs; whnf) ?_
                  refine R.mvE rfl (by conv => lhs; whnf) ?_
                  refine R.eql rfl rfl rfl ?_
                  refine R.mvE rfl (by conv => lhs; whnf) ?_
                  refine TL.set 120 (.bool false) (congrArg Value.bool (decide_eq_false g77)) ?_
                  refine TL.off rfl rfl rfl ?_
                  refine TL.off rfl rfl rfl ?_
                  refine TL.off rfl rfl rfl ?_
                  refine R.pkFE rfl rfl (by conv => lhs; whnf) ?_
                  refine R.asE rfl (by conv => lhs; whnf) ?_
                  refine TL.nil (Post.thnN ?_)
                  refine T.condN rfl ?_
                  refine T.skip (Post.blkN ?_)
                  refine id (Post.blkN ?_)
                  refine id (Post.thnN ?_)
                  refine T.region ?_
                  refine R.addI rfl rfl rfl (by omega) ?_
                  refine R.mvE rfl (by conv => lhs; whnf) ?_
                  refine TL.nil (Post.thnN ?_)
                  -- round's end, way nyynnn
                  exact ⟨j + 1, s_1.trans (s62.trans s70), ⟨by omega, rfl, rfl⟩, by omega, ⟨rfl, rfl, rfl, rfl, rfl, rfl, rfl, rfl, rfl, rfl, trivial⟩⟩
          · refine T.exit (Post.thnE (Post.thnE (Post.blkX ?_)))
            refine id (Post.blkN ?_)
            refine id (Post.thnN ?_)
            refine T.region ?_
            refine R.addI rfl rfl rfl (by omega) ?_
            refine R.mvE rfl (by conv => lhs; whnf) ?_
            refine TL.nil (Post.thnN ?_)
            -- round's end, way nyn
            exact ⟨i + 1, (s_0.trans (s11.trans (s52.trans s_1))), ⟨by omega, rfl, rfl⟩, by omega, ⟨rfl, rfl, rfl, rfl, rfl, rfl, rfl, trivial⟩⟩
      · refine T.exit (Post.thnE (Post.thnE (Post.blkX ?_)))
        refine id (Post.thnN ?_)
        refine T.seq ?_
        refine T.region ?_
        refine R.mvE rfl (by conv => lhs; whnf) ?_
        refine R.mvE rfl (by conv => lhs; whnf) ?_
        refine R.mvE rfl (by conv => lhs; whnf) ?_
        refine R.callp rfl rfl rfl (heirs_c _ _ _ fx mm (fo ++ [mm]) (f31.mono (s33.trans (sF33.trans (s38.trans (s40.trans (s41.trans s_0)))))) hfl (g41.mono s_0)) ?_
        intro v131 H131 s131 q131
        obtain ⟨w131, rfl, g131⟩ := q131
        obtain ⟨A131, k131, rfl, m131, n131, g131⟩ := g131.shape
        refine R.mvE rfl (by conv => lhs; whnf) ?_
        refine R.ext rfl rfl rfl ?_
        refine R.ext rfl rfl rfl ?_
        refine R.asE rfl (by conv => lhs; whnf) ?_
        refine R.asE rfl (by conv => lhs; whnf) ?_
        refine TL.nil (Post.thnN ?_)
        refine T.seq ?_
        refine T.seq ?_
        refine T.region ?_
        refine R.mvE rfl (by conv => lhs; whnf) ?_
        refine R.len Try.underlying23 rfl rfl ?_
        refine R.mvE rfl (by conv => lhs; whnf) ?_
        refine TL.nil (Post.thnN ?_)
        refine T.block ?_
        refine T.loop (ι := Nat) (fun k H' L' ds' => k ≤ (heirsR fx mm (fo ++ [mm])).length ∧ L' = [] ∧ ds' = []) (fun k => [(2, .int .i64 mm), (7, .slice AF31 fx.length pF31), (9, .slice A41 (fo ++ [mm]).length k41), (21, .slice A131 (heirsR fx mm (fo ++ [mm])).length k131), (22, .int .i64 (if chainB fx then 0 else 260)), (134, .slice A131 (heirsR fx mm (fo ++ [mm])).length k131), (135, .int .i64 (heirsR fx mm (fo ++ [mm])).length), (136, .int .i64 k)]) (fun k => (heirsR fx mm (fo ++ [mm])).length - k) (0) ?_ ?_ ?_
        · exact ⟨Nat.zero_le _, rfl, rfl⟩
        · exact ⟨rfl, rfl, rfl, rfl, rfl, rfl, rfl, rfl, trivial⟩
        · intro k σ2 H_2 L_2 ds_2 s_2 hI_2
          obtain ⟨hk, rfl, rfl⟩ := hI_2
          refine T.seq ?_
          refine T.region ?_
          refine R.lss rfl rfl rfl ?_
          refine TL.nil (Post.thnN ?_)
          refine T.seq ?_
          refine T.condD rfl (fun c137 => ?_) (fun c137 => ?_)
          · have hlt : k < (heirsR fx mm (fo ++ [mm])).length := by omega
            obtain ⟨h, hh⟩ := getk hlt
            obtain ⟨hh1, hh2, hh3⟩ := heirs_mem hc (List.mem_of_getElem? hh)
            refine T.skip (Post.thnN ?_)
            refine T.seq ?_
            refine T.block ?_
            refine T.seq ?_
            refine T.region ?_
            obtain ⟨b138, o138, i138, e138⟩ := (g131.mono s_2).elem (hh)
            refine R.ixp Try.underlying23 Try.sizeOf3 rfl rfl rfl (by omega) i138 ?_
            refine R.ldC Try.isAgg3 rfl rfl (e138).int ?_
            refine R.asE rfl (by conv => lhs; whnf) ?_
            refine TL.nil (Post.thnN ?_)
            refine T.seq ?_
            refine T.region ?_
            refine R.mvE rfl (by conv => lhs; whnf) ?_
            refine R.mvE rfl (by conv => lhs; whnf) ?_
            refine R.mvE rfl (by conv => lhs; whnf) ?_
            refine R.callp rfl rfl rfl (owner_c _ _ fx h (f31.mono (s33.trans (sF33.trans (s38.trans (s40.trans (s41.trans (s_0.trans (s131.trans s_2)))))))) hfl _ (fo ++ [mm]) (g41.mono (s_0.trans (s131.trans s_2)))) ?_
            intro v144 H144 s144 q144
            obtain ⟨w144, rfl, g144⟩ := q144
            refine R.mvE rfl (by conv => lhs; whnf) ?_
            refine R.ext rfl rfl rfl ?_
            refine R.ext rfl rfl rfl ?_
            refine R.ext rfl rfl rfl ?_
            refine R.asE rfl (by conv => lhs; whnf) ?_
            refine R.asE rfl (by conv => lhs; whnf) ?_
            refine R.asE rfl (by conv => lhs; whnf) ?_
            refine TL.nil (Post.thnN ?_)
            refine T.seq ?_
            refine T.region ?_
            refine R.mvE rfl (by conv => lhs; whnf) ?_
            refine R.neq rfl rfl rfl ?_
            refine R.mvE rfl (by conv => lhs; whnf) ?_
            refine TL.set 150 (.bool false) (congrArg Value.bool (by simp [hh1])) ?_
            refine R.mvE rfl (by conv => lhs; whnf) ?_
            refine R.mvE rfl (by conv => lhs; whnf) ?_
            refine R.neq rfl rfl rfl ?_
            refine R.pkFE rfl rfl (by conv => lhs; whnf) ?_
            refine R.mvE rfl (by conv => lhs; whnf) ?_
            refine TL.set 155 (.bool false) (congrArg Value.bool (by simp [hh2])) ?_
            refine R.mvE rfl (by conv => lhs; whnf) ?_
            refine R.mvE rfl (by conv => lhs; whnf) ?_
            refine R.eql rfl rfl rfl ?_
            refine R.pkFE rfl rfl (by conv => lhs; whnf) ?_
            refine TL.nil (Post.thnN ?_)
            refine T.set 159 (.bool false) (congrArg Value.bool (decide_eq_false hh3)) ?_
            refine T.condN rfl ?_
            refine T.skip (Post.blkN ?_)
            refine id (Post.thnN ?_)
            refine T.region ?_
            refine R.addI rfl rfl rfl (by omega) ?_
            refine R.mvE rfl (by conv => lhs; whnf) ?_
            refine TL.nil (Post.thnN ?_)
            -- round's end, way nny
            exact ⟨k + 1, s_2.trans s144, ⟨by omega, rfl, rfl⟩, by omega, ⟨rfl, rfl, rfl, rfl, rfl, rfl, rfl, rfl, trivial⟩⟩
          · refine T.exit (Post.thnE (Post.thnE (Post.blkX ?_)))
            refine id (Post.thnN ?_)
            refine T.seq ?_
            refine T.region ?_
            refine R.mvE rfl (by conv => lhs; whnf) ?_
            refine R.eql rfl rfl rfl ?_
            refine R.mvE rfl (by conv => lhs; whnf) ?_
            refine TL.set 163 (.bool true) (congrArg Value.bool (by simp [hc])) ?_
            refine R.mvE rfl (by conv => lhs; whnf) ?_
            refine R.callv rfl rfl rfl (isSorted_c _ _ _ (g131.mono s_2) heirs_sorted) ?_
            refine R.pkTE rfl rfl (by conv => lhs; whnf) ?_
            refine R.asE rfl (by conv => lhs; whnf) ?_
            refine TL.nil (Post.thnN ?_)
            refine T.ret ?_
            -- way nnn
            exact fin1 rfl rfl ⟨rfl, rfl⟩

end Go.SX
