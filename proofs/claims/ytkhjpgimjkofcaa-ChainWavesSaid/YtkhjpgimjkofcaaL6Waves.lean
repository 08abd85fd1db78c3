/- ChainWaves answers true, whatever the input. -/
import Derived.Test.YtkhjpgimjkofcaaCo4
set_option linter.unusedVariables false
set_option linter.unusedSimpArgs false
namespace Go.SX
open Go Go.Proofs

set_option maxHeartbeats 1600000 in
theorem chainWaves_c (H : Heap) (v u : Value) (xs : List Lk) (ns : List Int) (hr : RdS pairE H v xs) (hr2 : RdS (intE .i64) H u ns) : Fv Try.prog (fnv 13) [v, u] H (.bool true) := by
  refine Fc.of_body (N := 43) Try.func13 rfl (by kernel_rfl) rfl rfl ?_
  intro w0
  obtain ⟨A, c, rfl, hc1, hc2, hr⟩ := hr.shape
  obtain ⟨A2, c2, rfl, hc3, hc4, hr2⟩ := hr2.shape
  obtain ⟨fx, hfx⟩ : ∃ l, l = xs.take 30 := ⟨_, rfl⟩
  have hfl : fx.length ≤ 1000 := by rw [hfx]; simp; omega
  refine T.seq ?_
  refine T.region ?_
  refine R.asE rfl (by conv => lhs; whnf) ?_
  refine TL.nil (Post.thnN ?_)
  refine T.seq ?_
  refine T.seq ?_
  refine T.region ?_
  refine R.callv rfl rfl rfl (wakes16_c _) ?_
  refine R.not rfl rfl ?_
  refine TL.nil (Post.thnN ?_)
  refine T.condN rfl ?_
  refine T.skip (Post.thnN ?_)
  refine T.seq ?_
  refine T.region ?_
  refine R.mvE rfl (by conv => lhs; whnf) ?_
  refine TL.call [] rfl rfl rfl (own16_c _ _ _ hr) ?_
  intro v13 H13 L13 s13 q13
  obtain ⟨c13, rfl, w13⟩ := q13
  rw [← hfx] at w13
  refine TL.shut .hd ?_
  intro HF13 sF13 qF13
  have f13 := w13.read sF13 qF13
  obtain ⟨AF13, pF13, rfl, mF13, nF13, f13⟩ := f13.shape
  refine R.asE rfl (by conv => lhs; whnf) ?_
  refine TL.nil (Post.thnN ?_)
  refine T.seq ?_
  refine T.seq ?_
  refine T.region ?_
  refine R.mvE rfl (by conv => lhs; whnf) ?_
  refine R.len Try.underlying23 rfl rfl ?_
  refine R.mvE rfl (by conv => lhs; whnf) ?_
  refine TL.nil (Post.thnN ?_)
  refine T.block ?_
  refine T.loop (ι := Nat) (fun k H' L' ds' => k ≤ ns.length ∧ L' = [] ∧ ds' = []) (fun k => [(0, .slice A xs.length c), (5, .slice AF13 fx.length pF13), (14, .slice A2 ns.length c2), (15, .int .i64 ns.length), (16, .int .i64 k)]) (fun k => ns.length - k) (0) ?_ ?_ ?_
  · exact ⟨Nat.zero_le _, rfl, rfl⟩
  · exact ⟨rfl, rfl, rfl, rfl, rfl, trivial⟩
  · intro k σ0 H_0 L_0 ds_0 s_0 hI_0
    obtain ⟨hk, rfl, rfl⟩ := hI_0
    refine T.seq ?_
    refine T.region ?_
    refine R.lss rfl rfl rfl ?_
    refine TL.nil (Post.thnN ?_)
    refine T.seq ?_
    refine T.condD rfl (fun c17 => ?_) (fun c17 => ?_)
    · have hlt : k < ns.length := by omega
      obtain ⟨y, hy⟩ := getk hlt
      refine T.skip (Post.thnN ?_)
      refine T.seq ?_
      refine T.block ?_
      refine T.seq ?_
      refine T.region ?_
      refine R.mvE rfl (by conv => lhs; whnf) ?_
      obtain ⟨b19, o19, i19, e19⟩ := (hr2.mono (s13.trans (sF13.trans s_0))).elem (hy)
      refine R.ixp Try.underlying23 Try.sizeOf3 rfl rfl rfl (by omega) i19 ?_
      refine R.ldC Try.isAgg3 rfl rfl (e19).int ?_
      refine R.asE rfl (by conv => lhs; whnf) ?_
      refine R.asE rfl (by conv => lhs; whnf) ?_
      refine TL.nil (Post.thnN ?_)
      refine T.seq ?_
      refine T.seq ?_
      refine T.region ?_
      refine R.mvE rfl (by conv => lhs; whnf) ?_
      refine R.eql rfl rfl rfl ?_
      refine TL.nil (Post.thnN ?_)
      refine T.condD rfl (fun c22 => ?_) (fun c22 => ?_)
      · refine T.exit (Post.thnE (Post.blkE rfl (Post.thnE (Post.thnE (Post.blkX ?_)))))
        refine id (Post.thnN ?_)
        refine T.seq ?_
        refine T.region ?_
        refine R.mvE rfl (by conv => lhs; whnf) ?_
        refine R.mvE rfl (by conv => lhs; whnf) ?_
        refine TL.call [] rfl rfl rfl (own16_c _ _ _ (hr.mono (s13.trans (sF13.trans s_0)))) ?_
        intro v41 H41 L41 s41 q41
        obtain ⟨c41, rfl, w41⟩ := q41
        rw [← hfx] at w41
        refine TL.shut .hd ?_
        intro HF41 sF41 qF41
        have f41 := w41.read sF41 qF41
        obtain ⟨AF41, pF41, rfl, mF41, nF41, f41⟩ := f41.shape
        refine R.callv rfl rfl rfl (equalP_c _ _ _ _ _ (f13.mono (s_0.trans (s41.trans sF41))) f41) ?_
        refine R.asE rfl (by conv => lhs; whnf) ?_
        refine TL.nil (Post.thnN ?_)
        refine T.ret ?_
        -- way yy
        exact fin1 rfl rfl ⟨rfl, congrArg Value.bool (decide_eq_true rfl)⟩
      · refine T.skip (Post.thnN ?_)
        refine T.seq ?_
        refine T.region ?_
        refine R.bld (cs := [.bool false, .bool true]) rfl (fun _ => by kernel_rfl) ?_
        refine R.mvE rfl (by conv => lhs; whnf) ?_
        refine TL.nil (Post.thnN ?_)
        refine T.block ?_
        refine T.loop (ι := Nat) (fun q H' L' ds' => q ≤ 2 ∧ L' = [] ∧ ds' = []) (fun q => [(0, .slice A xs.length c), (5, .slice AF13 fx.length pF13), (7, .int .i64 y), (14, .slice A2 ns.length c2), (15, .int .i64 ns.length), (16, .int .i64 k), (23, .agg #[.bool false, .bool true]), (24, .int .i64 q)]) (fun q => 2 - q) (0) ?_ ?_ ?_
        · exact ⟨Nat.zero_le _, rfl, rfl⟩
        · exact ⟨rfl, rfl, rfl, rfl, rfl, rfl, rfl, rfl, trivial⟩
        · intro q σ1 H_1 L_1 ds_1 s_1 hI_1
          obtain ⟨hq, rfl, rfl⟩ := hI_1
          refine T.seq ?_
          refine T.region ?_
          refine R.lss rfl rfl rfl ?_
          refine TL.nil (Post.thnN ?_)
          refine T.seq ?_
          refine T.condD rfl (fun c25 => ?_) (fun c25 => ?_)
          · have hv26 : ([.bool false, .bool true] : List Value)[((q : Int)).toNat * 1]? = some (.bool (decide (q = 1))) := by
              have h01 : q = 0 ∨ q = 1 := by omega
              rcases h01 with rfl | rfl <;> rfl
            refine T.skip (Post.thnN ?_)
            refine T.seq ?_
            refine T.block ?_
            refine T.seq ?_
            refine T.region ?_
            refine R.idx (cs := [.bool false, .bool true]) (v := .bool (decide (q = 1))) Try.underlying69 Try.isAgg4 Try.sizeOf4 rfl rfl rfl (by omega) (by omega) hv26 ?_
            refine R.asE rfl (by conv => lhs; whnf) ?_
            refine TL.nil (Post.thnN ?_)
            refine T.seq ?_
            refine T.region ?_
            refine R.mvE rfl (by conv => lhs; whnf) ?_
            refine R.mvE rfl (by conv => lhs; whnf) ?_
            refine R.mvE rfl (by conv => lhs; whnf) ?_
            refine R.callp rfl rfl rfl (cwaves_c _ _ fx y (f13.mono (s_0.trans s_1)) hfl (decide (q = 1))) ?_
            intro v30 H30 s30 q30
            refine R.mvE rfl (by conv => lhs; whnf) ?_
            refine R.mvE rfl (by conv => lhs; whnf) ?_
            refine R.mvE rfl (by conv => lhs; whnf) ?_
            refine R.callp rfl rfl rfl (waves_c _ _ fx y (decide (q = 1)) (f13.mono (s_0.trans (s_1.trans s30))) hfl) ?_
            intro v34 H34 s34 q34
            refine R.callv rfl rfl rfl (eqFunc_c _ _ _ _ _ (q30.mono s34) q34) ?_
            refine R.not rfl rfl ?_
            refine TL.nil (Post.thnN ?_)
            refine T.set 36 (.bool false) (congrArg Value.bool (by simp)) ?_
            refine T.condN rfl ?_
            refine T.skip (Post.blkN ?_)
            refine id (Post.thnN ?_)
            refine T.region ?_
            refine R.addI rfl rfl rfl (by omega) ?_
            refine R.mvE rfl (by conv => lhs; whnf) ?_
            refine TL.nil (Post.thnN ?_)
            -- round's end, way yny
            exact ⟨q + 1, s_1.trans (s30.trans s34), ⟨by omega, rfl, rfl⟩, by omega, ⟨rfl, rfl, rfl, rfl, rfl, rfl, rfl, rfl, trivial⟩⟩
          · refine T.exit (Post.thnE (Post.thnE (Post.blkX ?_)))
            refine id (Post.blkN ?_)
            refine id (Post.thnN ?_)
            refine T.region ?_
            refine R.addI rfl rfl rfl (by omega) ?_
            refine R.mvE rfl (by conv => lhs; whnf) ?_
            refine TL.nil (Post.thnN ?_)
            -- round's end, way ynn
            exact ⟨k + 1, s_0.trans s_1, ⟨by omega, rfl, rfl⟩, by omega, ⟨rfl, rfl, rfl, rfl, rfl, trivial⟩⟩
    · refine T.exit (Post.thnE (Post.thnE (Post.blkX ?_)))
      refine id (Post.thnN ?_)
      refine T.seq ?_
      refine T.region ?_
      refine R.mvE rfl (by conv => lhs; whnf) ?_
      refine R.mvE rfl (by conv => lhs; whnf) ?_
      refine TL.call [] rfl rfl rfl (own16_c _ _ _ (hr.mono (s13.trans (sF13.trans s_0)))) ?_
      intro v41 H41 L41 s41 q41
      obtain ⟨c41, rfl, w41⟩ := q41
      rw [← hfx] at w41
      refine TL.shut .hd ?_
      intro HF41 sF41 qF41
      have f41 := w41.read sF41 qF41
      obtain ⟨AF41, pF41, rfl, mF41, nF41, f41⟩ := f41.shape
      refine R.callv rfl rfl rfl (equalP_c _ _ _ _ _ (f13.mono (s_0.trans (s41.trans sF41))) f41) ?_
      refine R.asE rfl (by conv => lhs; whnf) ?_
      refine TL.nil (Post.thnN ?_)
      refine T.ret ?_
      -- way n
      exact fin1 rfl rfl ⟨rfl, congrArg Value.bool (decide_eq_true rfl)⟩

end Go.SX
