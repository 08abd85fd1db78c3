/- links: whether they are, how they stand. -/
import Derived.Test.YtkhjpgimjkofcaaSl1
import Derived.Test.YtkhjpgimjkofcaaWc
import Derived.Test.YtkhjpgimjkofcaaSxB
set_option linter.unusedVariables false
set_option linter.unusedSimpArgs false
namespace Go.SX
open Go Go.Proofs

set_option maxHeartbeats 1600000 in
theorem link_c (H : Heap) (y : Lk) : Fv Try.prog (fnv 67) [.agg #[.int .i64 y.1, .int .i64 y.2]] H (.bool (linkB y)) := by
  refine Fc.of_body (N := 17) Try.func67 rfl (by kernel_rfl) rfl rfl ?_
  intro w0
  refine T.seq ?_
  refine T.region ?_
  refine R.box rfl (by conv => lhs; whnf) ?_
  intro b1
  refine R.asE rfl (by conv => lhs; whnf) ?_
  refine TL.nil (Post.thnN ?_)
  refine T.seq ?_
  refine T.shut .hd ?_
  intro H1 s1 q1
  have h1 : H1 b1 = some (.cells #[.int .i64 y.1, .int .i64 y.2] 37) := shut1 q1
  refine T.region ?_
  refine R.fldA Try.underlying37 rfl Try.sizeOf3 (by decide) rfl rfl ?_
  refine R.ldH Try.isAgg3 rfl rfl (h1) rfl ?_
  refine R.fldA Try.underlying37 rfl Try.sizeOf3 (by decide) rfl rfl ?_
  refine R.ldH Try.isAgg3 rfl rfl (h1) rfl ?_
  refine R.min2 rfl rfl rfl ?_
  refine R.geq rfl rfl rfl ?_
  refine R.mvE rfl (by conv => lhs; whnf) ?_
  refine TL.gsplitD 9 rfl (fun g9 => ?_) (fun g9 => ?_)
  · refine R.fldA Try.underlying37 rfl Try.sizeOf3 (by decide) rfl rfl ?_
    refine R.ldH Try.isAgg3 rfl rfl (h1) rfl ?_
    refine R.fldA Try.underlying37 rfl Try.sizeOf3 (by decide) rfl rfl ?_
    refine R.ldH Try.isAgg3 rfl rfl (h1) rfl ?_
    refine R.max2 rfl rfl rfl ?_
    refine R.leq rfl rfl rfl ?_
    refine R.pkTE rfl rfl (by conv => lhs; whnf) ?_
    refine R.asE rfl (by conv => lhs; whnf) ?_
    refine TL.nil (Post.thnN ?_)
    refine T.ret ?_
    -- way y
    exact fin1 rfl rfl ⟨rfl, congrArg Value.bool (link_t g9)⟩
  · refine TL.off rfl rfl rfl ?_
    refine TL.off rfl rfl rfl ?_
    refine TL.off rfl rfl rfl ?_
    refine TL.off rfl rfl rfl ?_
    refine TL.off rfl rfl rfl ?_
    refine TL.off rfl rfl rfl ?_
    refine R.pkFE rfl rfl (by conv => lhs; whnf) ?_
    refine R.asE rfl (by conv => lhs; whnf) ?_
    refine TL.nil (Post.thnN ?_)
    refine T.ret ?_
    -- way n
    exact fin1 rfl rfl ⟨rfl, congrArg Value.bool (link_f g9).symm⟩


set_option maxHeartbeats 1600000 in
theorem or_c (H : Heap) (v : Value) (xs : List Int) (hr : RdS (intE .i64) H v xs) : Fv Try.prog (fnv 85) [v] H (.int .i64 (orI xs)) := by
  refine Fc.of_body (N := 18) Try.func85 rfl (by kernel_rfl) rfl rfl ?_
  intro w0
  obtain ⟨A, c, rfl, hc1, hc2, hr⟩ := hr.shape
  refine T.seq ?_
  refine T.region ?_
  refine R.asE rfl (by conv => lhs; whnf) ?_
  refine TL.nil (Post.thnN ?_)
  refine T.seq ?_
  refine T.region ?_
  refine R.asE rfl (by conv => lhs; whnf) ?_
  refine TL.nil (Post.thnN ?_)
  refine T.seq ?_
  refine T.seq ?_
  refine T.region ?_
  refine R.mvE rfl (by conv => lhs; whnf) ?_
  refine R.len Try.underlying23 rfl rfl ?_
  refine R.mvE rfl (by conv => lhs; whnf) ?_
  refine TL.nil (Post.thnN ?_)
  refine T.block ?_
  refine T.loop (ι := Nat) (fun k H' L' ds' => k ≤ xs.length ∧ ∀ y ∈ xs.take k, y = 0) (fun k => [(3, .int .i64 0), (6, .slice A xs.length c), (7, .int .i64 xs.length), (8, .int .i64 k)]) (fun k => xs.length - k) (0) ?_ ?_ ?_
  · exact ⟨Nat.zero_le _, fun y h => by simp at h⟩
  · exact ⟨rfl, rfl, rfl, rfl, trivial⟩
  · intro k σ0 H_0 L_0 ds_0 s_0 hI_0
    obtain ⟨hk, hw⟩ := hI_0
    refine T.seq ?_
    refine T.region ?_
    refine R.lss rfl rfl rfl ?_
    refine TL.nil (Post.thnN ?_)
    refine T.seq ?_
    refine T.condD rfl (fun c9 => ?_) (fun c9 => ?_)
    · have hlt : k < xs.length := by omega
      obtain ⟨y, hy⟩ := getk hlt
      refine T.skip (Post.thnN ?_)
      refine T.seq ?_
      refine T.block ?_
      refine T.seq ?_
      refine T.region ?_
      obtain ⟨b10, o10, i10, e10⟩ := (hr.mono s_0).elem (hy)
      refine R.ixp Try.underlying23 Try.sizeOf3 rfl rfl rfl (by omega) i10 ?_
      refine R.ldC Try.isAgg3 rfl rfl (e10).int ?_
      refine R.asE rfl (by conv => lhs; whnf) ?_
      refine TL.nil (Post.thnN ?_)
      refine T.seq ?_
      refine T.region ?_
      refine R.mvE rfl (by conv => lhs; whnf) ?_
      refine R.mvE rfl (by conv => lhs; whnf) ?_
      refine R.neq rfl rfl rfl ?_
      refine TL.nil (Post.thnN ?_)
      refine T.condD rfl (fun c14 => ?_) (fun c14 => ?_)
      · refine T.seq ?_
        refine T.region ?_
        refine R.mvE rfl (by conv => lhs; whnf) ?_
        refine R.asE rfl (by conv => lhs; whnf) ?_
        refine TL.nil (Post.thnN ?_)
        refine T.ret (Post.blkR (Post.thnR (Post.thnR (Post.blkR (Post.thnR ?_)))))
        -- way yy
        exact fin1 rfl rfl ⟨rfl, congrArg (Value.int .i64) (orI_at hy hw c14).symm⟩
      · refine T.skip (Post.blkN ?_)
        refine id (Post.thnN ?_)
        refine T.region ?_
        refine R.addI rfl rfl rfl (by omega) ?_
        refine R.mvE rfl (by conv => lhs; whnf) ?_
        refine TL.nil (Post.thnN ?_)
        -- round's end, way yn
        exact ⟨k + 1, s_0, ⟨by omega, zero_snoc hw hy (Decidable.of_not_not c14)⟩, by omega, ⟨rfl, rfl, rfl, rfl, trivial⟩⟩
    · refine T.exit (Post.thnE (Post.thnE (Post.blkX ?_)))
      refine id (Post.thnN ?_)
      refine T.seq ?_
      refine T.region ?_
      refine R.mvE rfl (by conv => lhs; whnf) ?_
      refine R.asE rfl (by conv => lhs; whnf) ?_
      refine TL.nil (Post.thnN ?_)
      refine T.ret ?_
      -- way n
      have hkx : k = xs.length := by omega
      rw [hkx, List.take_length] at hw
      exact fin1 rfl rfl ⟨rfl, congrArg (Value.int .i64) (orI_none hw).symm⟩


set_option maxHeartbeats 1600000 in
theorem cmpP_c (H : Heap) (a b : Lk) : Fv Try.prog (fnv 68) [.agg #[.int .i64 a.1, .int .i64 a.2], .agg #[.int .i64 b.1, .int .i64 b.2]] H (.int .i64 (cmpP a b)) := by
  refine Fc.of_body (N := 17) Try.func68 rfl (by kernel_rfl) rfl rfl ?_
  intro w0
  refine T.seq ?_
  refine T.region ?_
  refine R.box rfl (by conv => lhs; whnf) ?_
  intro b2
  refine R.box rfl (by conv => lhs; whnf) ?_
  intro b3
  refine R.asE rfl (by conv => lhs; whnf) ?_
  refine TL.nil (Post.thnN ?_)
  refine T.seq ?_
  refine T.shut (.tl .hd) ?_
  intro H2 s2 q2
  refine T.shut .hd ?_
  intro H3 s3 q3
  have h2 : H3 b2 = some (.cells #[.int .i64 a.1, .int .i64 a.2] 37) := s3 _ _ (shut1 q2)
  have h3 : H3 b3 = some (.cells #[.int .i64 b.1, .int .i64 b.2] 37) := shut1 q3
  refine T.draw Try_mixed (by kernel_rfl) ?_
  refine Plan.v 0 [1, 2, 3, 4, 5, 6, 7, 8, 9, 10, 11, 12] (by kernel_rfl) (by kernel_rfl) (by kernel_rfl) (by kernel_rfl) rfl (fun _ _ h_ => R.fldA Try.underlying37 rfl Try.sizeOf3 (by decide) rfl rfl (TL.nil h_)) ?_
  refine Plan.v 1 [2, 3, 4, 5, 6, 7, 8, 9, 10, 11, 12] (by kernel_rfl) (by kernel_rfl) (by kernel_rfl) (by kernel_rfl) rfl (fun _ _ h_ => R.ldH Try.isAgg3 rfl rfl (h2) rfl (TL.nil h_)) ?_
  refine Plan.v 2 [3, 4, 5, 6, 7, 8, 9, 10, 11, 12] (by kernel_rfl) (by kernel_rfl) (by kernel_rfl) (by kernel_rfl) rfl (fun _ _ h_ => R.fldA Try.underlying37 rfl Try.sizeOf3 (by decide) rfl rfl (TL.nil h_)) ?_
  refine Plan.v 3 [4, 5, 6, 7, 8, 9, 10, 11, 12] (by kernel_rfl) (by kernel_rfl) (by kernel_rfl) (by kernel_rfl) rfl (fun _ _ h_ => R.ldH Try.isAgg3 rfl rfl (h3) rfl (TL.nil h_)) ?_
  refine Plan.v 4 [5, 6, 7, 8, 9, 10, 11, 12] (by kernel_rfl) (by kernel_rfl) (by kernel_rfl) (by kernel_rfl) rfl (fun _ _ h_ => R.callv rfl rfl rfl (compareI3_c _ _ _) (TL.nil h_)) ?_
  refine Plan.v 5 [6, 7, 8, 9, 10, 11, 12] (by kernel_rfl) (by kernel_rfl) (by kernel_rfl) (by kernel_rfl) rfl (fun _ _ h_ => R.fldA Try.underlying37 rfl Try.sizeOf3 (by decide) rfl rfl (TL.nil h_)) ?_
  refine Plan.v 6 [7, 8, 9, 10, 11, 12] (by kernel_rfl) (by kernel_rfl) (by kernel_rfl) (by kernel_rfl) rfl (fun _ _ h_ => R.ldH Try.isAgg3 rfl rfl (h2) rfl (TL.nil h_)) ?_
  refine Plan.v 7 [8, 9, 10, 11, 12] (by kernel_rfl) (by kernel_rfl) (by kernel_rfl) (by kernel_rfl) rfl (fun _ _ h_ => R.fldA Try.underlying37 rfl Try.sizeOf3 (by decide) rfl rfl (TL.nil h_)) ?_
  refine Plan.v 8 [9, 10, 11, 12] (by kernel_rfl) (by kernel_rfl) (by kernel_rfl) (by kernel_rfl) rfl (fun _ _ h_ => R.ldH Try.isAgg3 rfl rfl (h3) rfl (TL.nil h_)) ?_
  refine Plan.v 9 [10, 11, 12] (by kernel_rfl) (by kernel_rfl) (by kernel_rfl) (by kernel_rfl) rfl (fun _ _ h_ => R.callv rfl rfl rfl (compareI3_c _ _ _) (TL.nil h_)) ?_
  refine Plan.s1 10 [11, 12] (by kernel_rfl) (by kernel_rfl) rfl ?_
  refine R.bsN [_, _] rfl Try.underlying23 Try.sizeOf3 Try.zeroValue3 rfl rfl rfl rfl rfl rfl ?_
  intro b15
  refine TL.shut .hd ?_
  intro H15 s15 q15
  refine TL.nil (Plan.e1 (s15) ?_)
  refine Plan.v 11 [12] (by kernel_rfl) (by kernel_rfl) (by kernel_rfl) (by kernel_rfl) rfl (fun _ _ h_ => R.callv rfl rfl rfl (or_c _ _ _ (RdS.lit2 q15)) (TL.nil h_)) ?_
  refine Plan.v 12 [] (by kernel_rfl) (by kernel_rfl) (by kernel_rfl) (by kernel_rfl) rfl (fun _ _ h_ => R.asE rfl (by conv => lhs; whnf) (TL.nil h_)) ?_
  refine Plan.done (Post.thnN ?_)
  refine T.ret ?_
  exact fin1 rfl rfl ⟨rfl, congrArg (Value.int .i64) (cmpP_or a b)⟩


set_option maxHeartbeats 1600000 in
theorem rlink_c (H : Heap) (y : Lk) : Fv Try.prog (fnv 42) [.agg #[.int .i64 y.1, .int .i64 y.2]] H (.bool (linkB y)) := by
  refine Fc.of_body (N := 21) Try.func42 rfl (by kernel_rfl) rfl rfl ?_
  intro w0
  refine T.seq ?_
  refine T.region ?_
  refine R.box rfl (by conv => lhs; whnf) ?_
  intro b1
  refine R.asE rfl (by conv => lhs; whnf) ?_
  refine TL.nil (Post.thnN ?_)
  refine T.seq ?_
  refine T.shut .hd ?_
  intro H1 s1 q1
  have h1 : H1 b1 = some (.cells #[.int .i64 y.1, .int .i64 y.2] 37) := shut1 q1
  refine T.region ?_
  refine R.fldA Try.underlying37 rfl Try.sizeOf3 (by decide) rfl rfl ?_
  refine R.ldH Try.isAgg3 rfl rfl (h1) rfl ?_
  refine R.geq rfl rfl rfl ?_
  refine R.mvE rfl (by conv => lhs; whnf) ?_
  refine TL.gsplitD 6 rfl (fun g6 => ?_) (fun g6 => ?_)
  · refine R.fldA Try.underlying37 rfl Try.sizeOf3 (by decide) rfl rfl ?_
    refine R.ldH Try.isAgg3 rfl rfl (h1) rfl ?_
    refine R.leq rfl rfl rfl ?_
    refine R.pkTE rfl rfl (by conv => lhs; whnf) ?_
    refine R.mvE rfl (by conv => lhs; whnf) ?_
    refine TL.gsplitD 11 rfl (fun g11 => ?_) (fun g11 => ?_)
    · refine R.fldA Try.underlying37 rfl Try.sizeOf3 (by decide) rfl rfl ?_
      refine R.ldH Try.isAgg3 rfl rfl (h1) rfl ?_
      refine R.geq rfl rfl rfl ?_
      refine R.pkTE rfl rfl (by conv => lhs; whnf) ?_
      refine R.mvE rfl (by conv => lhs; whnf) ?_
      refine TL.gsplitD 16 rfl (fun g16 => ?_) (fun g16 => ?_)
      · refine R.fldA Try.underlying37 rfl Try.sizeOf3 (by decide) rfl rfl ?_
        refine R.ldH Try.isAgg3 rfl rfl (h1) rfl ?_
        refine R.leq rfl rfl rfl ?_
        refine R.pkTE rfl rfl (by conv => lhs; whnf) ?_
        refine R.asE rfl (by conv => lhs; whnf) ?_
        refine TL.nil (Post.thnN ?_)
        refine T.ret ?_
        -- way yyy
        exact fin1 rfl rfl ⟨rfl, congrArg Value.bool (by rw [Bool.eq_iff_iff]; unfold linkB; simp only [Bool.and_eq_true, decide_eq_true_eq, Bool.false_eq_true, false_iff]; omega)⟩
      · refine TL.off rfl rfl rfl ?_
        refine TL.off rfl rfl rfl ?_
        refine TL.off rfl rfl rfl ?_
        refine R.pkFE rfl rfl (by conv => lhs; whnf) ?_
        refine R.asE rfl (by conv => lhs; whnf) ?_
        refine TL.nil (Post.thnN ?_)
        refine T.ret ?_
        -- way yyn
        exact fin1 rfl rfl ⟨rfl, congrArg Value.bool (by rw [Bool.eq_iff_iff]; unfold linkB; simp only [Bool.and_eq_true, decide_eq_true_eq, Bool.false_eq_true, false_iff]; omega)⟩
    · refine TL.off rfl rfl rfl ?_
      refine TL.off rfl rfl rfl ?_
      refine TL.off rfl rfl rfl ?_
      refine R.pkFE rfl rfl (by conv => lhs; whnf) ?_
      refine R.mvE rfl (by conv => lhs; whnf) ?_
      refine TL.off rfl rfl rfl ?_
      refine TL.off rfl rfl rfl ?_
      refine TL.off rfl rfl rfl ?_
      refine R.pkFE rfl rfl (by conv => lhs; whnf) ?_
      refine R.asE rfl (by conv => lhs; whnf) ?_
      refine TL.nil (Post.thnN ?_)
      refine T.ret ?_
      -- way yn
      exact fin1 rfl rfl ⟨rfl, congrArg Value.bool (by rw [Bool.eq_iff_iff]; unfold linkB; simp only [Bool.and_eq_true, decide_eq_true_eq, Bool.false_eq_true, false_iff]; omega)⟩
  · refine TL.off rfl rfl rfl ?_
    refine TL.off rfl rfl rfl ?_
    refine TL.off rfl rfl rfl ?_
    refine R.pkFE rfl rfl (by conv => lhs; whnf) ?_
    refine R.mvE rfl (by conv => lhs; whnf) ?_
    refine TL.off rfl rfl rfl ?_
    refine TL.off rfl rfl rfl ?_
    refine TL.off rfl rfl rfl ?_
    refine R.pkFE rfl rfl (by conv => lhs; whnf) ?_
    refine R.mvE rfl (by conv => lhs; whnf) ?_
    refine TL.off rfl rfl rfl ?_
    refine TL.off rfl rfl rfl ?_
    refine TL.off rfl rfl rfl ?_
    refine R.pkFE rfl rfl (by conv => lhs; whnf) ?_
    refine R.asE rfl (by conv => lhs; whnf) ?_
    refine TL.nil (Post.thnN ?_)
    refine T.ret ?_
    -- way n
    exact fin1 rfl rfl ⟨rfl, congrArg Value.bool (by rw [Bool.eq_iff_iff]; unfold linkB; simp only [Bool.and_eq_true, decide_eq_true_eq, Bool.false_eq_true, false_iff]; omega)⟩


set_option maxHeartbeats 1600000 in
theorem rahead_c (H : Heap) (a b : Lk) : Fv Try.prog (fnv 60) [.agg #[.int .i64 a.1, .int .i64 a.2], .agg #[.int .i64 b.1, .int .i64 b.2]] H (.bool (decide (ltP a b))) := by
  refine Fc.of_body (N := 24) Try.func60 rfl (by kernel_rfl) rfl rfl ?_
  intro w0
  refine T.seq ?_
  refine T.region ?_
  refine R.box rfl (by conv => lhs; whnf) ?_
  intro b2
  refine R.box rfl (by conv => lhs; whnf) ?_
  intro b3
  refine R.asE rfl (by conv => lhs; whnf) ?_
  refine TL.nil (Post.thnN ?_)
  refine T.seq ?_
  refine T.shut (.tl .hd) ?_
  intro H2 s2 q2
  refine T.shut .hd ?_
  intro H3 s3 q3
  have h2 : H3 b2 = some (.cells #[.int .i64 a.1, .int .i64 a.2] 37) := s3 _ _ (shut1 q2)
  have h3 : H3 b3 = some (.cells #[.int .i64 b.1, .int .i64 b.2] 37) := shut1 q3
  refine T.region ?_
  refine R.fldA Try.underlying37 rfl Try.sizeOf3 (by decide) rfl rfl ?_
  refine R.ldH Try.isAgg3 rfl rfl (h2) rfl ?_
  refine R.fldA Try.underlying37 rfl Try.sizeOf3 (by decide) rfl rfl ?_
  refine R.ldH Try.isAgg3 rfl rfl (h3) rfl ?_
  refine R.lss rfl rfl rfl ?_
  refine R.mvE rfl (by conv => lhs; whnf) ?_
  refine TL.gsplitD 10 rfl (fun g10 => ?_) (fun g10 => ?_)
  · refine TL.off rfl rfl rfl ?_
    refine TL.off rfl rfl rfl ?_
    refine TL.off rfl rfl rfl ?_
    refine TL.off rfl rfl rfl ?_
    refine TL.off rfl rfl rfl ?_
    refine TL.off rfl rfl rfl ?_
    refine TL.offU rfl rfl ?_
    refine TL.offU rfl rfl ?_
    refine TL.offU rfl rfl ?_
    refine TL.offU rfl rfl ?_
    refine TL.offU rfl rfl ?_
    refine TL.off rfl rfl rfl ?_
    refine R.pkTE rfl rfl (by conv => lhs; whnf) ?_
    refine R.asE rfl (by conv => lhs; whnf) ?_
    refine TL.nil (Post.thnN ?_)
    refine T.ret ?_
    -- way y
    exact fin1 rfl rfl ⟨rfl, congrArg Value.bool (by rw [ltP_dec, Bool.eq_iff_iff]; simp only [Bool.and_eq_true, Bool.or_eq_true, decide_eq_true_eq, Bool.false_eq_true, false_iff, true_iff]; omega)⟩
  · refine R.fldA Try.underlying37 rfl Try.sizeOf3 (by decide) rfl rfl ?_
    refine R.ldH Try.isAgg3 rfl rfl (h2) rfl ?_
    refine R.fldA Try.underlying37 rfl Try.sizeOf3 (by decide) rfl rfl ?_
    refine R.ldH Try.isAgg3 rfl rfl (h3) rfl ?_
    refine R.eql rfl rfl rfl ?_
    refine R.mvE rfl (by conv => lhs; whnf) ?_
    refine TL.gsplitD 16 rfl (fun g16 => ?_) (fun g16 => ?_)
    · refine R.fldA Try.underlying37 rfl Try.sizeOf3 (by decide) rfl rfl ?_
      refine R.ldH Try.isAgg3 rfl rfl (h2) rfl ?_
      refine R.fldA Try.underlying37 rfl Try.sizeOf3 (by decide) rfl rfl ?_
      refine R.ldH Try.isAgg3 rfl rfl (h3) rfl ?_
      refine R.lss rfl rfl rfl ?_
      refine R.pkTE rfl rfl (by conv => lhs; whnf) ?_
      refine R.pkFE rfl rfl (by conv => lhs; whnf) ?_
      refine R.asE rfl (by conv => lhs; whnf) ?_
      refine TL.nil (Post.thnN ?_)
      refine T.ret ?_
      -- way ny
      exact fin1 rfl rfl ⟨rfl, congrArg Value.bool (by rw [ltP_dec, Bool.eq_iff_iff]; simp only [Bool.and_eq_true, Bool.or_eq_true, decide_eq_true_eq, Bool.false_eq_true, false_iff, true_iff]; omega)⟩
    · refine TL.off rfl rfl rfl ?_
      refine TL.off rfl rfl rfl ?_
      refine TL.off rfl rfl rfl ?_
      refine TL.off rfl rfl rfl ?_
      refine TL.off rfl rfl rfl ?_
      refine R.pkFE rfl rfl (by conv => lhs; whnf) ?_
      refine R.pkFE rfl rfl (by conv => lhs; whnf) ?_
      refine R.asE rfl (by conv => lhs; whnf) ?_
      refine TL.nil (Post.thnN ?_)
      refine T.ret ?_
      -- way nn
      exact fin1 rfl rfl ⟨rfl, congrArg Value.bool (by rw [ltP_dec, Bool.eq_iff_iff]; simp only [Bool.and_eq_true, Bool.or_eq_true, decide_eq_true_eq, Bool.false_eq_true, false_iff, true_iff]; omega)⟩

end Go.SX
