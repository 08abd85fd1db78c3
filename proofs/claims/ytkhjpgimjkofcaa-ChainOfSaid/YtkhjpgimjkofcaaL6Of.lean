/- ChainOf answers true, whatever the input. -/
import Derived.Test.YtkhjpgimjkofcaaCo4
import Derived.Test.YtkhjpgimjkofcaaWz
set_option linter.unusedVariables false
set_option linter.unusedSimpArgs false
namespace Go.SX
open Go Go.Proofs

set_option maxHeartbeats 1600000 in
theorem of6_c (H : Heap) (y : Lk) : Fv Try.prog (fnv 41) [.agg #[.int .i64 y.1, .int .i64 y.2]] H (.bool (!linkB y)) := by
  refine Fc.of_body (N := 6) Try.func41 rfl (by kernel_rfl) rfl rfl ?_
  intro w0
  refine T.seq ?_
  refine T.region ?_
  refine R.box rfl (by conv => lhs; whnf) ?_
  intro b1
  refine R.asE rfl (by conv => lhs; whnf) ?_
  refine TL.nil (Post.thnN ?_)
  refine T.seq ?_
  refine T.shut .hd ?_
  intro H1 s1 q1
  have h1 : H1 b1 = some (.cells #[.int .i64 y.1, .int .i64 y.2] 37) := shut1 q1
  refine T.region ?_
  refine R.ldAH Try.isAgg37 Try.sizeOf37 rfl rfl rfl h1 ?_
  refine R.callv rfl rfl rfl (rlink_c _ _) ?_
  refine R.not rfl rfl ?_
  refine R.asE rfl (by conv => lhs; whnf) ?_
  refine TL.nil (Post.thnN ?_)
  refine T.ret ?_
  exact fin1 rfl rfl ⟨rfl, rfl⟩


set_option maxHeartbeats 1600000 in
theorem chainOf_c (H : Heap) (u : Value) (xs : List (List Lk)) (hr : RdS (slE pairE) H u xs) : Fv Try.prog (fnv 8) [u] H (.bool true) := by
  refine Fc.of_body (N := 66) Try.func8 rfl (by kernel_rfl) rfl rfl ?_
  intro w0
  obtain ⟨A, c, rfl, hc1, hc2, hr⟩ := hr.shape
  refine T.seq ?_
  refine T.region ?_
  refine R.asE rfl (by conv => lhs; whnf) ?_
  refine TL.nil (Post.thnN ?_)
  refine T.seq ?_
  refine T.seq ?_
  refine T.region ?_
  refine R.callv rfl rfl rfl (wakes16_c _) ?_
  refine R.not rfl rfl ?_
  refine TL.nil (Post.thnN ?_)
  refine T.condN rfl ?_
  refine T.skip (Post.thnN ?_)
  refine T.seq ?_
  refine T.seq ?_
  refine T.region ?_
  refine R.mvE rfl (by conv => lhs; whnf) ?_
  refine R.len Try.underlying55 rfl rfl ?_
  refine R.mvE rfl (by conv => lhs; whnf) ?_
  refine TL.nil (Post.thnN ?_)
  refine T.block ?_
  refine T.loop (ι := Nat) (fun k H' L' ds' => k ≤ xs.length ∧ L' = [] ∧ ds' = []) (fun k => [(13, .slice A xs.length c), (14, .int .i64 xs.length), (15, .int .i64 k)]) (fun k => xs.length - k) (0) ?_ ?_ ?_
  · exact ⟨Nat.zero_le _, rfl, rfl⟩
  · exact ⟨rfl, rfl, rfl, trivial⟩
  · intro k σ0 H_0 L_0 ds_0 s_0 hI_0
    obtain ⟨hk, rfl, rfl⟩ := hI_0
    refine T.seq ?_
    refine T.region ?_
    refine R.lss rfl rfl rfl ?_
    refine TL.nil (Post.thnN ?_)
    refine T.seq ?_
    refine T.condD rfl (fun c16 => ?_) (fun c16 => ?_)
    · have hlt : k < xs.length := by omega
      obtain ⟨y, hy⟩ := getk hlt
      obtain ⟨fx, hfx⟩ : ∃ l, l = y.take 30 := ⟨_, rfl⟩
      have hfl : fx.length ≤ 1000 := by rw [hfx]; simp; omega
      refine T.skip (Post.thnN ?_)
      refine T.seq ?_
      refine T.block ?_
      refine T.seq ?_
      refine T.region ?_
      refine R.mvE rfl (by conv => lhs; whnf) ?_
      obtain ⟨b18, o18, i18, e18⟩ := (hr.mono s_0).elem (hy)
      refine R.ixp Try.underlying55 Try.sizeOf22 rfl rfl rfl (by omega) i18 ?_
      obtain ⟨v19, k19, r19⟩ := (e18).sl
      obtain ⟨A19, c19, rfl, m19, n19, r19⟩ := r19.shape
      refine R.ldC Try.isAgg22 rfl rfl k19 ?_
      refine R.asE rfl (by conv => lhs; whnf) ?_
      refine R.asE rfl (by conv => lhs; whnf) ?_
      refine TL.nil (Post.thnN ?_)
      refine T.seq ?_
      refine T.seq ?_
      refine T.region ?_
      refine R.mvE rfl (by conv => lhs; whnf) ?_
      refine R.eql rfl rfl rfl ?_
      refine TL.nil (Post.thnN ?_)
      refine T.condD rfl (fun c21 => ?_) (fun c21 => ?_)
      · refine T.exit (Post.thnE (Post.blkE rfl (Post.thnE (Post.thnE (Post.blkX ?_)))))
        refine id (Post.thnN ?_)
        refine T.seq ?_
        refine T.region ?_
        refine R.asE rfl (by conv => lhs; whnf) ?_
        refine TL.nil (Post.thnN ?_)
        refine T.ret ?_
        -- way yy
        exact fin1 rfl rfl ⟨rfl, rfl⟩
      · refine T.skip (Post.thnN ?_)
        refine T.seq ?_
        refine T.region ?_
        refine R.mvE rfl (by conv => lhs; whnf) ?_
        refine TL.call [] rfl rfl rfl (own16_c _ _ _ r19) ?_
        intro v23 H23 L23 s23 q23
        obtain ⟨c23, rfl, w23⟩ := q23
        rw [← hfx] at w23
        refine TL.shut .hd ?_
        intro HF23 sF23 qF23
        have f23 := w23.read sF23 qF23
        obtain ⟨AF23, pF23, rfl, mF23, nF23, f23⟩ := f23.shape
        refine R.asE rfl (by conv => lhs; whnf) ?_
        refine TL.nil (Post.thnN ?_)
        refine T.seq ?_
        refine T.seq ?_
        refine T.region ?_
        refine R.mvE rfl (by conv => lhs; whnf) ?_
        refine R.callv rfl rfl rfl (ccheck_c _ _ _ f23) ?_
        refine R.asE rfl (by conv => lhs; whnf) ?_
        refine TL.nil (Post.thnN ?_)
        refine T.cut (ι := Unit) (fun _ H' L' ds' => L' = [] ∧ ds' = []) (fun _ => [(4, .slice A19 y.length c19), (5, .slice AF23 fx.length pF23), (13, .slice A xs.length c), (14, .int .i64 xs.length), (15, .int .i64 k), (38, .bool false)]) ?_ ?_
        · refine T.region ?_
          refine R.mvE rfl (by conv => lhs; whnf) ?_
          refine R.eql rfl rfl rfl ?_
          refine R.mvE rfl (by conv => lhs; whnf) ?_
          refine R.callv rfl rfl rfl (rright_c _ _ fx f23) ?_
          refine R.neqB Try.underlying4 rfl rfl rfl ?_
          refine R.mvE rfl (by conv => lhs; whnf) ?_
          refine TL.set 31 (.bool false) (congrArg Value.bool (by cases chainB fx <;> rfl)) ?_
          refine R.mvE rfl (by conv => lhs; whnf) ?_
          refine R.neq rfl rfl rfl ?_
          refine R.mvE rfl (by conv => lhs; whnf) ?_
          refine TL.gsplitD 34 rfl (fun g34 => ?_) (fun g34 => ?_)
          · refine R.mvE rfl (by conv => lhs; whnf) ?_
            refine R.neq rfl rfl rfl ?_
            refine R.pkTE rfl rfl (by conv => lhs; whnf) ?_
            refine R.pkFE rfl rfl (by conv => lhs; whnf) ?_
            refine TL.nil (Post.thnN ?_)
            -- cut r9, way y
            exact ⟨(), HLe.refl _, ⟨rfl, rfl⟩, rfl, rfl, rfl, rfl, rfl, congrArg Value.bool (decide_eq_false (by revert g34; cases chainB fx <;> simp)), trivial⟩
          · refine TL.off rfl rfl rfl ?_
            refine TL.off rfl rfl rfl ?_
            refine R.pkFE rfl rfl (by conv => lhs; whnf) ?_
            refine R.pkFE rfl rfl (by conv => lhs; whnf) ?_
            refine TL.nil (Post.thnN ?_)
            -- cut r9, way n
            exact ⟨(), HLe.refl _, ⟨rfl, rfl⟩, rfl, rfl, rfl, rfl, rfl, rfl, trivial⟩
        · intro _ σ_r9 H_r9 L_r9 ds_r9 s_r9 hI_r9
          obtain ⟨rfl, rfl⟩ := hI_r9
          refine T.condN rfl ?_
          refine T.skip (Post.thnN ?_)
          refine T.seq ?_
          refine T.region ?_
          refine R.mvE rfl (by conv => lhs; whnf) ?_
          refine R.callp rfl rfl rfl (of_c _ _ fx (f23.mono s_r9) (by omega)) ?_
          intro v41 H41 s41 q41
          obtain ⟨w41, rfl, g41⟩ := q41
          refine R.mvE rfl (by conv => lhs; whnf) ?_
          refine R.ext rfl rfl rfl ?_
          refine R.ext rfl rfl rfl ?_
          refine R.asE rfl (by conv => lhs; whnf) ?_
          refine R.asE rfl (by conv => lhs; whnf) ?_
          refine TL.nil (Post.thnN ?_)
          refine T.seq ?_
          refine T.region ?_
          refine R.asE rfl (by conv => lhs; whnf) ?_
          refine TL.nil (Post.thnN ?_)
          refine T.seq ?_
          refine T.region ?_
          refine R.asE rfl (by conv => lhs; whnf) ?_
          refine TL.nil (Post.thnN ?_)
          refine T.cut (ι := Value) (fun w H' L' ds' => L' = [] ∧ ds' = [] ∧ RdS pairE H' w (ofR fx).1) (fun w => [(4, .slice A19 y.length c19), (5, .slice AF23 fx.length pF23), (7, w41), (8, .int .i64 (ofR fx).2), (9, w), (10, .int .i64 (ofR fx).2), (13, .slice A xs.length c), (14, .int .i64 xs.length), (15, .int .i64 k)]) ?_ ?_
          · refine T.seq ?_
            refine T.region ?_
            refine R.mvE rfl (by conv => lhs; whnf) ?_
            refine R.callv rfl rfl rfl (containsFP_c _ _ _ _ (fun y => !linkB y) (f23.mono (s_r9.trans s41)) (fun H2 h2 y => of6_c H2 y)) ?_
            refine R.not rfl rfl ?_
            refine TL.nil (Post.thnN ?_)
            refine T.cond rfl (fun c46 => ?_) (fun c46 => ?_)
            · refine T.region ?_
              refine R.mvE rfl (by conv => lhs; whnf) ?_
              refine R.callp rfl rfl rfl (rof_c _ _ fx (f23.mono (s_r9.trans s41)) (by omega)) ?_
              intro v48 H48 s48 q48
              refine R.asE rfl (by conv => lhs; whnf) ?_
              refine R.asE rfl (by conv => lhs; whnf) ?_
              refine TL.nil (Post.thnN ?_)
              -- cut c46, way y
              have hof := ofR_want (by omega) c46
              exact ⟨v48, s48, ⟨rfl, rfl, by rw [hof]; exact q48⟩, rfl, rfl, rfl, rfl, rfl, congrArg (Value.int .i64) (by rw [hof]), rfl, rfl, rfl, trivial⟩
            · refine T.skip (Post.thnN ?_)
              -- cut c46, way n
              have hof := ofR_no c46
              exact ⟨.slice none 0 0, HLe.refl _, ⟨rfl, rfl, by rw [hof]; exact RdS.nil⟩, rfl, rfl, rfl, rfl, rfl, congrArg (Value.int .i64) (by rw [hof]), rfl, rfl, rfl, trivial⟩
          · intro w σ_c46 H_c46 L_c46 ds_c46 s_c46 hI_c46
            obtain ⟨rfl, rfl, hw⟩ := hI_c46
            refine T.seq ?_
            refine T.region ?_
            refine R.mvE rfl (by conv => lhs; whnf) ?_
            refine R.mvE rfl (by conv => lhs; whnf) ?_
            refine R.neq rfl rfl rfl ?_
            refine R.mvE rfl (by conv => lhs; whnf) ?_
            refine TL.set 52 (.bool false) (congrArg Value.bool (decide_eq_false (fun h => h rfl))) ?_
            refine R.mvE rfl (by conv => lhs; whnf) ?_
            refine R.mvE rfl (by conv => lhs; whnf) ?_
            refine R.callv rfl rfl rfl (equalP_c _ _ _ _ _ (g41.mono s_c46) hw) ?_
            refine R.not rfl rfl ?_
            refine R.pkFE rfl rfl (by conv => lhs; whnf) ?_
            refine R.mvE rfl (by conv => lhs; whnf) ?_
            refine TL.set 58 (.bool false) (congrArg Value.bool (by simp)) ?_
            refine R.mvE rfl (by conv => lhs; whnf) ?_
            refine R.mvE rfl (by conv => lhs; whnf) ?_
            refine TL.call [] rfl rfl rfl (own16_c _ _ _ (r19.mono (s23.trans (sF23.trans (s_r9.trans (s41.trans s_c46)))))) ?_
            intro v61 H61 L61 s61 q61
            obtain ⟨c61, rfl, w61⟩ := q61
            rw [← hfx] at w61
            refine TL.shut .hd ?_
            intro HF61 sF61 qF61
            have f61 := w61.read sF61 qF61
            obtain ⟨AF61, pF61, rfl, mF61, nF61, f61⟩ := f61.shape
            refine R.callv rfl rfl rfl (equalP_c _ _ _ _ _ (f23.mono (s_r9.trans (s41.trans (s_c46.trans (s61.trans sF61))))) f61) ?_
            refine R.not rfl rfl ?_
            refine R.pkFE rfl rfl (by conv => lhs; whnf) ?_
            refine TL.nil (Post.thnN ?_)
            refine T.set 64 (.bool false) (congrArg Value.bool (by simp)) ?_
            refine T.condN rfl ?_
            refine T.skip (Post.blkN ?_)
            refine id (Post.thnN ?_)
            refine T.region ?_
            refine R.addI rfl rfl rfl (by omega) ?_
            refine R.mvE rfl (by conv => lhs; whnf) ?_
            refine TL.nil (Post.thnN ?_)
            -- round's end, way yn
            exact ⟨k + 1, s_0.trans (s23.trans (sF23.trans (s_r9.trans (s41.trans (s_c46.trans (s61.trans sF61)))))), ⟨by omega, rfl, rfl⟩, by omega, ⟨rfl, rfl, rfl, trivial⟩⟩
    · refine T.exit (Post.thnE (Post.thnE (Post.blkX ?_)))
      refine id (Post.thnN ?_)
      refine T.seq ?_
      refine T.region ?_
      refine R.asE rfl (by conv => lhs; whnf) ?_
      refine TL.nil (Post.thnN ?_)
      refine T.ret ?_
      -- way n
      exact fin1 rfl rfl ⟨rfl, rfl⟩

end Go.SX
