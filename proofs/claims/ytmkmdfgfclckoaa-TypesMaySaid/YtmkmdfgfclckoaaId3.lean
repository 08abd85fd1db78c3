/- The reference of ident. -/
import Derived.Test.YtmkmdfgfclckoaaId1
set_option linter.unusedVariables false
set_option linter.unusedSimpArgs false
namespace Go.SX
open Go Go.Proofs

set_option maxHeartbeats 1600000 in
theorem rhalves_c (H : Heap) (x : Int) (hx : U x) : Fv Try.prog (fnv 81) [.int .u64 x] H (.tuple #[.int .i64 (hA x), .int .i64 (hB x)]) := by
  refine Fc.of_body (N := 11) Try.func81 rfl (by kernel_rfl) rfl rfl ?_
  intro w0
  refine T.seq ?_
  refine T.region ?_
  refine R.asE rfl (by conv => lhs; whnf) ?_
  refine R.asE rfl (by conv => lhs; whnf) ?_
  refine TL.nil (Post.thnN ?_)
  refine T.seq ?_
  refine T.region ?_
  refine R.mvE rfl (by conv => lhs; whnf) ?_
  refine R.quo rfl rfl rfl (by omega) ?_
  refine R.rem rfl rfl rfl (by omega) ?_
  refine R.conv Try.underlying27 Try.underlying3 rfl rfl ?_
  refine R.mvE rfl (by conv => lhs; whnf) ?_
  refine R.rem rfl rfl rfl (by omega) ?_
  refine R.conv Try.underlying27 Try.underlying3 rfl rfl ?_
  refine R.asE rfl (by conv => lhs; whnf) ?_
  refine R.asE rfl (by conv => lhs; whnf) ?_
  refine TL.nil (Post.thnN ?_)
  refine T.ret ?_
  exact fin2 rfl rfl rfl ⟨rfl, tup2 (halfA_ref hx) (halfB_ref hx)⟩


set_option maxHeartbeats 1600000 in
theorem rmade_c (H : Heap) (m a b : Int) (hm : m = 0 ∨ m = 4611686018427387904 ∨ m = 9223372036854775808) (ha : 0 ≤ a ∧ a < 1073741824) (hb : 0 ≤ b ∧ b < 1073741824) : Fv Try.prog (fnv 45) [.int .u64 m, .int .i64 a, .int .i64 b] H (.int .u64 (made m a b)) := by
  refine Fc.of_body (N := 15) Try.func45 rfl (by kernel_rfl) rfl rfl ?_
  intro w0
  refine T.seq ?_
  refine T.region ?_
  refine R.asE rfl (by conv => lhs; whnf) ?_
  refine TL.nil (Post.thnN ?_)
  refine T.seq ?_
  refine T.region ?_
  refine R.mvE rfl (by conv => lhs; whnf) ?_
  refine R.mvE rfl (by conv => lhs; whnf) ?_
  refine R.conv Try.underlying3 Try.underlying27 rfl rfl ?_
  refine R.mul rfl rfl rfl ?_
  refine R.add rfl rfl rfl ?_
  refine R.mvE rfl (by conv => lhs; whnf) ?_
  refine R.conv Try.underlying3 Try.underlying27 rfl rfl ?_
  refine R.add rfl rfl rfl ?_
  refine R.asE rfl (by conv => lhs; whnf) ?_
  refine TL.nil (Post.thnN ?_)
  refine T.ret ?_
  exact fin1 rfl rfl ⟨rfl, congrArg _ (made_ref hm ha hb)⟩


set_option maxHeartbeats 1600000 in
theorem ris_c (H : Heap) (n lo mo : Int) : Fv Try.prog (fnv 83) [.int .i64 n, .int .i64 lo, .int .i64 mo] H (.bool (decide (lo ≤ n) && decide (n ≤ mo))) := by
  refine Fc.of_body (N := 15) Try.func83 rfl (by kernel_rfl) rfl rfl ?_
  intro w0
  refine T.seq ?_
  refine T.region ?_
  refine R.asE rfl (by conv => lhs; whnf) ?_
  refine TL.nil (Post.thnN ?_)
  refine T.seq ?_
  refine T.region ?_
  refine R.mvE rfl (by conv => lhs; whnf) ?_
  refine R.mvE rfl (by conv => lhs; whnf) ?_
  refine R.geq rfl rfl rfl ?_
  refine R.mvE rfl (by conv => lhs; whnf) ?_
  refine TL.gsplitD 10 rfl (fun g10 => ?_) (fun g10 => ?_)
  · refine R.mvE rfl (by conv => lhs; whnf) ?_
    refine R.mvE rfl (by conv => lhs; whnf) ?_
    refine R.leq rfl rfl rfl ?_
    refine R.pkTE rfl rfl (by conv => lhs; whnf) ?_
    refine R.asE rfl (by conv => lhs; whnf) ?_
    refine TL.nil (Post.thnN ?_)
    refine T.ret ?_
    -- way y
    exact fin1 rfl rfl ⟨rfl, congrArg Value.bool (by rw [decide_eq_true (p := lo ≤ n) g10]; rfl)⟩
  · refine TL.off rfl rfl rfl ?_
    refine TL.off rfl rfl rfl ?_
    refine TL.off rfl rfl rfl ?_
    refine R.pkFE rfl rfl (by conv => lhs; whnf) ?_
    refine R.asE rfl (by conv => lhs; whnf) ?_
    refine TL.nil (Post.thnN ?_)
    refine T.ret ?_
    -- way n
    exact fin1 rfl rfl ⟨rfl, congrArg Value.bool (by rw [decide_eq_false (p := lo ≤ n) g10]; rfl)⟩


set_option maxHeartbeats 1600000 in
theorem rkind_c (H : Heap) (x : Int) (hx : U x) : Fv Try.prog (fnv 55) [.int .u64 x] H (.int .i64 (kindI x)) := by
  refine Fc.of_body (N := 61) Try.func55 rfl (by kernel_rfl) rfl rfl ?_
  intro w0
  refine T.seq ?_
  refine T.region ?_
  refine R.asE rfl (by conv => lhs; whnf) ?_
  refine TL.nil (Post.thnN ?_)
  refine T.seq ?_
  refine T.region ?_
  refine R.mvE rfl (by conv => lhs; whnf) ?_
  refine R.callv rfl rfl rfl (rhalves_c _ _ hx) ?_
  refine R.mvE rfl (by conv => lhs; whnf) ?_
  refine R.ext rfl rfl rfl ?_
  refine R.ext rfl rfl rfl ?_
  refine R.asE rfl (by conv => lhs; whnf) ?_
  refine R.asE rfl (by conv => lhs; whnf) ?_
  refine TL.nil (Post.thnN ?_)
  refine T.seq ?_
  refine T.block ?_
  refine T.cut (ι := Unit) (fun _ H' L' ds' => L' = [] ∧ ds' = []) (fun _ => [(0, .int .u64 x), (3, .int .i64 (hA x)), (4, .int .i64 (hB x)), (10, .bool (kb x 1))]) ?_ ?_
  · refine T.region ?_
    refine R.mvE rfl (by conv => lhs; whnf) ?_
    refine R.mvE rfl (by conv => lhs; whnf) ?_
    refine R.mvE rfl (by conv => lhs; whnf) ?_
    refine R.callv rfl rfl rfl (rmade_c _ _ _ _ (.inl rfl) (hA_rng x) (hB_rng x)) ?_
    refine R.eql rfl rfl rfl ?_
    refine R.mvE rfl (by conv => lhs; whnf) ?_
    refine TL.gsplitD 16 rfl (fun g16 => ?_) (fun g16 => ?_)
    · refine R.mvE rfl (by conv => lhs; whnf) ?_
      refine R.callv rfl rfl rfl (ris_c _ _ _ _) ?_
      refine R.pkTE rfl rfl (by conv => lhs; whnf) ?_
      refine R.mvE rfl (by conv => lhs; whnf) ?_
      refine TL.gsplit 20 rfl (fun g20 => ?_) (fun g20 => ?_)
      · refine R.mvE rfl (by conv => lhs; whnf) ?_
        refine R.callv rfl rfl rfl (ris_c _ _ _ _) ?_
        refine R.pkTE rfl rfl (by conv => lhs; whnf) ?_
        refine R.asE rfl (by conv => lhs; whnf) ?_
        refine TL.nil (Post.thnN ?_)
        -- cut r2, way yy
        exact ⟨(), HLe.refl _, ⟨rfl, rfl⟩, rfl, rfl, rfl, congrArg Value.bool (by simp only [kb, withinB, List.all_cons, List.all_nil, Bool.and_true]; rw [decide_eq_true g16, g20]; rfl), trivial⟩
      · refine TL.off rfl rfl rfl ?_
        refine TL.off rfl rfl rfl ?_
        refine R.pkFE rfl rfl (by conv => lhs; whnf) ?_
        refine R.asE rfl (by conv => lhs; whnf) ?_
        refine TL.nil (Post.thnN ?_)
        -- cut r2, way yn
        exact ⟨(), HLe.refl _, ⟨rfl, rfl⟩, rfl, rfl, rfl, congrArg Value.bool (by simp only [kb, withinB, List.all_cons, List.all_nil, Bool.and_true]; rw [decide_eq_true g16, g20]; rfl), trivial⟩
    · refine TL.off rfl rfl rfl ?_
      refine TL.off rfl rfl rfl ?_
      refine R.pkFE rfl rfl (by conv => lhs; whnf) ?_
      refine R.mvE rfl (by conv => lhs; whnf) ?_
      refine TL.off rfl rfl rfl ?_
      refine TL.off rfl rfl rfl ?_
      refine R.pkFE rfl rfl (by conv => lhs; whnf) ?_
      refine R.asE rfl (by conv => lhs; whnf) ?_
      refine TL.nil (Post.thnN ?_)
      -- cut r2, way n
      exact ⟨(), HLe.refl _, ⟨rfl, rfl⟩, rfl, rfl, rfl, congrArg Value.bool (by simp only [kb, withinB, List.all_cons, List.all_nil, Bool.and_true]; rw [decide_eq_false g16]; rfl), trivial⟩
  · intro _ σ_r2 H_r2 L_r2 ds_r2 s_r2 hI_r2
    obtain ⟨rfl, rfl⟩ := hI_r2
    refine T.cond rfl (fun c10 => ?_) (fun c10 => ?_)
    · refine T.seq ?_
      refine T.region ?_
      refine R.asE rfl (by conv => lhs; whnf) ?_
      refine TL.nil (Post.thnN ?_)
      refine T.ret (Post.blkR (Post.thnR ?_))
      -- way y
      exact fin1 rfl rfl ⟨rfl, congrArg (Value.int .i64) (by simp [kindI, *])⟩
    · refine T.cut (ι := Unit) (fun _ H' L' ds' => L' = [] ∧ ds' = []) (fun _ => [(0, .int .u64 x), (3, .int .i64 (hA x)), (4, .int .i64 (hB x)), (24, .bool (kb x 2))]) ?_ ?_
      · refine T.region ?_
        refine R.mvE rfl (by conv => lhs; whnf) ?_
        refine R.mvE rfl (by conv => lhs; whnf) ?_
        refine R.callv rfl rfl rfl (rmade_c _ _ _ _ (.inr (.inl rfl)) ⟨by omega, by omega⟩ (hB_rng x)) ?_
        refine R.eql rfl rfl rfl ?_
        refine R.mvE rfl (by conv => lhs; whnf) ?_
        refine TL.gsplitD 29 rfl (fun g29 => ?_) (fun g29 => ?_)
        · refine R.mvE rfl (by conv => lhs; whnf) ?_
          refine R.callv rfl rfl rfl (ris_c _ _ _ _) ?_
          refine R.pkTE rfl rfl (by conv => lhs; whnf) ?_
          refine R.asE rfl (by conv => lhs; whnf) ?_
          refine TL.nil (Post.thnN ?_)
          -- cut r4, way y
          exact ⟨(), HLe.refl _, ⟨rfl, rfl⟩, rfl, rfl, rfl, congrArg Value.bool (by simp only [kb, withinB, List.all_cons, List.all_nil, Bool.and_true]; rw [decide_eq_true g29]; rfl), trivial⟩
        · refine TL.off rfl rfl rfl ?_
          refine TL.off rfl rfl rfl ?_
          refine R.pkFE rfl rfl (by conv => lhs; whnf) ?_
          refine R.asE rfl (by conv => lhs; whnf) ?_
          refine TL.nil (Post.thnN ?_)
          -- cut r4, way n
          exact ⟨(), HLe.refl _, ⟨rfl, rfl⟩, rfl, rfl, rfl, congrArg Value.bool (by simp only [kb, withinB, List.all_cons, List.all_nil, Bool.and_true]; rw [decide_eq_false g29]; rfl), trivial⟩
      · intro _ σ_r4 H_r4 L_r4 ds_r4 s_r4 hI_r4
        obtain ⟨rfl, rfl⟩ := hI_r4
        refine T.cond rfl (fun c24 => ?_) (fun c24 => ?_)
        · refine T.seq ?_
          refine T.region ?_
          refine R.asE rfl (by conv => lhs; whnf) ?_
          refine TL.nil (Post.thnN ?_)
          refine T.ret (Post.blkR (Post.thnR ?_))
          -- way ny
          exact fin1 rfl rfl ⟨rfl, congrArg (Value.int .i64) (by simp [kindI, *])⟩
        · refine T.cut (ι := Unit) (fun _ H' L' ds' => L' = [] ∧ ds' = []) (fun _ => [(0, .int .u64 x), (3, .int .i64 (hA x)), (4, .int .i64 (hB x)), (33, .bool (kb x 3))]) ?_ ?_
          · refine T.region ?_
            refine R.mvE rfl (by conv => lhs; whnf) ?_
            refine R.mvE rfl (by conv => lhs; whnf) ?_
            refine R.mvE rfl (by conv => lhs; whnf) ?_
            refine R.callv rfl rfl rfl (rmade_c _ _ _ _ (.inr (.inr rfl)) (hA_rng x) (hB_rng x)) ?_
            refine R.eql rfl rfl rfl ?_
            refine R.mvE rfl (by conv => lhs; whnf) ?_
            refine TL.gsplitD 39 rfl (fun g39 => ?_) (fun g39 => ?_)
            · refine R.mvE rfl (by conv => lhs; whnf) ?_
              refine R.callv rfl rfl rfl (ris_c _ _ _ _) ?_
              refine R.pkTE rfl rfl (by conv => lhs; whnf) ?_
              refine R.mvE rfl (by conv => lhs; whnf) ?_
              refine TL.gsplit 43 rfl (fun g43 => ?_) (fun g43 => ?_)
              · refine R.mvE rfl (by conv => lhs; whnf) ?_
                refine R.callv rfl rfl rfl (ris_c _ _ _ _) ?_
                refine R.pkTE rfl rfl (by conv => lhs; whnf) ?_
                refine R.asE rfl (by conv => lhs; whnf) ?_
                refine TL.nil (Post.thnN ?_)
                -- cut r6, way yy
                exact ⟨(), HLe.refl _, ⟨rfl, rfl⟩, rfl, rfl, rfl, congrArg Value.bool (by simp only [kb, withinB, List.all_cons, List.all_nil, Bool.and_true]; rw [decide_eq_true g39, g43]; rfl), trivial⟩
              · refine TL.off rfl rfl rfl ?_
                refine TL.off rfl rfl rfl ?_
                refine R.pkFE rfl rfl (by conv => lhs; whnf) ?_
                refine R.asE rfl (by conv => lhs; whnf) ?_
                refine TL.nil (Post.thnN ?_)
                -- cut r6, way yn
                exact ⟨(), HLe.refl _, ⟨rfl, rfl⟩, rfl, rfl, rfl, congrArg Value.bool (by simp only [kb, withinB, List.all_cons, List.all_nil, Bool.and_true]; rw [decide_eq_true g39, g43]; rfl), trivial⟩
            · refine TL.off rfl rfl rfl ?_
              refine TL.off rfl rfl rfl ?_
              refine R.pkFE rfl rfl (by conv => lhs; whnf) ?_
              refine R.mvE rfl (by conv => lhs; whnf) ?_
              refine TL.off rfl rfl rfl ?_
              refine TL.off rfl rfl rfl ?_
              refine R.pkFE rfl rfl (by conv => lhs; whnf) ?_
              refine R.asE rfl (by conv => lhs; whnf) ?_
              refine TL.nil (Post.thnN ?_)
              -- cut r6, way n
              exact ⟨(), HLe.refl _, ⟨rfl, rfl⟩, rfl, rfl, rfl, congrArg Value.bool (by simp only [kb, withinB, List.all_cons, List.all_nil, Bool.and_true]; rw [decide_eq_false g39]; rfl), trivial⟩
          · intro _ σ_r6 H_r6 L_r6 ds_r6 s_r6 hI_r6
            obtain ⟨rfl, rfl⟩ := hI_r6
            refine T.cond rfl (fun c33 => ?_) (fun c33 => ?_)
            · refine T.seq ?_
              refine T.region ?_
              refine R.asE rfl (by conv => lhs; whnf) ?_
              refine TL.nil (Post.thnN ?_)
              refine T.ret (Post.blkR (Post.thnR ?_))
              -- way nny
              exact fin1 rfl rfl ⟨rfl, congrArg (Value.int .i64) (by simp [kindI, *])⟩
            · refine T.cut (ι := Unit) (fun _ H' L' ds' => L' = [] ∧ ds' = []) (fun _ => [(0, .int .u64 x), (3, .int .i64 (hA x)), (4, .int .i64 (hB x)), (47, .bool (kb x 4))]) ?_ ?_
              · refine T.region ?_
                refine R.mvE rfl (by conv => lhs; whnf) ?_
                refine R.mvE rfl (by conv => lhs; whnf) ?_
                refine R.mvE rfl (by conv => lhs; whnf) ?_
                refine R.callv rfl rfl rfl (rmade_c _ _ _ _ (.inr (.inr rfl)) (hA_rng x) (hB_rng x)) ?_
                refine R.eql rfl rfl rfl ?_
                refine R.mvE rfl (by conv => lhs; whnf) ?_
                refine TL.gsplitD 53 rfl (fun g53 => ?_) (fun g53 => ?_)
                · refine R.mvE rfl (by conv => lhs; whnf) ?_
                  refine R.callv rfl rfl rfl (ris_c _ _ _ _) ?_
                  refine R.pkTE rfl rfl (by conv => lhs; whnf) ?_
                  refine R.mvE rfl (by conv => lhs; whnf) ?_
                  refine TL.gsplit 57 rfl (fun g57 => ?_) (fun g57 => ?_)
                  · refine R.mvE rfl (by conv => lhs; whnf) ?_
                    refine R.callv rfl rfl rfl (ris_c _ _ _ _) ?_
                    refine R.pkTE rfl rfl (by conv => lhs; whnf) ?_
                    refine R.asE rfl (by conv => lhs; whnf) ?_
                    refine TL.nil (Post.thnN ?_)
                    -- cut r8, way yy
                    exact ⟨(), HLe.refl _, ⟨rfl, rfl⟩, rfl, rfl, rfl, congrArg Value.bool (by simp only [kb, withinB, List.all_cons, List.all_nil, Bool.and_true]; rw [decide_eq_true g53, g57]; rfl), trivial⟩
                  · refine TL.off rfl rfl rfl ?_
                    refine TL.off rfl rfl rfl ?_
                    refine R.pkFE rfl rfl (by conv => lhs; whnf) ?_
                    refine R.asE rfl (by conv => lhs; whnf) ?_
                    refine TL.nil (Post.thnN ?_)
                    -- cut r8, way yn
                    exact ⟨(), HLe.refl _, ⟨rfl, rfl⟩, rfl, rfl, rfl, congrArg Value.bool (by simp only [kb, withinB, List.all_cons, List.all_nil, Bool.and_true]; rw [decide_eq_true g53, g57]; rfl), trivial⟩
                · refine TL.off rfl rfl rfl ?_
                  refine TL.off rfl rfl rfl ?_
                  refine R.pkFE rfl rfl (by conv => lhs; whnf) ?_
                  refine R.mvE rfl (by conv => lhs; whnf) ?_
                  refine TL.off rfl rfl rfl ?_
                  refine TL.off rfl rfl rfl ?_
                  refine R.pkFE rfl rfl (by conv => lhs; whnf) ?_
                  refine R.asE rfl (by conv => lhs; whnf) ?_
                  refine TL.nil (Post.thnN ?_)
                  -- cut r8, way n
                  exact ⟨(), HLe.refl _, ⟨rfl, rfl⟩, rfl, rfl, rfl, congrArg Value.bool (by simp only [kb, withinB, List.all_cons, List.all_nil, Bool.and_true]; rw [decide_eq_false g53]; rfl), trivial⟩
              · intro _ σ_r8 H_r8 L_r8 ds_r8 s_r8 hI_r8
                obtain ⟨rfl, rfl⟩ := hI_r8
                refine T.cond rfl (fun c47 => ?_) (fun c47 => ?_)
                · refine T.seq ?_
                  refine T.region ?_
                  refine R.asE rfl (by conv => lhs; whnf) ?_
                  refine TL.nil (Post.thnN ?_)
                  refine T.ret (Post.blkR (Post.thnR ?_))
                  -- way nnny
                  exact fin1 rfl rfl ⟨rfl, congrArg (Value.int .i64) (by simp [kindI, *])⟩
                · refine T.skip (Post.blkN ?_)
                  refine id (Post.thnN ?_)
                  refine T.seq ?_
                  refine T.region ?_
                  refine R.asE rfl (by conv => lhs; whnf) ?_
                  refine TL.nil (Post.thnN ?_)
                  refine T.ret ?_
                  -- way nnnn
                  exact fin1 rfl rfl ⟨rfl, congrArg (Value.int .i64) (by simp [kindI, *])⟩


set_option maxHeartbeats 1600000 in
theorem rparts_c (H : Heap) (x : Int) (hx : U x) : Fv Try.prog (fnv 54) [.int .u64 x] H (.tuple #[.int .i64 (partsI x).1, .int .i64 (partsI x).2]) := by
  refine Fc.of_body (N := 22) Try.func54 rfl (by kernel_rfl) rfl rfl ?_
  intro w0
  refine T.seq ?_
  refine T.region ?_
  refine R.asE rfl (by conv => lhs; whnf) ?_
  refine R.asE rfl (by conv => lhs; whnf) ?_
  refine TL.nil (Post.thnN ?_)
  refine T.seq ?_
  refine T.region ?_
  refine R.mvE rfl (by conv => lhs; whnf) ?_
  refine R.callv rfl rfl rfl (rhalves_c _ _ hx) ?_
  refine R.mvE rfl (by conv => lhs; whnf) ?_
  refine R.ext rfl rfl rfl ?_
  refine R.ext rfl rfl rfl ?_
  refine R.asE rfl (by conv => lhs; whnf) ?_
  refine R.asE rfl (by conv => lhs; whnf) ?_
  refine TL.nil (Post.thnN ?_)
  refine T.seq ?_
  refine T.seq ?_
  refine T.region ?_
  refine R.mvE rfl (by conv => lhs; whnf) ?_
  refine R.callv rfl rfl rfl (rkind_c _ _ hx) ?_
  refine TL.nil (Post.thnN ?_)
  refine T.block ?_
  refine T.seq ?_
  refine T.region ?_
  refine R.eql rfl rfl rfl ?_
  refine R.asE rfl (by conv => lhs; whnf) ?_
  refine TL.nil (Post.thnN ?_)
  refine T.condD rfl (fun c13 => ?_) (fun c13 => ?_)
  · refine T.seq ?_
    refine T.region ?_
    refine R.asE rfl (by conv => lhs; whnf) ?_
    refine R.asE rfl (by conv => lhs; whnf) ?_
    refine TL.nil (Post.thnN ?_)
    refine T.ret (Post.blkR (Post.thnR ?_))
    -- way y
    have hr := kind_rng x
    exact fin2 rfl rfl rfl ⟨rfl, tup2 (by unfold partsI; split <;> first | rfl | omega | (split <;> first | rfl | omega)) (by unfold partsI; split <;> first | rfl | omega | (split <;> first | rfl | omega))⟩
  · refine T.seq ?_
    refine T.seq ?_
    refine T.region ?_
    refine R.eql rfl rfl rfl ?_
    refine R.asE rfl (by conv => lhs; whnf) ?_
    refine TL.nil (Post.thnN ?_)
    refine T.condD rfl (fun c15 => ?_) (fun c15 => ?_)
    · refine T.set 15 (.bool true) (congrArg Value.bool (decide_eq_true c15)) ?_
      refine T.skip (Post.thnN ?_)
      refine T.condY rfl ?_
      refine T.seq ?_
      refine T.region ?_
      refine R.mvE rfl (by conv => lhs; whnf) ?_
      refine R.mvE rfl (by conv => lhs; whnf) ?_
      refine R.asE rfl (by conv => lhs; whnf) ?_
      refine R.asE rfl (by conv => lhs; whnf) ?_
      refine TL.nil (Post.thnN ?_)
      refine T.ret (Post.blkR (Post.thnR ?_))
      -- way ny
      have hr := kind_rng x
      exact fin2 rfl rfl rfl ⟨rfl, tup2 (by unfold partsI; split <;> first | rfl | omega | (split <;> first | rfl | omega)) (by unfold partsI; split <;> first | rfl | omega | (split <;> first | rfl | omega))⟩
    · refine T.set 15 (.bool false) (congrArg Value.bool (decide_eq_false c15)) ?_
      refine T.region ?_
      refine R.eql rfl rfl rfl ?_
      refine R.asE rfl (by conv => lhs; whnf) ?_
      refine TL.nil (Post.thnN ?_)
      refine T.condD rfl (fun c15 => ?_) (fun c15 => ?_)
      · refine T.set 15 (.bool true) (congrArg Value.bool (decide_eq_true c15)) ?_
        refine T.seq ?_
        refine T.region ?_
        refine R.mvE rfl (by conv => lhs; whnf) ?_
        refine R.mvE rfl (by conv => lhs; whnf) ?_
        refine R.asE rfl (by conv => lhs; whnf) ?_
        refine R.asE rfl (by conv => lhs; whnf) ?_
        refine TL.nil (Post.thnN ?_)
        refine T.ret (Post.blkR (Post.thnR ?_))
        -- way nny
        have hr := kind_rng x
        exact fin2 rfl rfl rfl ⟨rfl, tup2 (by unfold partsI; split <;> first | rfl | omega | (split <;> first | rfl | omega)) (by unfold partsI; split <;> first | rfl | omega | (split <;> first | rfl | omega))⟩
      · refine T.set 15 (.bool false) (congrArg Value.bool (decide_eq_false c15)) ?_
        refine T.skip (Post.blkN ?_)
        refine id (Post.thnN ?_)
        refine T.seq ?_
        refine T.region ?_
        refine R.mvE rfl (by conv => lhs; whnf) ?_
        refine R.mvE rfl (by conv => lhs; whnf) ?_
        refine R.asE rfl (by conv => lhs; whnf) ?_
        refine R.asE rfl (by conv => lhs; whnf) ?_
        refine TL.nil (Post.thnN ?_)
        refine T.ret ?_
        -- way nnn
        have hr := kind_rng x
        exact fin2 rfl rfl rfl ⟨rfl, tup2 (by unfold partsI; split <;> first | rfl | omega | (split <;> first | rfl | omega)) (by unfold partsI; split <;> first | rfl | omega | (split <;> first | rfl | omega))⟩


set_option maxHeartbeats 1600000 in
theorem rtakes_c (H : Heap) (p x : Int) (hp : U p) (hx : U x) : Fv Try.prog (fnv 47) [.int .u64 p, .int .u64 x] H (.bool (takesB p x)) := by
  refine Fc.of_body (N := 51) Try.func47 rfl (by kernel_rfl) rfl rfl ?_
  intro w0
  refine T.seq ?_
  refine T.region ?_
  refine R.asE rfl (by conv => lhs; whnf) ?_
  refine TL.nil (Post.thnN ?_)
  refine T.seq ?_
  refine T.seq ?_
  refine T.region ?_
  refine R.mvE rfl (by conv => lhs; whnf) ?_
  refine R.callv rfl rfl rfl (rkind_c _ _ hp) ?_
  refine R.lss rfl rfl rfl ?_
  refine TL.nil (Post.thnN ?_)
  refine T.condD rfl (fun c11 => ?_) (fun c11 => ?_)
  · refine T.seq ?_
    refine T.region ?_
    refine R.mvE rfl (by conv => lhs; whnf) ?_
    refine R.callv rfl rfl rfl (rkind_c _ _ hx) ?_
    refine R.gtr rfl rfl rfl ?_
    refine R.mvE rfl (by conv => lhs; whnf) ?_
    refine TL.gsplitD 15 rfl (fun g15 => ?_) (fun g15 => ?_)
    · refine R.mvE rfl (by conv => lhs; whnf) ?_
      refine R.mvE rfl (by conv => lhs; whnf) ?_
      refine R.eql rfl rfl rfl ?_
      refine R.pkTE rfl rfl (by conv => lhs; whnf) ?_
      refine R.asE rfl (by conv => lhs; whnf) ?_
      refine TL.nil (Post.thnN ?_)
      refine T.ret (Post.thnR ?_)
      -- way yy
      have hr := kind_rng p
      have hr2 := kind_rng x
      exact fin1 rfl rfl ⟨rfl, congrArg Value.bool (by rw [Bool.eq_iff_iff]; unfold takesB; split <;> simp only [Bool.and_eq_true, Bool.or_eq_true, decide_eq_true_eq, Bool.false_eq_true, true_iff, false_iff] <;> omega)⟩
    · refine TL.off rfl rfl rfl ?_
      refine TL.off rfl rfl rfl ?_
      refine TL.off rfl rfl rfl ?_
      refine R.pkFE rfl rfl (by conv => lhs; whnf) ?_
      refine R.asE rfl (by conv => lhs; whnf) ?_
      refine TL.nil (Post.thnN ?_)
      refine T.ret (Post.thnR ?_)
      -- way yn
      have hr := kind_rng p
      have hr2 := kind_rng x
      exact fin1 rfl rfl ⟨rfl, congrArg Value.bool (by rw [Bool.eq_iff_iff]; unfold takesB; split <;> simp only [Bool.and_eq_true, Bool.or_eq_true, decide_eq_true_eq, Bool.false_eq_true, true_iff, false_iff] <;> omega)⟩
  · refine T.skip (Post.thnN ?_)
    refine T.seq ?_
    refine T.region ?_
    refine R.mvE rfl (by conv => lhs; whnf) ?_
    refine R.callv rfl rfl rfl (rhalves_c _ _ hp) ?_
    refine R.mvE rfl (by conv => lhs; whnf) ?_
    refine R.ext rfl rfl rfl ?_
    refine R.ext rfl rfl rfl ?_
    refine R.asE rfl (by conv => lhs; whnf) ?_
    refine R.asE rfl (by conv => lhs; whnf) ?_
    refine TL.nil (Post.thnN ?_)
    refine T.seq ?_
    refine T.region ?_
    refine R.mvE rfl (by conv => lhs; whnf) ?_
    refine R.callv rfl rfl rfl (rhalves_c _ _ hx) ?_
    refine R.mvE rfl (by conv => lhs; whnf) ?_
    refine R.ext rfl rfl rfl ?_
    refine R.ext rfl rfl rfl ?_
    refine R.asE rfl (by conv => lhs; whnf) ?_
    refine R.asE rfl (by conv => lhs; whnf) ?_
    refine TL.nil (Post.thnN ?_)
    refine T.seq ?_
    refine T.region ?_
    refine R.mvE rfl (by conv => lhs; whnf) ?_
    refine R.callv rfl rfl rfl (rkind_c _ _ hx) ?_
    refine R.eql rfl rfl rfl ?_
    refine R.mvE rfl (by conv => lhs; whnf) ?_
    refine TL.gsplitD 33 rfl (fun g33 => ?_) (fun g33 => ?_)
    · refine R.mvE rfl (by conv => lhs; whnf) ?_
      refine R.eql rfl rfl rfl ?_
      refine R.mvE rfl (by conv => lhs; whnf) ?_
      refine TL.gsplitD 36 rfl (fun g36 => ?_) (fun g36 => ?_)
      · refine TL.off rfl rfl rfl ?_
        refine TL.off rfl rfl rfl ?_
        refine TL.off rfl rfl rfl ?_
        refine R.pkTE rfl rfl (by conv => lhs; whnf) ?_
        refine R.pkTE rfl rfl (by conv => lhs; whnf) ?_
        refine R.mvE rfl (by conv => lhs; whnf) ?_
        refine R.mvE rfl (by conv => lhs; whnf) ?_
        refine R.eql rfl rfl rfl ?_
        refine R.mvE rfl (by conv => lhs; whnf) ?_
        refine TL.gsplitD 45 rfl (fun g45 => ?_) (fun g45 => ?_)
        · refine TL.off rfl rfl rfl ?_
          refine TL.off rfl rfl rfl ?_
          refine TL.off rfl rfl rfl ?_
          refine R.pkTE rfl rfl (by conv => lhs; whnf) ?_
          refine R.pkTE rfl rfl (by conv => lhs; whnf) ?_
          refine R.asE rfl (by conv => lhs; whnf) ?_
          refine TL.nil (Post.thnN ?_)
          refine T.ret ?_
          -- way nyyy
          have hr := kind_rng p
          have hr2 := kind_rng x
          exact fin1 rfl rfl ⟨rfl, congrArg Value.bool (by rw [Bool.eq_iff_iff]; unfold takesB; split <;> simp only [Bool.and_eq_true, Bool.or_eq_true, decide_eq_true_eq, Bool.false_eq_true, true_iff, false_iff] <;> omega)⟩
        · refine R.mvE rfl (by conv => lhs; whnf) ?_
          refine R.mvE rfl (by conv => lhs; whnf) ?_
          refine R.eql rfl rfl rfl ?_
          refine R.pkFE rfl rfl (by conv => lhs; whnf) ?_
          refine R.pkTE rfl rfl (by conv => lhs; whnf) ?_
          refine R.asE rfl (by conv => lhs; whnf) ?_
          refine TL.nil (Post.thnN ?_)
          refine T.ret ?_
          -- way nyyn
          have hr := kind_rng p
          have hr2 := kind_rng x
          exact fin1 rfl rfl ⟨rfl, congrArg Value.bool (by rw [Bool.eq_iff_iff]; unfold takesB; split <;> simp only [Bool.and_eq_true, Bool.or_eq_true, decide_eq_true_eq, Bool.false_eq_true, true_iff, false_iff] <;> omega)⟩
      · refine R.mvE rfl (by conv => lhs; whnf) ?_
        refine R.mvE rfl (by conv => lhs; whnf) ?_
        refine R.eql rfl rfl rfl ?_
        refine R.pkFE rfl rfl (by conv => lhs; whnf) ?_
        refine R.pkTE rfl rfl (by conv => lhs; whnf) ?_
        refine R.mvE rfl (by conv => lhs; whnf) ?_
        refine TL.gsplitD 42 rfl (fun g42 => ?_) (fun g42 => ?_)
        · refine R.mvE rfl (by conv => lhs; whnf) ?_
          refine R.eql rfl rfl rfl ?_
          refine R.mvE rfl (by conv => lhs; whnf) ?_
          refine TL.gsplitD 45 rfl (fun g45 => ?_) (fun g45 => ?_)
          · refine TL.off rfl rfl rfl ?_
            refine TL.off rfl rfl rfl ?_
            refine TL.off rfl rfl rfl ?_
            refine R.pkTE rfl rfl (by conv => lhs; whnf) ?_
            refine R.pkTE rfl rfl (by conv => lhs; whnf) ?_
            refine R.asE rfl (by conv => lhs; whnf) ?_
            refine TL.nil (Post.thnN ?_)
            refine T.ret ?_
            -- way nynyy
            have hr := kind_rng p
            have hr2 := kind_rng x
            exact fin1 rfl rfl ⟨rfl, congrArg Value.bool (by rw [Bool.eq_iff_iff]; unfold takesB; split <;> simp only [Bool.and_eq_true, Bool.or_eq_true, decide_eq_true_eq, Bool.false_eq_true, true_iff, false_iff] <;> omega)⟩
          · refine R.mvE rfl (by conv => lhs; whnf) ?_
            refine R.mvE rfl (by conv => lhs; whnf) ?_
            refine R.eql rfl rfl rfl ?_
            refine R.pkFE rfl rfl (by conv => lhs; whnf) ?_
            refine R.pkTE rfl rfl (by conv => lhs; whnf) ?_
            refine R.asE rfl (by conv => lhs; whnf) ?_
            refine TL.nil (Post.thnN ?_)
            refine T.ret ?_
            -- way nynyn
            have hr := kind_rng p
            have hr2 := kind_rng x
            exact fin1 rfl rfl ⟨rfl, congrArg Value.bool (by rw [Bool.eq_iff_iff]; unfold takesB; split <;> simp only [Bool.and_eq_true, Bool.or_eq_true, decide_eq_true_eq, Bool.false_eq_true, true_iff, false_iff] <;> omega)⟩
        · refine TL.off rfl rfl rfl ?_
          refine TL.off rfl rfl rfl ?_
          refine TL.off rfl rfl rfl ?_
          refine TL.offU rfl rfl ?_
          refine TL.offU rfl rfl ?_
          refine TL.offU rfl rfl ?_
          refine TL.off rfl rfl rfl ?_
          refine R.pkFE rfl rfl (by conv => lhs; whnf) ?_
          refine R.asE rfl (by conv => lhs; whnf) ?_
          refine TL.nil (Post.thnN ?_)
          refine T.ret ?_
          -- way nynn
          have hr := kind_rng p
          have hr2 := kind_rng x
          exact fin1 rfl rfl ⟨rfl, congrArg Value.bool (by rw [Bool.eq_iff_iff]; unfold takesB; split <;> simp only [Bool.and_eq_true, Bool.or_eq_true, decide_eq_true_eq, Bool.false_eq_true, true_iff, false_iff] <;> omega)⟩
    · refine TL.off rfl rfl rfl ?_
      refine TL.off rfl rfl rfl ?_
      refine TL.off rfl rfl rfl ?_
      refine TL.offU rfl rfl ?_
      refine TL.offU rfl rfl ?_
      refine TL.offU rfl rfl ?_
      refine TL.off rfl rfl rfl ?_
      refine R.pkFE rfl rfl (by conv => lhs; whnf) ?_
      refine R.mvE rfl (by conv => lhs; whnf) ?_
      refine TL.off rfl rfl rfl ?_
      refine TL.off rfl rfl rfl ?_
      refine TL.off rfl rfl rfl ?_
      refine TL.offU rfl rfl ?_
      refine TL.offU rfl rfl ?_
      refine TL.offU rfl rfl ?_
      refine TL.off rfl rfl rfl ?_
      refine R.pkFE rfl rfl (by conv => lhs; whnf) ?_
      refine R.asE rfl (by conv => lhs; whnf) ?_
      refine TL.nil (Post.thnN ?_)
      refine T.ret ?_
      -- way nn
      have hr := kind_rng p
      have hr2 := kind_rng x
      exact fin1 rfl rfl ⟨rfl, congrArg Value.bool (by rw [Bool.eq_iff_iff]; unfold takesB; split <;> simp only [Bool.and_eq_true, Bool.or_eq_true, decide_eq_true_eq, Bool.false_eq_true, true_iff, false_iff] <;> omega)⟩

end Go.SX
