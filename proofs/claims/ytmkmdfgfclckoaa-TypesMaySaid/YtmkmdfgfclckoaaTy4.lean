/- types: Meet, Compare; the reference's Compare. -/
import Derived.Test.YtmkmdfgfclckoaaTy3
import Derived.Test.YtmkmdfgfclckoaaSl3
import Derived.Test.YtmkmdfgfclckoaaR32
set_option linter.unusedVariables false
set_option linter.unusedSimpArgs false
namespace Go.SX
open Go Go.Proofs

set_option maxHeartbeats 1600000 in
theorem Compare_c (H : Heap) (v u : Value) (xs ys : List Int) (hr : RdS (intE .u64) H v xs) (hr2 : RdS (intE .u64) H u ys) : Fv Try.prog (fnv 30) [v, u] H (.int .i64 (cmpL xs ys)) := by
  refine Fc.of_body (N := 8) Try.func30 rfl (by kernel_rfl) rfl rfl ?_
  intro w0
  refine T.seq ?_
  refine T.region ?_
  refine R.asE rfl (by conv => lhs; whnf) ?_
  refine TL.nil (Post.thnN ?_)
  refine T.seq ?_
  refine T.region ?_
  refine R.mvE rfl (by conv => lhs; whnf) ?_
  refine R.mvE rfl (by conv => lhs; whnf) ?_
  refine R.callv rfl rfl rfl (compareFU22_c _ _ _ _ _ _ hr hr2 (fun H2 _ a b => compareU28_c H2 a b)) ?_
  refine R.asE rfl (by conv => lhs; whnf) ?_
  refine TL.nil (Post.thnN ?_)
  refine T.ret ?_
  exact fin1 rfl rfl ⟨rfl, rfl⟩


set_option maxHeartbeats 1600000 in
theorem rcompare_c (H : Heap) (v u : Value) (xs ys : List Int) (hr : RdS (intE .u64) H v xs) (hr2 : RdS (intE .u64) H u ys) : Fv Try.prog (fnv 36) [v, u] H (.int .i64 (cmpL xs ys)) := by
  refine Fc.of_body (N := 40) Try.func36 rfl (by kernel_rfl) rfl rfl ?_
  intro w0
  obtain ⟨A, c, rfl, hc1, hc2, hr⟩ := hr.shape
  obtain ⟨A2, c2, rfl, hc3, hc4, hr2⟩ := hr2.shape
  refine T.seq ?_
  refine T.region ?_
  refine R.asE rfl (by conv => lhs; whnf) ?_
  refine TL.nil (Post.thnN ?_)
  refine T.seq ?_
  refine T.seq ?_
  refine T.region ?_
  refine R.mvE rfl (by conv => lhs; whnf) ?_
  refine R.len Try.underlying22 rfl rfl ?_
  refine R.mvE rfl (by conv => lhs; whnf) ?_
  refine TL.nil (Post.thnN ?_)
  refine T.block ?_
  refine T.loop (ι := Nat) (fun k H' L' ds' => k ≤ xs.length ∧ k ≤ ys.length ∧ xs.take k = ys.take k) (fun k => [(0, .slice A xs.length c), (1, .slice A2 ys.length c2), (7, .slice A xs.length c), (8, .int .i64 xs.length), (9, .int .i64 k)]) (fun k => xs.length - k) (0) ?_ ?_ ?_
  · exact ⟨Nat.zero_le _, Nat.zero_le _, rfl⟩
  · exact ⟨rfl, rfl, rfl, rfl, rfl, trivial⟩
  · intro k σ0 H_0 L_0 ds_0 s_0 hI_0
    obtain ⟨hk, hk2, hw⟩ := hI_0
    refine T.seq ?_
    refine T.region ?_
    refine R.lss rfl rfl rfl ?_
    refine TL.nil (Post.thnN ?_)
    refine T.seq ?_
    refine T.condD rfl (fun c10 => ?_) (fun c10 => ?_)
    · have hlt : k < xs.length := by omega
      obtain ⟨a, hx⟩ := getk hlt
      refine T.skip (Post.thnN ?_)
      refine T.seq ?_
      refine T.block ?_
      refine T.seq ?_
      refine T.region ?_
      refine R.mvE rfl (by conv => lhs; whnf) ?_
      obtain ⟨b12, o12, i12, e12⟩ := (hr.mono s_0).elem (hx)
      refine R.ixp Try.underlying22 Try.sizeOf28 rfl rfl rfl (by omega) i12 ?_
      refine R.ldC Try.isAgg28 rfl rfl (e12).int ?_
      refine R.asE rfl (by conv => lhs; whnf) ?_
      refine R.asE rfl (by conv => lhs; whnf) ?_
      refine TL.nil (Post.thnN ?_)
      refine T.block ?_
      refine T.seq ?_
      refine T.region ?_
      refine R.mvE rfl (by conv => lhs; whnf) ?_
      refine R.mvE rfl (by conv => lhs; whnf) ?_
      refine R.len Try.underlying22 rfl rfl ?_
      refine R.eql rfl rfl rfl ?_
      refine R.mvE rfl (by conv => lhs; whnf) ?_
      refine TL.gsplitD 19 rfl (fun g19 => ?_) (fun g19 => ?_)
      · refine TL.off rfl rfl rfl ?_
        refine TL.off rfl rfl rfl ?_
        refine TL.off rfl rfl rfl ?_
        refine TL.off rfl rfl rfl ?_
        refine TL.off rfl rfl rfl ?_
        refine TL.off rfl rfl rfl ?_
        refine R.pkTE rfl rfl (by conv => lhs; whnf) ?_
        refine R.asE rfl (by conv => lhs; whnf) ?_
        refine TL.nil (Post.thnN ?_)
        refine T.condY rfl ?_
        refine T.seq ?_
        refine T.region ?_
        refine R.asE rfl (by conv => lhs; whnf) ?_
        refine TL.nil (Post.thnN ?_)
        refine T.ret (Post.blkR (Post.blkR (Post.thnR (Post.thnR (Post.blkR (Post.thnR ?_))))))
        -- way yy
        have hky : k = ys.length := by omega
        exact fin1 rfl rfl ⟨rfl, congrArg (Value.int .i64) (cmpL_long xs ys (by rw [← hky, hw, hky, List.take_length]) (by omega)).symm⟩
      · obtain ⟨b, hy⟩ := getk (xs := ys) (k := k) (by omega)
        refine R.mvE rfl (by conv => lhs; whnf) ?_
        refine R.mvE rfl (by conv => lhs; whnf) ?_
        refine R.mvE rfl (by conv => lhs; whnf) ?_
        obtain ⟨b23, o23, i23, e23⟩ := (hr2.mono s_0).elem (hy)
        refine R.ixp Try.underlying22 Try.sizeOf28 rfl rfl rfl (by omega) i23 ?_
        refine R.ldC Try.isAgg28 rfl rfl (e23).int ?_
        refine R.gtr rfl rfl rfl ?_
        refine R.pkFE rfl rfl (by conv => lhs; whnf) ?_
        refine R.asE rfl (by conv => lhs; whnf) ?_
        refine TL.nil (Post.thnN ?_)
        refine T.condD rfl (fun c14 => ?_) (fun c14 => ?_)
        · refine T.seq ?_
          refine T.region ?_
          refine R.asE rfl (by conv => lhs; whnf) ?_
          refine TL.nil (Post.thnN ?_)
          refine T.ret (Post.blkR (Post.blkR (Post.thnR (Post.thnR (Post.blkR (Post.thnR ?_))))))
          -- way yny
          exact fin1 rfl rfl ⟨rfl, congrArg (Value.int .i64) (by rw [cmpL_at k xs ys a b hw hx hy (by omega)]; unfold cmpI; rw [if_neg (by omega), if_pos (by omega)])⟩
        · refine T.seq ?_
          refine T.region ?_
          refine R.mvE rfl (by conv => lhs; whnf) ?_
          refine R.mvE rfl (by conv => lhs; whnf) ?_
          refine R.mvE rfl (by conv => lhs; whnf) ?_
          obtain ⟨b31, o31, i31, e31⟩ := (hr2.mono s_0).elem (hy)
          refine R.ixp Try.underlying22 Try.sizeOf28 rfl rfl rfl (by omega) i31 ?_
          refine R.ldC Try.isAgg28 rfl rfl (e31).int ?_
          refine R.lss rfl rfl rfl ?_
          refine R.asE rfl (by conv => lhs; whnf) ?_
          refine TL.nil (Post.thnN ?_)
          refine T.condD rfl (fun c27 => ?_) (fun c27 => ?_)
          · refine T.seq ?_
            refine T.region ?_
            refine R.asE rfl (by conv => lhs; whnf) ?_
            refine TL.nil (Post.thnN ?_)
            refine T.ret (Post.blkR (Post.blkR (Post.thnR (Post.thnR (Post.blkR (Post.thnR ?_))))))
            -- way ynny
            exact fin1 rfl rfl ⟨rfl, congrArg (Value.int .i64) (by rw [cmpL_at k xs ys a b hw hx hy (by omega)]; unfold cmpI; rw [if_pos (by omega)])⟩
          · refine T.skip (Post.blkN ?_)
            refine id (Post.blkN ?_)
            refine id (Post.thnN ?_)
            refine T.region ?_
            refine R.addI rfl rfl rfl (by omega) ?_
            refine R.mvE rfl (by conv => lhs; whnf) ?_
            refine TL.nil (Post.thnN ?_)
            -- round's end, way ynnn
            have hab : a = b := by omega
            exact ⟨k + 1, s_0, ⟨by omega, by omega, take_eq_of hw hx (by rw [hab]; exact hy)⟩, by omega, ⟨rfl, rfl, rfl, rfl, rfl, trivial⟩⟩
    · refine T.exit (Post.thnE (Post.thnE (Post.blkX ?_)))
      refine id (Post.thnN ?_)
      refine T.seq ?_
      refine T.seq ?_
      refine T.region ?_
      refine R.mvE rfl (by conv => lhs; whnf) ?_
      refine R.len Try.underlying22 rfl rfl ?_
      refine R.mvE rfl (by conv => lhs; whnf) ?_
      refine R.len Try.underlying22 rfl rfl ?_
      refine R.lss rfl rfl rfl ?_
      refine TL.nil (Post.thnN ?_)
      refine T.condD rfl (fun c39 => ?_) (fun c39 => ?_)
      · refine T.seq ?_
        refine T.region ?_
        refine R.asE rfl (by conv => lhs; whnf) ?_
        refine TL.nil (Post.thnN ?_)
        refine T.ret (Post.thnR ?_)
        -- way ny
        have hkx : k = xs.length := by omega
        exact fin1 rfl rfl ⟨rfl, congrArg (Value.int .i64) (by rw [cmpL_end xs ys (by rw [← hkx, ← hw, hkx, List.take_length]), if_pos (by omega)])⟩
      · refine T.skip (Post.thnN ?_)
        refine T.seq ?_
        refine T.region ?_
        refine R.asE rfl (by conv => lhs; whnf) ?_
        refine TL.nil (Post.thnN ?_)
        refine T.ret ?_
        -- way nn
        have hkx : k = xs.length := by omega
        exact fin1 rfl rfl ⟨rfl, congrArg (Value.int .i64) (by rw [cmpL_end xs ys (by rw [← hkx, ← hw, hkx, List.take_length]), if_neg (by omega)])⟩


set_option maxHeartbeats 1600000 in
theorem meet1_c (H : Heap) (b3 : Nat) (u : Value) (ys : List Int) (x : Int) (hr2 : RdS (intE .u64) H u ys) (h3 : H b3 = some (.cells #[u] 22)) : Fv Try.prog (.func (.func 69) #[] ([.pointer (some ⟨b3, 0, none⟩)] : List Value).toArray) [.int .u64 x] H (.bool (ys.any (fun z => decide (x = z)))) := by
  refine Fc.of_body (N := 7) Try.func69 rfl (by kernel_rfl) rfl rfl ?_
  intro w0
  refine T.seq ?_
  refine T.region ?_
  refine R.asE rfl (by conv => lhs; whnf) ?_
  refine TL.nil (Post.thnN ?_)
  refine T.seq ?_
  refine T.region ?_
  refine R.ldH Try.isAgg22 rfl rfl (h3) rfl ?_
  refine R.mvE rfl (by conv => lhs; whnf) ?_
  refine R.callv rfl rfl rfl (containsU22_c _ _ _ _ hr2) ?_
  refine R.asE rfl (by conv => lhs; whnf) ?_
  refine TL.nil (Post.thnN ?_)
  refine T.ret ?_
  exact fin1 rfl rfl ⟨rfl, rfl⟩


set_option maxHeartbeats 1600000 in
theorem Meet_c (H : Heap) (v u : Value) (xs ys : List Int) (hr : RdS (intE .u64) H v xs) (hr2 : RdS (intE .u64) H u ys) (hU : Us xs) (hU2 : Us ys) (hl : xs.length ≤ 1000) : Fp Try.prog (fnv 34) [v, u] H (fun v' H' => ∃ r, v' = .tuple #[r, .int .i64 (meetR xs ys).2] ∧ RdS (intE .u64) H' r (meetR xs ys).1) := by
  refine Fc.of_body (N := 18) Try.func34 rfl (by kernel_rfl) rfl rfl ?_
  intro w0
  obtain ⟨A, c, rfl, hc1, hc2, hr⟩ := hr.shape
  obtain ⟨A2, c2, rfl, hc3, hc4, hr2⟩ := hr2.shape
  refine T.seq ?_
  refine T.region ?_
  refine R.box rfl (by conv => lhs; whnf) ?_
  intro b3
  refine R.asE rfl (by conv => lhs; whnf) ?_
  refine R.asE rfl (by conv => lhs; whnf) ?_
  refine TL.nil (Post.thnN ?_)
  refine T.seq ?_
  refine T.seq ?_
  refine T.region ?_
  refine R.mvE rfl (by conv => lhs; whnf) ?_
  refine R.callv rfl rfl rfl (check_c _ _ _ hr hU) ?_
  refine R.neq rfl rfl rfl ?_
  refine R.mvE rfl (by conv => lhs; whnf) ?_
  refine TL.gsplitD 9 rfl (fun g9 => ?_) (fun g9 => ?_)
  · refine TL.off rfl rfl rfl ?_
    refine TL.off rfl rfl rfl ?_
    refine TL.off rfl rfl rfl ?_
    refine R.pkTE rfl rfl (by conv => lhs; whnf) ?_
    refine TL.nil (Post.thnN ?_)
    refine T.condY rfl ?_
    refine T.seq ?_
    refine T.region ?_
    refine R.asE rfl (by conv => lhs; whnf) ?_
    refine R.asE rfl (by conv => lhs; whnf) ?_
    refine TL.nil (Post.thnN ?_)
    refine T.ret (Post.thnR ?_)
    -- way y
    have hq := meetR_a (ys := ys) (chk_ne.1 g9)
    exact fin2 rfl rfl rfl ⟨rfl, _, by rw [hq]; rfl, by rw [hq]; exact RdS.nil⟩
  · refine R.ld Try.isAgg22 rfl rfl (by repeat (first | exact .hd | refine .tl ?_)) rfl ?_
    refine R.callv rfl rfl rfl (check_c _ _ _ hr2 hU2) ?_
    refine R.neq rfl rfl rfl ?_
    refine R.pkFE rfl rfl (by conv => lhs; whnf) ?_
    refine TL.nil (Post.thnN ?_)
    refine T.condD rfl (fun c13 => ?_) (fun c13 => ?_)
    · refine T.seq ?_
      refine T.region ?_
      refine R.asE rfl (by conv => lhs; whnf) ?_
      refine R.asE rfl (by conv => lhs; whnf) ?_
      refine TL.nil (Post.thnN ?_)
      refine T.ret (Post.thnR ?_)
      -- way ny
      have hq := meetR_b (xs := xs) (chk_ne.1 c13)
      exact fin2 rfl rfl rfl ⟨rfl, _, by rw [hq]; rfl, by rw [hq]; exact RdS.nil⟩
    · refine T.skip (Post.thnN ?_)
      refine T.seq ?_
      refine T.shut .hd ?_
      intro H3 s3 q3
      have h3 := shut1 q3
      have ht : typeB xs = true := by cases h : typeB xs with
        | true => rfl
        | false => exact absurd (chk_ne.2 h) g9
      have ht2 : typeB ys = true := by cases h : typeB ys with
        | true => rfl
        | false => exact absurd (chk_ne.2 h) c13
      refine T.region ?_
      refine R.mvE rfl (by conv => lhs; whnf) ?_
      refine R.mkf (cs := [_]) rfl rfl ?_
      refine R.callp rfl rfl rfl (some_c _ _ _ _ (fun y => ys.any (fun z => decide (y = z))) rfl (hr.mono s3) hU (fun H2 h2 y _ => meet1_c H2 b3 _ ys y ((hr2.mono s3).mono h2) (h2 _ _ h3))) ?_
      intro v16 H16 s16 q16
      obtain ⟨lb, rfl, hit⟩ := q16
      refine R.callp rfl rfl rfl (gatherU22_c _ _ _ _ _ (fun y => y) (enters_of Try.func82 (by kernel_rfl) rfl) rfl (by have := someL_len xs (fun y => ys.any (fun z => decide (y = z))); omega) (fun y hy => hU y (someL_mem hy)) hit (fun H2 _ y _ => self_c H2 y)) ?_
      intro v17 H17 s17 q17
      rw [List.map_id', someL_t ht] at q17
      refine R.asE rfl (by conv => lhs; whnf) ?_
      refine R.asE rfl (by conv => lhs; whnf) ?_
      refine TL.nil (Post.thnN ?_)
      refine T.ret ?_
      -- way nn
      have hq := meetR_c ht ht2
      exact fin2 rfl rfl rfl ⟨rfl, _, by rw [hq]; rfl, by rw [hq]; exact q17⟩

end Go.SX
