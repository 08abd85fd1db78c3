/- types: may, Check, with, own, With, Without, Of. -/
import Derived.Test.YtmkmdfgfclckoaaSl2
import Derived.Test.YtmkmdfgfclckoaaId2
import Derived.Test.YtmkmdfgfclckoaaWt
set_option linter.unusedVariables false
set_option linter.unusedSimpArgs false
namespace Go.SX
open Go Go.Proofs

set_option maxHeartbeats 1600000 in
theorem may_c (H : Heap) (x : Int) (hx : U x) : Fv Try.prog (fnv 61) [.int .u64 x] H (.bool (mayB x)) := by
  refine Fc.of_body (N := 12) Try.func61 rfl (by kernel_rfl) rfl rfl ?_
  intro w0
  refine T.seq ?_
  refine T.region ?_
  refine R.asE rfl (by conv => lhs; whnf) ?_
  refine TL.nil (Post.thnN ?_)
  refine T.seq ?_
  refine T.region ?_
  refine R.mvE rfl (by conv => lhs; whnf) ?_
  refine R.callv rfl rfl rfl (kind_c _ _ hx) ?_
  refine R.asE rfl (by conv => lhs; whnf) ?_
  refine TL.nil (Post.thnN ?_)
  refine T.seq ?_
  refine T.region ?_
  refine R.mvE rfl (by conv => lhs; whnf) ?_
  refine R.eql rfl rfl rfl ?_
  refine R.mvE rfl (by conv => lhs; whnf) ?_
  refine TL.gsplitD 8 rfl (fun g8 => ?_) (fun g8 => ?_)
  · refine TL.off rfl rfl rfl ?_
    refine TL.off rfl rfl rfl ?_
    refine R.pkTE rfl rfl (by conv => lhs; whnf) ?_
    refine R.asE rfl (by conv => lhs; whnf) ?_
    refine TL.nil (Post.thnN ?_)
    refine T.ret ?_
    -- way y
    exact fin1 rfl rfl ⟨rfl, congrArg Value.bool (by unfold mayB; simp [g8])⟩
  · refine R.mvE rfl (by conv => lhs; whnf) ?_
    refine R.eql rfl rfl rfl ?_
    refine R.pkFE rfl rfl (by conv => lhs; whnf) ?_
    refine R.asE rfl (by conv => lhs; whnf) ?_
    refine TL.nil (Post.thnN ?_)
    refine T.ret ?_
    -- way n
    exact fin1 rfl rfl ⟨rfl, congrArg Value.bool (by unfold mayB; simp [g8])⟩


set_option maxHeartbeats 1600000 in
theorem check_c (H : Heap) (v : Value) (xs : List Int) (hr : RdS (intE .u64) H v xs) (hU : Us xs) : Fv Try.prog (fnv 27) [v] H (.int .i64 (if typeB xs then 0 else 130)) := by
  refine Fc.of_body (N := 39) Try.func27 rfl (by kernel_rfl) rfl rfl ?_
  intro w0
  obtain ⟨A, c, rfl, hc1, hc2, hr⟩ := hr.shape
  refine T.seq ?_
  refine T.region ?_
  refine R.asE rfl (by conv => lhs; whnf) ?_
  refine TL.nil (Post.thnN ?_)
  refine T.scope ?_
  refine T.seq ?_
  refine T.region ?_
  refine R.mvE rfl (by conv => lhs; whnf) ?_
  refine R.len Try.underlying22 rfl rfl ?_
  refine R.leq rfl rfl rfl ?_
  refine R.asE rfl (by conv => lhs; whnf) ?_
  refine TL.nil (Post.thnN ?_)
  refine T.seq ?_
  refine T.label (Post.thnN ?_)
  refine T.seq ?_
  refine T.seq ?_
  refine T.region ?_
  refine R.mvE rfl (by conv => lhs; whnf) ?_
  refine R.len Try.underlying22 rfl rfl ?_
  refine R.mvE rfl (by conv => lhs; whnf) ?_
  refine TL.nil (Post.thnN ?_)
  refine T.block ?_
  refine T.loop (ι := Nat) (fun k H' L' ds' => k ≤ xs.length ∧ (k = 0 ∨ xs.length ≤ 12) ∧ (∀ x ∈ xs.take k, mayB x = true) ∧ Up (xs.take k)) (fun k => [(0, .slice A xs.length c), (3, .bool (decide ((xs.length : Int) ≤ 12))), (9, .slice A xs.length c), (10, .int .i64 xs.length), (11, .int .i64 k)]) (fun k => xs.length - k) (0) ?_ ?_ ?_
  · exact ⟨Nat.zero_le _, .inl rfl, fun x h => by simp at h, List.Pairwise.nil⟩
  · exact ⟨rfl, rfl, rfl, rfl, rfl, trivial⟩
  · intro k σ0 H_0 L_0 ds_0 s_0 hI_0
    obtain ⟨hk, hk12, hm, hu⟩ := hI_0
    refine T.seq ?_
    refine T.region ?_
    refine R.lss rfl rfl rfl ?_
    refine TL.nil (Post.thnN ?_)
    refine T.seq ?_
    refine T.condD rfl (fun c12 => ?_) (fun c12 => ?_)
    · have hlt : k < xs.length := by omega
      obtain ⟨y, hy⟩ := getk hlt
      have hyU := hU y (List.mem_of_getElem? hy)
      refine T.skip (Post.thnN ?_)
      refine T.seq ?_
      refine T.block ?_
      refine T.seq ?_
      refine T.region ?_
      refine R.mvE rfl (by conv => lhs; whnf) ?_
      obtain ⟨b14, o14, i14, e14⟩ := (hr.mono s_0).elem (hy)
      refine R.ixp Try.underlying22 Try.sizeOf28 rfl rfl rfl (by omega) i14 ?_
      refine R.ldC Try.isAgg28 rfl rfl (e14).int ?_
      refine R.asE rfl (by conv => lhs; whnf) ?_
      refine R.asE rfl (by conv => lhs; whnf) ?_
      refine TL.nil (Post.thnN ?_)
      refine T.seq ?_
      refine T.region ?_
      refine R.mvE rfl (by conv => lhs; whnf) ?_
      refine R.mvE rfl (by conv => lhs; whnf) ?_
      refine TL.gsplitD 17 rfl (fun g17 => ?_) (fun g17 => ?_)
      · refine R.mvE rfl (by conv => lhs; whnf) ?_
        refine R.callv rfl rfl rfl (may_c _ _ hyU) ?_
        refine R.pkTE rfl rfl (by conv => lhs; whnf) ?_
        refine R.mvE rfl (by conv => lhs; whnf) ?_
        refine TL.gsplit 21 rfl (fun g21 => ?_) (fun g21 => ?_)
        · refine R.mvE rfl (by conv => lhs; whnf) ?_
          refine R.eql rfl rfl rfl ?_
          refine R.mvE rfl (by conv => lhs; whnf) ?_
          refine TL.gsplitD 24 rfl (fun g24 => ?_) (fun g24 => ?_)
          · refine TL.off rfl rfl rfl ?_
            refine TL.off rfl rfl rfl ?_
            refine TL.off rfl rfl rfl ?_
            refine TL.off rfl rfl rfl ?_
            refine TL.off rfl rfl rfl ?_
            refine TL.off rfl rfl rfl ?_
            refine TL.off rfl rfl rfl ?_
            refine R.pkTE rfl rfl (by conv => lhs; whnf) ?_
            refine R.pkTE rfl rfl (by conv => lhs; whnf) ?_
            refine R.asE rfl (by conv => lhs; whnf) ?_
            refine TL.nil (Post.thnN ?_)
            refine T.seq ?_
            refine T.region ?_
            refine R.mvE rfl (by conv => lhs; whnf) ?_
            refine R.not rfl rfl ?_
            refine TL.nil (Post.thnN ?_)
            refine T.condN rfl ?_
            refine T.skip (Post.blkN ?_)
            refine id (Post.thnN ?_)
            refine T.region ?_
            refine R.addI rfl rfl rfl (by omega) ?_
            refine R.mvE rfl (by conv => lhs; whnf) ?_
            refine TL.nil (Post.thnN ?_)
            -- round's end, way yyyy
            obtain ⟨hm', hu'⟩ := ty_snoc hy hm hu g21 (.inl (by omega))
            exact ⟨k + 1, s_0, ⟨by omega, .inr (by omega), hm', hu'⟩, by omega, ⟨rfl, congrArg Value.bool (decide_eq_true (by omega)).symm, rfl, rfl, rfl, trivial⟩⟩
          · obtain ⟨y', hy'⟩ := getk (xs := xs) (k := ((k : Int) - 1).toNat) (by omega)
            have hy'' : xs[k - 1]? = some y' := by rw [← hy']; congr 1; omega
            refine R.mvE rfl (by conv => lhs; whnf) ?_
            refine R.mvE rfl (by conv => lhs; whnf) ?_
            refine R.subI rfl rfl rfl (by omega) ?_
            obtain ⟨b28, o28, i28, e28⟩ := (hr.mono s_0).elem (hy')
            refine R.ixp Try.underlying22 Try.sizeOf28 rfl rfl rfl (by omega) i28 ?_
            refine R.ldC Try.isAgg28 rfl rfl (e28).int ?_
            refine R.mvE rfl (by conv => lhs; whnf) ?_
            refine R.lss rfl rfl rfl ?_
            refine R.pkFE rfl rfl (by conv => lhs; whnf) ?_
            refine R.pkTE rfl rfl (by conv => lhs; whnf) ?_
            refine R.asE rfl (by conv => lhs; whnf) ?_
            refine TL.nil (Post.thnN ?_)
            refine T.seq ?_
            refine T.region ?_
            refine R.mvE rfl (by conv => lhs; whnf) ?_
            refine R.notD rfl rfl ?_
            refine TL.nil (Post.thnN ?_)
            refine T.condD rfl (fun c35 => ?_) (fun c35 => ?_)
            · refine T.exit (Post.blkE rfl (Post.thnE (Post.thnE (Post.blkX ?_))))
              refine id (Post.thnN ?_)
              refine T.seq ?_
              refine T.seq ?_
              refine T.region ?_
              refine R.mvE rfl (by conv => lhs; whnf) ?_
              refine R.notD rfl rfl ?_
              refine TL.nil (Post.thnN ?_)
              refine T.set 38 (.bool true) (congrArg Value.bool (decide_eq_true c35)) ?_
              refine T.condY rfl ?_
              refine T.seq ?_
              refine T.region ?_
              refine R.asE rfl (by conv => lhs; whnf) ?_
              refine TL.nil (Post.thnN ?_)
              refine T.ret (Post.thnR (Post.ngR ?_))
              -- way yyyny
              exact fin1 rfl rfl ⟨rfl, congrArg (Value.int .i64) (by rw [ty_not_up (by omega) hy hy'' c35]; rfl)⟩
            · refine T.skip (Post.blkN ?_)
              refine id (Post.thnN ?_)
              refine T.region ?_
              refine R.addI rfl rfl rfl (by omega) ?_
              refine R.mvE rfl (by conv => lhs; whnf) ?_
              refine TL.nil (Post.thnN ?_)
              -- round's end, way yyynn
              obtain ⟨hm', hu'⟩ := ty_snoc hy hm hu g21 (.inr ⟨y', hy'', Decidable.of_not_not c35⟩)
              exact ⟨k + 1, s_0, ⟨by omega, .inr (by omega), hm', hu'⟩, by omega, ⟨rfl, congrArg Value.bool (decide_eq_true (by omega : (xs.length : Int) ≤ 12) ▸ decide_eq_true (Decidable.of_not_not c35)), rfl, rfl, rfl, trivial⟩⟩
        · refine TL.off rfl rfl rfl ?_
          refine TL.off rfl rfl rfl ?_
          refine TL.off rfl rfl rfl ?_
          refine TL.offU rfl rfl ?_
          refine TL.offU rfl rfl ?_
          refine TL.offU rfl rfl ?_
          refine TL.offU rfl rfl ?_
          refine TL.offU rfl rfl ?_
          refine TL.offU rfl rfl ?_
          refine TL.offU rfl rfl ?_
          refine TL.off rfl rfl rfl ?_
          refine R.pkFE rfl rfl (by conv => lhs; whnf) ?_
          refine R.asE rfl (by conv => lhs; whnf) ?_
          refine TL.nil (Post.thnN ?_)
          refine T.seq ?_
          refine T.region ?_
          refine R.mvE rfl (by conv => lhs; whnf) ?_
          refine R.not rfl rfl ?_
          refine TL.nil (Post.thnN ?_)
          refine T.condY rfl ?_
          refine T.exit (Post.blkE rfl (Post.thnE (Post.thnE (Post.blkX ?_))))
          refine id (Post.thnN ?_)
          refine T.seq ?_
          refine T.seq ?_
          refine T.region ?_
          refine R.mvE rfl (by conv => lhs; whnf) ?_
          refine R.not rfl rfl ?_
          refine TL.nil (Post.thnN ?_)
          refine T.condY rfl ?_
          refine T.seq ?_
          refine T.region ?_
          refine R.asE rfl (by conv => lhs; whnf) ?_
          refine TL.nil (Post.thnN ?_)
          refine T.ret (Post.thnR (Post.ngR ?_))
          -- way yyn
          exact fin1 rfl rfl ⟨rfl, congrArg (Value.int .i64) (by rw [ty_not_may hy g21]; rfl)⟩
      · refine TL.off rfl rfl rfl ?_
        refine TL.off rfl rfl rfl ?_
        refine R.pkFE rfl rfl (by conv => lhs; whnf) ?_
        refine R.mvE rfl (by conv => lhs; whnf) ?_
        refine TL.off rfl rfl rfl ?_
        refine TL.off rfl rfl rfl ?_
        refine TL.off rfl rfl rfl ?_
        refine TL.offU rfl rfl ?_
        refine TL.offU rfl rfl ?_
        refine TL.offU rfl rfl ?_
        refine TL.offU rfl rfl ?_
        refine TL.offU rfl rfl ?_
        refine TL.offU rfl rfl ?_
        refine TL.offU rfl rfl ?_
        refine TL.off rfl rfl rfl ?_
        refine R.pkFE rfl rfl (by conv => lhs; whnf) ?_
        refine R.asE rfl (by conv => lhs; whnf) ?_
        refine TL.nil (Post.thnN ?_)
        refine T.seq ?_
        refine T.region ?_
        refine R.mvE rfl (by conv => lhs; whnf) ?_
        refine R.not rfl rfl ?_
        refine TL.nil (Post.thnN ?_)
        refine T.condY rfl ?_
        refine T.exit (Post.blkE rfl (Post.thnE (Post.thnE (Post.blkX ?_))))
        refine id (Post.thnN ?_)
        refine T.seq ?_
        refine T.seq ?_
        refine T.region ?_
        refine R.mvE rfl (by conv => lhs; whnf) ?_
        refine R.not rfl rfl ?_
        refine TL.nil (Post.thnN ?_)
        refine T.condY rfl ?_
        refine T.seq ?_
        refine T.region ?_
        refine R.asE rfl (by conv => lhs; whnf) ?_
        refine TL.nil (Post.thnN ?_)
        refine T.ret (Post.thnR (Post.ngR ?_))
        -- way yn
        exact fin1 rfl rfl ⟨rfl, congrArg (Value.int .i64) (by rw [ty_long g17]; rfl)⟩
    · refine T.exit (Post.thnE (Post.thnE (Post.blkX ?_)))
      refine id (Post.thnN ?_)
      refine T.seq ?_
      refine T.seq ?_
      refine T.region ?_
      refine R.mvE rfl (by conv => lhs; whnf) ?_
      refine R.notD rfl rfl ?_
      refine TL.nil (Post.thnN ?_)
      refine T.condD rfl (fun c38 => ?_) (fun c38 => ?_)
      · refine T.seq ?_
        refine T.region ?_
        refine R.asE rfl (by conv => lhs; whnf) ?_
        refine TL.nil (Post.thnN ?_)
        refine T.ret (Post.thnR (Post.ngR ?_))
        -- way ny
        exact fin1 rfl rfl ⟨rfl, congrArg (Value.int .i64) (by rw [ty_long c38]; rfl)⟩
      · refine T.skip (Post.thnN ?_)
        refine T.seq ?_
        refine T.region ?_
        refine R.asE rfl (by conv => lhs; whnf) ?_
        refine TL.nil (Post.thnN ?_)
        refine T.ret (Post.ngR ?_)
        -- way nn
        exact fin1 rfl rfl ⟨rfl, congrArg (Value.int .i64) (by rw [if_pos (typeB_iff.2 ⟨by omega, by rw [show k = xs.length by omega, List.take_length] at hm; exact hm, by rw [show k = xs.length by omega, List.take_length] at hu; exact hu⟩)])⟩


set_option maxHeartbeats 1600000 in
theorem wth_c (H : Heap) (v : Value) (xs : List Int) (x : Int) (hr : RdS (intE .u64) H v xs) (hl : xs.length ≤ 1000) (hup : Up xs) : Fp Try.prog (fnv 63) [v, .int .u64 x] H (fun v' H' => RdS (intE .u64) H' v' (insU xs x)) := by
  refine Fc.of_body (N := 26) Try.func63 rfl (by kernel_rfl) rfl rfl ?_
  intro w0
  obtain ⟨A, c, rfl, hc1, hc2, hr⟩ := hr.shape
  have hcl := cntLt_le xs x
  have htl : (xs.take (cntLt xs x)).length = cntLt xs x := by simp; omega
  refine T.seq ?_
  refine T.region ?_
  refine R.asE rfl (by conv => lhs; whnf) ?_
  refine TL.nil (Post.thnN ?_)
  refine T.seq ?_
  refine T.region ?_
  refine R.mvE rfl (by conv => lhs; whnf) ?_
  refine R.mvE rfl (by conv => lhs; whnf) ?_
  refine R.callv rfl rfl rfl (bsearchU22_c _ _ _ _ hr (by omega) hup) ?_
  refine R.mvE rfl (by conv => lhs; whnf) ?_
  refine R.ext rfl rfl rfl ?_
  refine R.ext rfl rfl rfl ?_
  refine R.asE rfl (by conv => lhs; whnf) ?_
  refine R.asE rfl (by conv => lhs; whnf) ?_
  refine TL.nil (Post.thnN ?_)
  refine T.seq ?_
  refine T.seq ?_
  refine T.region ?_
  refine R.mvE rfl (by conv => lhs; whnf) ?_
  refine TL.nil (Post.thnN ?_)
  refine T.condD rfl (fun c13 => ?_) (fun c13 => ?_)
  · refine T.seq ?_
    refine T.region ?_
    refine R.mvE rfl (by conv => lhs; whnf) ?_
    refine R.asE rfl (by conv => lhs; whnf) ?_
    refine TL.nil (Post.thnN ?_)
    refine T.ret (Post.thnR ?_)
    -- way y
    exact fin1 rfl rfl ⟨rfl, by unfold insU; rw [if_pos c13]; exact hr⟩
  · refine T.skip (Post.thnN ?_)
    refine T.seq ?_
    refine T.draw Try_mixed (by kernel_rfl) ?_
    refine Plan.v 0 [1, 2, 3, 4, 5, 6, 7, 8, 9, 10, 11] (by kernel_rfl) (by kernel_rfl) (by kernel_rfl) (by kernel_rfl) rfl (fun _ _ h_ => R.mvE rfl (by conv => lhs; whnf) (TL.nil h_)) ?_
    refine Plan.v 1 [2, 3, 4, 5, 6, 7, 8, 9, 10, 11] (by kernel_rfl) (by kernel_rfl) (by kernel_rfl) (by kernel_rfl) rfl (fun _ _ h_ => R.mvE rfl (by conv => lhs; whnf) (TL.nil h_)) ?_
    refine Plan.v 2 [3, 4, 5, 6, 7, 8, 9, 10, 11] (by kernel_rfl) (by kernel_rfl) (by kernel_rfl) (by kernel_rfl) rfl (fun _ _ h_ => R.mvE rfl (by conv => lhs; whnf) (TL.nil h_)) ?_
    refine Plan.v 3 [4, 5, 6, 7, 8, 9, 10, 11] (by kernel_rfl) (by kernel_rfl) (by kernel_rfl) (by kernel_rfl) rfl (fun _ _ h_ => R.sHM Try.underlying22 Try.sizeOf28 rfl rfl rfl rfl (by omega) (by omega) (by omega) (TL.nil h_)) ?_
    refine Plan.set 18 (.slice A (cntLt xs x) (cntLt xs x)) (slc_take00 (n := xs.length) (c := c) (i := cntLt xs x)) ?_
    refine Plan.v 4 [5, 6, 7, 8, 9, 10, 11] (by kernel_rfl) (by kernel_rfl) (by kernel_rfl) (by kernel_rfl) rfl (fun _ _ h_ => R.mvE rfl (by conv => lhs; whnf) (TL.nil h_)) ?_
    refine Plan.v 7 [5, 6, 8, 9, 10, 11] (by kernel_rfl) (by kernel_rfl) (by kernel_rfl) (by kernel_rfl) rfl (fun _ _ h_ => R.mvE rfl (by conv => lhs; whnf) (TL.nil h_)) ?_
    refine Plan.v 8 [5, 6, 9, 10, 11] (by kernel_rfl) (by kernel_rfl) (by kernel_rfl) (by kernel_rfl) rfl (fun _ _ h_ => R.mvE rfl (by conv => lhs; whnf) (TL.nil h_)) ?_
    refine Plan.v 9 [5, 6, 10, 11] (by kernel_rfl) (by kernel_rfl) (by kernel_rfl) (by kernel_rfl) rfl (fun _ _ h_ => R.sL Try.underlying22 Try.sizeOf28 rfl rfl rfl  (by omega) (by omega)  (TL.nil h_)) ?_
    refine Plan.s1 5 [6, 10, 11] (by kernel_rfl) (by kernel_rfl) rfl ?_
    refine R.bs rfl (run_buildSlice1 Try.underlying22 Try.sizeOf28 Try.zeroValue28 rfl rfl) ?_
    intro b20
    refine TL.nil (Plan.e1 (HLe.refl _) ?_)
    refine Plan.s1 6 [10, 11] (by kernel_rfl) (by kernel_rfl) rfl ?_
    refine R.appN (xs := xs.take (cntLt xs x)) (ys := [x]) Try_ty22 rfl (by rw [htl]; rfl) rfl (hr.take hcl hc1) (Src.lit (vs := [.int .u64 x]) .hd) ⟨[.int .u64 x], [], rfl, rfl, rfl⟩ (by simp) (by simp; omega) (by simp; omega) ?_
    intro v21 c21 w21
    refine TL.nil (Plan.e1 (HLe.refl _) ?_)
    refine Plan.s1 10 [11] (by kernel_rfl) (by kernel_rfl) rfl ?_
    obtain ⟨cs25, y25, r25⟩ := Src.rd (L := c21 :: [(b20, .cells #[.int .u64 x] 28)] :: []) (hr.drop hcl hc1)
    refine R.app Try_ty22 rfl rfl rfl w21 .hd r25 y25 (by simp; omega) (by simp; omega) ?_
    intro v25 c25 w25
    refine TL.shut .hd ?_
    intro H25 s25 q25
    have hw := w25.read s25 q25
    refine TL.nil (Plan.e1 (s25) ?_)
    refine Plan.v 11 [] (by kernel_rfl) (by kernel_rfl) (by kernel_rfl) (by kernel_rfl) rfl (fun _ _ h_ => R.asE rfl (by conv => lhs; whnf) (TL.nil h_)) ?_
    refine Plan.done (Post.thnN ?_)
    refine T.ret ?_
    -- way n
    exact fin1 rfl rfl ⟨rfl, by unfold insU; rw [if_neg c13]; exact hw⟩


set_option maxHeartbeats 1600000 in
theorem own_c (H : Heap) (v : Value) (xs : List Int) (hr : RdS (intE .u64) H v xs) (hl : xs.length ≤ 1048576) : Fc Try.prog (fnv 62) [v] H [] (fun v' H' L' => ∃ c, L' = [c] ∧ OwnS (intE .u64) 28 H' v' xs c) := by
  refine Fc.of_body (N := 11) Try.func62 rfl (by kernel_rfl) rfl rfl ?_
  intro w0
  obtain ⟨A, c, rfl, hc1, hc2, hr⟩ := hr.shape
  refine T.seq ?_
  refine T.region ?_
  refine R.asE rfl (by conv => lhs; whnf) ?_
  refine TL.nil (Post.thnN ?_)
  refine T.seq ?_
  refine T.region ?_
  refine R.mvE rfl (by conv => lhs; whnf) ?_
  refine R.len Try.underlying22 rfl rfl ?_
  refine R.mks (z0 := 0) (zc := [.int .u64 0]) Try_ty22 (zcells_of (z := .int .u64 0) (by kernel_rfl)) (fun _ => rfl) rfl rfl rfl (by omega) (by omega) ?_
  intro v6 c6 w6
  refine R.asE rfl (by conv => lhs; whnf) ?_
  refine TL.nil (Post.thnN ?_)
  refine T.seq ?_
  refine T.region ?_
  refine R.mvE rfl (by conv => lhs; whnf) ?_
  refine R.mvE rfl (by conv => lhs; whnf) ?_
  obtain ⟨cs9, y9, r9⟩ := Src.rd (L := [c6]) hr
  refine R.copy (dd := some 9) Try_ty22 rfl (fun q h => by cases h; rfl) rfl rfl w6 .hd r9 y9 (by simp) ?_
  intro c9 w9
  refine TL.nil (Post.thnN ?_)
  refine T.seq ?_
  refine T.region ?_
  refine R.mvE rfl (by conv => lhs; whnf) ?_
  refine R.asE rfl (by conv => lhs; whnf) ?_
  refine TL.nil (Post.thnN ?_)
  refine T.ret ?_
  exact fin1L [c9] rfl rfl (List.Sublist.refl _) ⟨_, rfl, w9⟩


set_option maxHeartbeats 1600000 in
theorem With_c (H : Heap) (v : Value) (xs : List Int) (x : Int) (hr : RdS (intE .u64) H v xs) (hU : Us xs) (hx : U x) (hl : xs.length ≤ 1000) : Fc Try.prog (fnv 22) [v, .int .u64 x] H [] (fun v' H' L' => ∃ r c, v' = .tuple #[r, .int .i64 (withR xs x).2] ∧ L' = [c] ∧ OwnS (intE .u64) 28 H' r (withR xs x).1 c) := by
  refine Fc.of_body (N := 23) Try.func22 rfl (by kernel_rfl) rfl rfl ?_
  intro w0
  obtain ⟨A, c, rfl, hc1, hc2, hr⟩ := hr.shape
  refine T.seq ?_
  refine T.region ?_
  refine R.asE rfl (by conv => lhs; whnf) ?_
  refine R.asE rfl (by conv => lhs; whnf) ?_
  refine TL.nil (Post.thnN ?_)
  refine T.seq ?_
  refine T.block ?_
  refine T.seq ?_
  refine T.region ?_
  refine R.mvE rfl (by conv => lhs; whnf) ?_
  refine R.callv rfl rfl rfl (check_c _ _ _ hr hU) ?_
  refine R.neq rfl rfl rfl ?_
  refine R.asE rfl (by conv => lhs; whnf) ?_
  refine TL.nil (Post.thnN ?_)
  refine T.condD rfl (fun c7 => ?_) (fun c7 => ?_)
  · have ht : typeB xs = false := chk_ne.1 c7
    refine T.seq ?_
    refine T.nilc ?_
    refine T.region ?_
    refine R.asE rfl (by conv => lhs; whnf) ?_
    refine R.asE rfl (by conv => lhs; whnf) ?_
    refine TL.nil (Post.thnN ?_)
    refine T.ret (Post.blkR (Post.thnR ?_))
    -- way y
    exact fin2L [[]] rfl rfl rfl (by first | exact List.Sublist.refl _ | exact List.Sublist.cons_cons _ (List.nil_sublist _)) ⟨_, [], by rw [withR_a ht]; rfl, rfl, .inl ⟨rfl, by rw [withR_a ht], rfl⟩⟩
  · have ht : typeB xs = true := by cases h : typeB xs with
      | true => rfl
      | false => exact absurd (chk_ne.2 h) c7
    refine T.seq ?_
    refine T.region ?_
    refine R.mvE rfl (by conv => lhs; whnf) ?_
    refine R.callv rfl rfl rfl (may_c _ _ hx) ?_
    refine R.not rfl rfl ?_
    refine R.asE rfl (by conv => lhs; whnf) ?_
    refine TL.nil (Post.thnN ?_)
    refine T.cond rfl (fun c11 => ?_) (fun c11 => ?_)
    · refine T.seq ?_
      refine T.nilc ?_
      refine T.region ?_
      refine R.asE rfl (by conv => lhs; whnf) ?_
      refine R.asE rfl (by conv => lhs; whnf) ?_
      refine TL.nil (Post.thnN ?_)
      refine T.ret (Post.blkR (Post.thnR ?_))
      -- way ny
      exact fin2L [[]] rfl rfl rfl (by first | exact List.Sublist.refl _ | exact List.Sublist.cons_cons _ (List.nil_sublist _)) ⟨_, [], by rw [withR_b ht (by simpa using c11)]; rfl, rfl, .inl ⟨rfl, by rw [withR_b ht (by simpa using c11)], rfl⟩⟩
    · refine T.skip (Post.blkN ?_)
      refine id (Post.thnN ?_)
      refine T.seq ?_
      refine T.region ?_
      refine R.mvE rfl (by conv => lhs; whnf) ?_
      refine R.mvE rfl (by conv => lhs; whnf) ?_
      refine R.callp rfl rfl rfl (wth_c _ _ _ _ hr hl (typeB_iff.1 ht).2.2) ?_
      intro v17 H17 s17 q17
      refine TL.call [] rfl rfl rfl (own_c _ _ _ q17 (by have := ins_len xs x; omega)) ?_
      intro v18 H18 L18 s18 q18
      obtain ⟨c18, rfl, w18⟩ := q18
      obtain ⟨A18, p18, rfl, m18, n18⟩ := w18.shape
      refine R.asE rfl (by conv => lhs; whnf) ?_
      refine TL.nil (Post.thnN ?_)
      refine T.seq ?_
      refine T.seq ?_
      refine T.region ?_
      refine R.mvE rfl (by conv => lhs; whnf) ?_
      refine R.len Try.underlying22 rfl rfl ?_
      refine R.gtr rfl rfl rfl ?_
      refine TL.nil (Post.thnN ?_)
      refine T.condD rfl (fun c21 => ?_) (fun c21 => ?_)
      · refine T.seq ?_
        refine T.nilc ?_
        refine T.region ?_
        refine R.asE rfl (by conv => lhs; whnf) ?_
        refine R.asE rfl (by conv => lhs; whnf) ?_
        refine TL.nil (Post.thnN ?_)
        refine T.ret (Post.thnR ?_)
        -- way nny
        exact fin2L [[]] rfl rfl rfl (by first | exact List.Sublist.refl _ | exact List.Sublist.cons_cons _ (List.nil_sublist _)) ⟨_, [], by rw [withR_c ht (by simpa using c11) (by omega)]; rfl, rfl, .inl ⟨rfl, by rw [withR_c ht (by simpa using c11) (by omega)], rfl⟩⟩
      · refine T.skip (Post.thnN ?_)
        refine T.seq ?_
        refine T.region ?_
        refine R.mvE rfl (by conv => lhs; whnf) ?_
        refine R.asE rfl (by conv => lhs; whnf) ?_
        refine R.asE rfl (by conv => lhs; whnf) ?_
        refine TL.nil (Post.thnN ?_)
        refine T.ret ?_
        -- way nnn
        exact fin2L [c18] rfl rfl rfl (List.Sublist.refl _) ⟨_, c18, by rw [withR_d ht (by simpa using c11) (by omega)]; rfl, rfl, by rw [withR_d ht (by simpa using c11) (by omega)]; exact w18⟩


set_option maxHeartbeats 1600000 in
theorem Without_c (H : Heap) (v : Value) (xs : List Int) (x : Int) (hr : RdS (intE .u64) H v xs) (hU : Us xs) (hl : xs.length ≤ 1000) : Fc Try.prog (fnv 25) [v, .int .u64 x] H [] (fun v' H' L' => ∃ r c, v' = .tuple #[r, .int .i64 (withoutR xs x).2] ∧ L' = [c] ∧ OwnS (intE .u64) 28 H' r (withoutR xs x).1 c) := by
  refine Fc.of_body (N := 28) Try.func25 rfl (by kernel_rfl) rfl rfl ?_
  intro w0
  obtain ⟨A, c, rfl, hc1, hc2, hr⟩ := hr.shape
  have hcl := cntLt_le xs x
  refine T.seq ?_
  refine T.region ?_
  refine R.asE rfl (by conv => lhs; whnf) ?_
  refine R.asE rfl (by conv => lhs; whnf) ?_
  refine TL.nil (Post.thnN ?_)
  refine T.seq ?_
  refine T.seq ?_
  refine T.region ?_
  refine R.mvE rfl (by conv => lhs; whnf) ?_
  refine R.callv rfl rfl rfl (check_c _ _ _ hr hU) ?_
  refine R.asE rfl (by conv => lhs; whnf) ?_
  refine TL.nil (Post.thnN ?_)
  refine T.seq ?_
  refine T.region ?_
  refine R.mvE rfl (by conv => lhs; whnf) ?_
  refine R.neq rfl rfl rfl ?_
  refine TL.nil (Post.thnN ?_)
  refine T.condD rfl (fun c12 => ?_) (fun c12 => ?_)
  · have ht : typeB xs = false := chk_ne.1 c12
    refine T.seq ?_
    refine T.nilc ?_
    refine T.region ?_
    refine R.mvE rfl (by conv => lhs; whnf) ?_
    refine R.asE rfl (by conv => lhs; whnf) ?_
    refine R.asE rfl (by conv => lhs; whnf) ?_
    refine TL.nil (Post.thnN ?_)
    refine T.ret (Post.thnR ?_)
    -- way y
    exact fin2L [[]] rfl rfl rfl (List.Sublist.refl _) ⟨_, [], by rw [withoutR_a ht]; simp only [ht]; rfl, rfl, .inl ⟨rfl, by rw [withoutR_a ht], rfl⟩⟩
  · have ht : typeB xs = true := by cases h : typeB xs with
      | true => rfl
      | false => exact absurd (chk_ne.2 h) c12
    refine T.skip (Post.thnN ?_)
    refine T.seq ?_
    refine T.region ?_
    refine R.mvE rfl (by conv => lhs; whnf) ?_
    refine R.mvE rfl (by conv => lhs; whnf) ?_
    refine R.callv rfl rfl rfl (bsearchU22_c _ _ _ _ hr (by omega) (typeB_iff.1 ht).2.2) ?_
    refine R.mvE rfl (by conv => lhs; whnf) ?_
    refine R.ext rfl rfl rfl ?_
    refine R.ext rfl rfl rfl ?_
    refine R.asE rfl (by conv => lhs; whnf) ?_
    refine R.asE rfl (by conv => lhs; whnf) ?_
    refine TL.nil (Post.thnN ?_)
    refine T.seq ?_
    refine T.seq ?_
    refine T.region ?_
    refine R.mvE rfl (by conv => lhs; whnf) ?_
    refine R.notD rfl rfl ?_
    refine TL.nil (Post.thnN ?_)
    refine T.condD rfl (fun c21 => ?_) (fun c21 => ?_)
    · refine T.seq ?_
      refine T.nilc ?_
      refine T.region ?_
      refine R.asE rfl (by conv => lhs; whnf) ?_
      refine R.asE rfl (by conv => lhs; whnf) ?_
      refine TL.nil (Post.thnN ?_)
      refine T.ret (Post.thnR ?_)
      -- way ny
      exact fin2L [[]] rfl rfl rfl (by first | exact List.Sublist.refl _ | exact List.Sublist.cons_cons _ (List.nil_sublist _)) ⟨_, [], by rw [withoutR_b ht c21]; rfl, rfl, .inl ⟨rfl, by rw [withoutR_b ht c21], rfl⟩⟩
    · refine T.skip (Post.thnN ?_)
      refine T.seq ?_
      refine T.region ?_
      refine R.mvE rfl (by conv => lhs; whnf) ?_
      refine TL.call [] rfl rfl rfl (own_c _ _ _ hr (by omega)) ?_
      intro v23 H23 L23 s23 q23
      obtain ⟨c23, rfl, w23⟩ := q23
      refine R.mvE rfl (by conv => lhs; whnf) ?_
      refine R.mvE rfl (by conv => lhs; whnf) ?_
      refine R.addI rfl rfl rfl (by omega) ?_
      refine TL.call [true] rfl rfl rfl (deleteU22_c _ _ _ (cntLt xs x) (cntLt xs x + 1) _ w23 (by omega) (cnt_lt (typeB_iff.1 ht).2.2 (Decidable.of_not_not c21))) ?_
      intro v27 H27 L27 s27 q27
      obtain ⟨c27, rfl, w27⟩ := q27
      refine R.asE rfl (by conv => lhs; whnf) ?_
      refine R.asE rfl (by conv => lhs; whnf) ?_
      refine TL.nil (Post.thnN ?_)
      refine T.ret ?_
      -- way nn
      exact fin2L [c27] rfl rfl rfl (List.Sublist.refl _) ⟨_, c27, by rw [withoutR_c ht (Decidable.of_not_not c21)]; rfl, rfl, by rw [withoutR_c ht (Decidable.of_not_not c21)]; exact w27⟩


set_option maxHeartbeats 1600000 in
theorem Of_c (H : Heap) (v : Value) (xs : List Int) (hr : RdS (intE .u64) H v xs) (hU : Us xs) (hl : xs.length ≤ 999) : Fp Try.prog (fnv 28) [v] H (fun v' H' => ∃ r, v' = .tuple #[r, .int .i64 (ofR xs).2] ∧ RdS (intE .u64) H' r (ofR xs).1) := by
  refine Fc.of_body (N := 24) Try.func28 rfl (by kernel_rfl) rfl rfl ?_
  intro w0
  obtain ⟨A, c, rfl, hc1, hc2, hr⟩ := hr.shape
  refine T.seq ?_
  refine T.region ?_
  refine R.asE rfl (by conv => lhs; whnf) ?_
  refine R.asE rfl (by conv => lhs; whnf) ?_
  refine TL.nil (Post.thnN ?_)
  refine T.seq ?_
  refine T.region ?_
  refine R.asE rfl (by conv => lhs; whnf) ?_
  refine TL.nil (Post.thnN ?_)
  refine T.seq ?_
  refine T.seq ?_
  refine T.region ?_
  refine R.mvE rfl (by conv => lhs; whnf) ?_
  refine R.len Try.underlying22 rfl rfl ?_
  refine R.mvE rfl (by conv => lhs; whnf) ?_
  refine TL.nil (Post.thnN ?_)
  refine T.block ?_
  refine T.loop (ι := Nat × Value) (fun q H' L' ds' => q.1 ≤ xs.length ∧ L' = [] ∧ RdS (intE .u64) H' q.2 (ofU (xs.take q.1)) ∧ ∀ x ∈ xs.take q.1, mayB x = true) (fun q => [(4, q.2), (7, .slice A xs.length c), (8, .int .i64 xs.length), (9, .int .i64 q.1)]) (fun q => xs.length - q.1) ((0, .slice none 0 0)) ?_ ?_ ?_
  · exact ⟨Nat.zero_le _, rfl, RdS.nil, fun x h => by simp at h⟩
  · exact ⟨rfl, rfl, rfl, rfl, trivial⟩
  · intro q σ0 H_0 L_0 ds_0 s_0 hI_0
    obtain ⟨hk, rfl, hv, hm⟩ := hI_0
    have hol := ofU_len (xs.take q.1)
    have htl : (xs.take q.1).length = q.1 := by simp; omega
    refine T.seq ?_
    refine T.region ?_
    refine R.lss rfl rfl rfl ?_
    refine TL.nil (Post.thnN ?_)
    refine T.seq ?_
    refine T.condD rfl (fun c10 => ?_) (fun c10 => ?_)
    · have hlt : q.1 < xs.length := by omega
      obtain ⟨y, hy⟩ := getk hlt
      have hyU := hU y (List.mem_of_getElem? hy)
      refine T.skip (Post.thnN ?_)
      refine T.seq ?_
      refine T.block ?_
      refine T.seq ?_
      refine T.region ?_
      obtain ⟨b11, o11, i11, e11⟩ := (hr.mono s_0).elem (hy)
      refine R.ixp Try.underlying22 Try.sizeOf28 rfl rfl rfl (by omega) i11 ?_
      refine R.ldC Try.isAgg28 rfl rfl (e11).int ?_
      refine R.asE rfl (by conv => lhs; whnf) ?_
      refine TL.nil (Post.thnN ?_)
      refine T.seq ?_
      refine T.seq ?_
      refine T.region ?_
      refine R.mvE rfl (by conv => lhs; whnf) ?_
      refine R.callv rfl rfl rfl (may_c _ _ hyU) ?_
      refine R.not rfl rfl ?_
      refine TL.nil (Post.thnN ?_)
      refine T.cond rfl (fun c15 => ?_) (fun c15 => ?_)
      · refine T.seq ?_
        refine T.region ?_
        refine R.asE rfl (by conv => lhs; whnf) ?_
        refine R.asE rfl (by conv => lhs; whnf) ?_
        refine TL.nil (Post.thnN ?_)
        refine T.ret (Post.thnR (Post.blkR (Post.thnR (Post.thnR (Post.blkR (Post.thnR ?_))))))
        -- way yy
        have hnm : xs.all mayB = false := all_not hy (by simpa using c15)
        exact fin2 rfl rfl rfl ⟨rfl, _, by rw [ofR_a hnm]; rfl, by rw [ofR_a hnm]; exact RdS.nil⟩
      · refine T.skip (Post.thnN ?_)
        refine T.region ?_
        refine R.mvE rfl (by conv => lhs; whnf) ?_
        refine R.mvE rfl (by conv => lhs; whnf) ?_
        refine R.callp rfl rfl rfl (wth_c _ _ _ _ hv (by omega) (ofU_up _)) ?_
        intro v18 H18 s18 q18
        refine R.asE rfl (by conv => lhs; whnf) ?_
        refine TL.nil (Post.blkN ?_)
        refine id (Post.thnN ?_)
        refine T.region ?_
        refine R.addI rfl rfl rfl (by omega) ?_
        refine R.mvE rfl (by conv => lhs; whnf) ?_
        refine TL.nil (Post.thnN ?_)
        -- round's end, way yn
        exact ⟨(q.1 + 1, v18), s_0.trans s18, ⟨by show q.1 + 1 ≤ xs.length; omega, rfl, by rw [ofU_snoc _ _ _ hy]; exact q18, fun z hz => by
            rw [take_snoc _ _ _ hy] at hz; rcases List.mem_append.1 hz with hz | hz
            · exact hm z hz
            · simp at hz; rw [hz]; simpa using c15⟩, by show xs.length - (q.1 + 1) < xs.length - q.1; omega, ⟨rfl, rfl, rfl, rfl, trivial⟩⟩
    · have hqx : q.1 = xs.length := by omega
      rw [hqx, List.take_length] at hv hm
      have hall : xs.all mayB = true := List.all_eq_true.2 hm
      obtain ⟨Av, cv, hve, hcv1, hcv2, _⟩ := hv.shape
      refine T.exit (Post.thnE (Post.thnE (Post.blkX ?_)))
      refine id (Post.thnN ?_)
      refine T.seq ?_
      refine T.seq ?_
      refine T.region ?_
      refine R.mvE rfl (by conv => lhs; whnf) ?_
      refine R.len Try.underlying22 rfl hve ?_
      refine R.gtr rfl rfl rfl ?_
      refine TL.nil (Post.thnN ?_)
      refine T.condD rfl (fun c22 => ?_) (fun c22 => ?_)
      · refine T.seq ?_
        refine T.region ?_
        refine R.asE rfl (by conv => lhs; whnf) ?_
        refine R.asE rfl (by conv => lhs; whnf) ?_
        refine TL.nil (Post.thnN ?_)
        refine T.ret (Post.thnR ?_)
        -- way ny
        exact fin2 rfl rfl rfl ⟨rfl, _, by rw [ofR_b hall (by omega)]; rfl, by rw [ofR_b hall (by omega)]; exact RdS.nil⟩
      · refine T.skip (Post.thnN ?_)
        refine T.seq ?_
        refine T.region ?_
        refine R.mvE rfl (by conv => lhs; whnf) ?_
        refine R.asE rfl (by conv => lhs; whnf) ?_
        refine R.asE rfl (by conv => lhs; whnf) ?_
        refine TL.nil (Post.thnN ?_)
        refine T.ret ?_
        -- way nn
        exact fin2 rfl rfl rfl ⟨rfl, _, by rw [ofR_c hall (by omega)]; rfl, by rw [ofR_c hall (by omega)]; exact hv⟩


set_option maxHeartbeats 1600000 in
theorem OfO_c (H : Heap) (v : Value) (xs : List Int) (ch : Chunk) (ho : OwnS (intE .u64) 28 H v xs ch) (hU : Us xs) (hl : xs.length ≤ 999) : Fc Try.prog (fnv 28) [v] H [ch] (fun v' H' L' => L' = [ch] ∧ ∃ r, v' = .tuple #[r, .int .i64 (ofR xs).2] ∧ RdS (intE .u64) H' r (ofR xs).1) := by
  refine Fc.of_body (N := 24) Try.func28 rfl (by kernel_rfl) rfl rfl ?_
  intro w0
  obtain ⟨A, c, rfl, hc1, hc2⟩ := ho.shape
  refine T.seq ?_
  refine T.region ?_
  refine R.asE rfl (by conv => lhs; whnf) ?_
  refine R.asE rfl (by conv => lhs; whnf) ?_
  refine TL.nil (Post.thnN ?_)
  refine T.seq ?_
  refine T.region ?_
  refine R.asE rfl (by conv => lhs; whnf) ?_
  refine TL.nil (Post.thnN ?_)
  refine T.seq ?_
  refine T.seq ?_
  refine T.region ?_
  refine R.mvE rfl (by conv => lhs; whnf) ?_
  refine R.len Try.underlying22 rfl rfl ?_
  refine R.mvE rfl (by conv => lhs; whnf) ?_
  refine TL.nil (Post.thnN ?_)
  refine T.block ?_
  refine T.loop (ι := Nat × Value) (fun q H' L' ds' => q.1 ≤ xs.length ∧ L' = [ch] ∧ RdS (intE .u64) H' q.2 (ofU (xs.take q.1)) ∧ ∀ x ∈ xs.take q.1, mayB x = true) (fun q => [(4, q.2), (7, .slice A xs.length c), (8, .int .i64 xs.length), (9, .int .i64 q.1)]) (fun q => xs.length - q.1) ((0, .slice none 0 0)) ?_ ?_ ?_
  · exact ⟨Nat.zero_le _, rfl, RdS.nil, fun x h => by simp at h⟩
  · exact ⟨rfl, rfl, rfl, rfl, trivial⟩
  · intro q σ0 H_0 L_0 ds_0 s_0 hI_0
    obtain ⟨hk, rfl, hv, hm⟩ := hI_0
    have hol := ofU_len (xs.take q.1)
    have htl : (xs.take q.1).length = q.1 := by simp; omega
    refine T.seq ?_
    refine T.region ?_
    refine R.lss rfl rfl rfl ?_
    refine TL.nil (Post.thnN ?_)
    refine T.seq ?_
    refine T.condD rfl (fun c10 => ?_) (fun c10 => ?_)
    · have hlt : q.1 < xs.length := by omega
      obtain ⟨y, hy⟩ := getk hlt
      have hyU := hU y (List.mem_of_getElem? hy)
      obtain ⟨bo, co, cso, lo, hce, hve, hix, hR, hcs⟩ := ho.elem hy
      obtain rfl : lo = [.int .u64 y] := hR
      subst hce
      refine T.skip (Post.thnN ?_)
      refine T.seq ?_
      refine T.block ?_
      refine T.seq ?_
      refine T.region ?_
      refine R.ixp Try.underlying22 Try.sizeOf28 rfl rfl rfl (by omega) hix ?_
      refine R.ld Try.isAgg28 rfl rfl .hd (hcs 0 _ rfl) ?_
      refine R.asE rfl (by conv => lhs; whnf) ?_
      refine TL.nil (Post.thnN ?_)
      refine T.seq ?_
      refine T.seq ?_
      refine T.region ?_
      refine R.mvE rfl (by conv => lhs; whnf) ?_
      refine R.callv rfl rfl rfl (may_c _ _ hyU) ?_
      refine R.not rfl rfl ?_
      refine TL.nil (Post.thnN ?_)
      refine T.cond rfl (fun c15 => ?_) (fun c15 => ?_)
      · refine T.seq ?_
        refine T.region ?_
        refine R.asE rfl (by conv => lhs; whnf) ?_
        refine R.asE rfl (by conv => lhs; whnf) ?_
        refine TL.nil (Post.thnN ?_)
        refine T.ret (Post.thnR (Post.blkR (Post.thnR (Post.thnR (Post.blkR (Post.thnR ?_))))))
        -- way yy
        have hnm : xs.all mayB = false := all_not hy (by simpa using c15)
        exact fin2L [_] rfl rfl rfl (List.Sublist.refl _) ⟨rfl, _, by rw [ofR_a hnm]; rfl, by rw [ofR_a hnm]; exact RdS.nil⟩
      · refine T.skip (Post.thnN ?_)
        refine T.region ?_
        refine R.mvE rfl (by conv => lhs; whnf) ?_
        refine R.mvE rfl (by conv => lhs; whnf) ?_
        refine R.callp rfl rfl rfl (wth_c _ _ _ _ hv (by omega) (ofU_up _)) ?_
        intro v18 H18 s18 q18
        refine R.asE rfl (by conv => lhs; whnf) ?_
        refine TL.nil (Post.blkN ?_)
        refine id (Post.thnN ?_)
        refine T.region ?_
        refine R.addI rfl rfl rfl (by omega) ?_
        refine R.mvE rfl (by conv => lhs; whnf) ?_
        refine TL.nil (Post.thnN ?_)
        -- round's end, way yn
        exact ⟨(q.1 + 1, v18), s_0.trans s18, ⟨by show q.1 + 1 ≤ xs.length; omega, rfl, by rw [ofU_snoc _ _ _ hy]; exact q18, fun z hz => by
            rw [take_snoc _ _ _ hy] at hz; rcases List.mem_append.1 hz with hz | hz
            · exact hm z hz
            · simp at hz; rw [hz]; simpa using c15⟩, by show xs.length - (q.1 + 1) < xs.length - q.1; omega, ⟨rfl, rfl, rfl, rfl, trivial⟩⟩
    · have hqx : q.1 = xs.length := by omega
      rw [hqx, List.take_length] at hv hm
      have hall : xs.all mayB = true := List.all_eq_true.2 hm
      obtain ⟨Av, cv, hve, hcv1, hcv2, _⟩ := hv.shape
      refine T.exit (Post.thnE (Post.thnE (Post.blkX ?_)))
      refine id (Post.thnN ?_)
      refine T.seq ?_
      refine T.seq ?_
      refine T.region ?_
      refine R.mvE rfl (by conv => lhs; whnf) ?_
      refine R.len Try.underlying22 rfl hve ?_
      refine R.gtr rfl rfl rfl ?_
      refine TL.nil (Post.thnN ?_)
      refine T.condD rfl (fun c22 => ?_) (fun c22 => ?_)
      · refine T.seq ?_
        refine T.region ?_
        refine R.asE rfl (by conv => lhs; whnf) ?_
        refine R.asE rfl (by conv => lhs; whnf) ?_
        refine TL.nil (Post.thnN ?_)
        refine T.ret (Post.thnR ?_)
        -- way ny
        exact fin2L [_] rfl rfl rfl (List.Sublist.refl _) ⟨rfl, _, by rw [ofR_b hall (by omega)]; rfl, by rw [ofR_b hall (by omega)]; exact RdS.nil⟩
      · refine T.skip (Post.thnN ?_)
        refine T.seq ?_
        refine T.region ?_
        refine R.mvE rfl (by conv => lhs; whnf) ?_
        refine R.asE rfl (by conv => lhs; whnf) ?_
        refine R.asE rfl (by conv => lhs; whnf) ?_
        refine TL.nil (Post.thnN ?_)
        refine T.ret ?_
        -- way nn
        exact fin2L [_] rfl rfl rfl (List.Sublist.refl _) ⟨rfl, _, by rw [ofR_c hall (by omega)]; rfl, by rw [ofR_c hall (by omega)]; exact hv⟩

end Go.SX
