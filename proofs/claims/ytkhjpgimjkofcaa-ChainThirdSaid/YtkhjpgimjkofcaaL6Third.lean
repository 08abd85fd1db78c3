/- ChainThird answers true, whatever the input. -/
import Derived.Test.YtkhjpgimjkofcaaCo4
import Derived.Test.YtkhjpgimjkofcaaWz
set_option linter.unusedVariables false
set_option linter.unusedSimpArgs false
namespace Go.SX
open Go Go.Proofs

set_option maxHeartbeats 1600000 in
theorem third1_c (H : Heap) (b5 b7 : Nat) (e : Int) (u : Value) (fx : List Lk) (h5 : H b5 = some (.cells #[.int .i64 e] 3)) (h7 : H b7 = some (.cells #[u] 22)) (hr : RdS pairE H u fx) (hl : fx.length ≤ 1000) (x : Int) : Fv Try.prog (.func (.func 46) #[] ([.pointer (some ⟨b5, 0, none⟩), .pointer (some ⟨b7, 0, none⟩)] : List Value).toArray) [.int .i64 x] H (.bool (decide (x = e) || leadsR fx x e)) := by
  refine Fc.of_body (N := 14) Try.func46 rfl (by kernel_rfl) rfl rfl ?_
  intro w0
  refine T.seq ?_
  refine T.region ?_
  refine R.asE rfl (by conv => lhs; whnf) ?_
  refine TL.nil (Post.thnN ?_)
  refine T.seq ?_
  refine T.region ?_
  refine R.mvE rfl (by conv => lhs; whnf) ?_
  refine R.ldH Try.isAgg3 rfl rfl (h5) rfl ?_
  refine R.eql rfl rfl rfl ?_
  refine R.mvE rfl (by conv => lhs; whnf) ?_
  refine TL.gsplitD 8 rfl (fun g8 => ?_) (fun g8 => ?_)
  · refine TL.off rfl rfl rfl ?_
    refine TL.off rfl rfl rfl ?_
    refine TL.off rfl rfl rfl ?_
    refine TL.off rfl rfl rfl ?_
    refine R.pkTE rfl rfl (by conv => lhs; whnf) ?_
    refine R.asE rfl (by conv => lhs; whnf) ?_
    refine TL.nil (Post.thnN ?_)
    refine T.ret ?_
    -- way y
    exact fin1 rfl rfl ⟨rfl, congrArg Value.bool (by rw [decide_eq_true g8, Bool.true_or])⟩
  · refine R.ldH Try.isAgg22 rfl rfl (h7) rfl ?_
    refine R.mvE rfl (by conv => lhs; whnf) ?_
    refine R.ldH Try.isAgg3 rfl rfl (h5) rfl ?_
    refine R.callv rfl rfl rfl (leads_c _ _ fx x hr hl e) ?_
    refine R.pkFE rfl rfl (by conv => lhs; whnf) ?_
    refine R.asE rfl (by conv => lhs; whnf) ?_
    refine TL.nil (Post.thnN ?_)
    refine T.ret ?_
    -- way n
    exact fin1 rfl rfl ⟨rfl, congrArg Value.bool (by rw [decide_eq_false g8, Bool.false_or])⟩


set_option maxHeartbeats 1600000 in
theorem chainThird_c (H : Heap) (u : Value) (xs : List Lk) (pr : Lk) (e : Int) (hr : RdS pairE H u xs) : Fv Try.prog (fnv 9) [u, .agg #[.int .i64 pr.1, .int .i64 pr.2], .int .i64 e] H (.bool true) := by
  refine Fc.of_body (N := 63) Try.func9 rfl (by kernel_rfl) rfl rfl ?_
  intro w0
  obtain ⟨A, c, rfl, hc1, hc2, hr⟩ := hr.shape
  obtain ⟨fx, hfx⟩ : ∃ l, l = xs.take 30 := ⟨_, rfl⟩
  have hfl : fx.length ≤ 1000 := by rw [hfx]; simp; omega
  refine T.seq ?_
  refine T.region ?_
  refine R.box rfl (by conv => lhs; whnf) ?_
  intro b4
  refine R.box rfl (by conv => lhs; whnf) ?_
  intro b5
  refine R.asE rfl (by conv => lhs; whnf) ?_
  refine TL.nil (Post.thnN ?_)
  refine T.seq ?_
  refine T.seq ?_
  refine T.shut .hd ?_
  intro H5 s5 q5
  have h5 : H5 b5 = some (.cells #[.int .i64 e] 3) := shut1 q5
  refine T.shut .hd ?_
  intro H4 s4 q4
  have h4 : H4 b4 = some (.cells #[.int .i64 pr.1, .int .i64 pr.2] 61) := shut1 q4
  refine T.region ?_
  refine R.callv rfl rfl rfl (wakes16_c _) ?_
  refine R.not rfl rfl ?_
  refine TL.nil (Post.thnN ?_)
  refine T.condN rfl ?_
  refine T.skip (Post.thnN ?_)
  refine T.seq ?_
  refine T.region ?_
  refine R.mvE rfl (by conv => lhs; whnf) ?_
  refine TL.call [] rfl rfl rfl (own16_c _ _ _ (hr.mono (s5.trans s4))) ?_
  intro v14 H14 L14 s14 q14
  obtain ⟨c14, rfl, w14⟩ := q14
  rw [← hfx] at w14
  refine TL.shut .hd ?_
  intro HF14 sF14 qF14
  have f14 := w14.read sF14 qF14
  obtain ⟨AF14, pF14, rfl, mF14, nF14, f14⟩ := f14.shape
  refine R.alloc Try.zeroValue22 rfl ?_
  intro b7
  refine R.st Try.sizeOf22 rfl rfl (by conv => lhs; whnf) rfl (by first | exact .hd | exact .tl .hd | exact .tl (.tl .hd) | exact .tl (.tl (.tl .hd)) | exact .tl (.tl (.tl (.tl .hd))) | exact .tl (.tl (.tl (.tl (.tl .hd)))) | exact .tl (.tl (.tl (.tl (.tl (.tl .hd))))) | exact .tl (.tl (.tl (.tl (.tl (.tl (.tl .hd)))))) | exact .tl (.tl (.tl (.tl (.tl (.tl (.tl (.tl .hd))))))) | exact .tl (.tl (.tl (.tl (.tl (.tl (.tl (.tl (.tl .hd))))))))) ?_
  refine TL.nil (Post.thnN ?_)
  refine T.seq ?_
  refine T.shut .hd ?_
  intro H7 s7 q7
  have h7 : H7 b7 = some (.cells #[.slice AF14 fx.length pF14] 22) := shut1 q7
  have f7 := f14.mono s7
  have k4 := (s14.trans (sF14.trans s7)) _ _ h4
  have k5 := (s4.trans (s14.trans (sF14.trans s7))) _ _ h5
  refine T.draw Try_mixed (by kernel_rfl) ?_
  refine Plan.v 0 [1, 2, 3, 4, 5] (by kernel_rfl) (by kernel_rfl) (by kernel_rfl) (by kernel_rfl) rfl (fun _ _ h_ => R.ixA Try.underlying61 Try.sizeOf3 rfl rfl rfl (by decide) (by decide) (TL.nil h_)) ?_
  refine Plan.v 1 [2, 3, 4, 5] (by kernel_rfl) (by kernel_rfl) (by kernel_rfl) (by kernel_rfl) rfl (fun _ _ h_ => R.ldH Try.isAgg3 rfl rfl (k4) rfl (TL.nil h_)) ?_
  refine Plan.v 2 [3, 4, 5] (by kernel_rfl) (by kernel_rfl) (by kernel_rfl) (by kernel_rfl) rfl (fun _ _ h_ => R.ixA Try.underlying61 Try.sizeOf3 rfl rfl rfl (by decide) (by decide) (TL.nil h_)) ?_
  refine Plan.v 3 [4, 5] (by kernel_rfl) (by kernel_rfl) (by kernel_rfl) (by kernel_rfl) rfl (fun _ _ h_ => R.ldH Try.isAgg3 rfl rfl (k4) rfl (TL.nil h_)) ?_
  refine Plan.v 4 [5] (by kernel_rfl) (by kernel_rfl) (by kernel_rfl) (by kernel_rfl) rfl (fun _ _ h_ => R.asE rfl (by conv => lhs; whnf) (TL.nil h_)) ?_
  refine Plan.v 5 [] (by kernel_rfl) (by kernel_rfl) (by kernel_rfl) (by kernel_rfl) rfl (fun _ _ h_ => R.asE rfl (by conv => lhs; whnf) (TL.nil h_)) ?_
  refine Plan.done (Post.thnN ?_)
  refine T.seq ?_
  refine T.cut (ι := Unit) (fun _ H' L' ds' => L' = [] ∧ ds' = []) (fun _ => [(5, .pointer (some ⟨b5, 0, none⟩)), (7, .pointer (some ⟨b7, 0, none⟩)), (8, .int .i64 pr.1), (9, .int .i64 pr.2), (35, .bool false)]) ?_ ?_
  · refine T.region ?_
    refine R.ldH Try.isAgg22 rfl rfl (h7) rfl ?_
    refine R.mvE rfl (by conv => lhs; whnf) ?_
    refine R.mvE rfl (by conv => lhs; whnf) ?_
    refine R.callv rfl rfl rfl (leads_c _ _ fx pr.1 f7 hfl pr.2) ?_
    refine R.mvE rfl (by conv => lhs; whnf) ?_
    refine TL.gsplit 23 rfl (fun g23 => ?_) (fun g23 => ?_)
    · refine R.ldH Try.isAgg22 rfl rfl (h7) rfl ?_
      refine R.mvE rfl (by conv => lhs; whnf) ?_
      refine R.ldH Try.isAgg3 rfl rfl (k5) rfl ?_
      refine R.callv rfl rfl rfl (leads_c _ _ fx pr.2 f7 hfl e) ?_
      refine R.pkTE rfl rfl (by conv => lhs; whnf) ?_
      refine R.mvE rfl (by conv => lhs; whnf) ?_
      refine TL.gsplit 29 rfl (fun g29 => ?_) (fun g29 => ?_)
      · refine R.ldH Try.isAgg22 rfl rfl (h7) rfl ?_
        refine R.mvE rfl (by conv => lhs; whnf) ?_
        refine R.ldH Try.isAgg3 rfl rfl (k5) rfl ?_
        refine R.callv rfl rfl rfl (leads_c _ _ fx pr.1 f7 hfl e) ?_
        refine R.not rfl rfl ?_
        refine R.pkTE rfl rfl (by conv => lhs; whnf) ?_
        refine TL.nil (Post.thnN ?_)
        -- cut r5, way yy
        exact ⟨(), HLe.refl _, ⟨rfl, rfl⟩, rfl, rfl, rfl, rfl, congrArg Value.bool (by rw [leads_trans g23 g29]; rfl), trivial⟩
      · refine TL.off rfl rfl rfl ?_
        refine TL.off rfl rfl rfl ?_
        refine TL.off rfl rfl rfl ?_
        refine TL.off rfl rfl rfl ?_
        refine TL.off rfl rfl rfl ?_
        refine R.pkFE rfl rfl (by conv => lhs; whnf) ?_
        refine TL.nil (Post.thnN ?_)
        -- cut r5, way yn
        exact ⟨(), HLe.refl _, ⟨rfl, rfl⟩, rfl, rfl, rfl, rfl, rfl, trivial⟩
    · refine TL.off rfl rfl rfl ?_
      refine TL.off rfl rfl rfl ?_
      refine TL.off rfl rfl rfl ?_
      refine TL.off rfl rfl rfl ?_
      refine R.pkFE rfl rfl (by conv => lhs; whnf) ?_
      refine R.mvE rfl (by conv => lhs; whnf) ?_
      refine TL.off rfl rfl rfl ?_
      refine TL.off rfl rfl rfl ?_
      refine TL.off rfl rfl rfl ?_
      refine TL.off rfl rfl rfl ?_
      refine TL.off rfl rfl rfl ?_
      refine R.pkFE rfl rfl (by conv => lhs; whnf) ?_
      refine TL.nil (Post.thnN ?_)
      -- cut r5, way n
      exact ⟨(), HLe.refl _, ⟨rfl, rfl⟩, rfl, rfl, rfl, rfl, rfl, trivial⟩
  · intro _ σ_r5 H_r5 L_r5 ds_r5 s_r5 hI_r5
    obtain ⟨rfl, rfl⟩ := hI_r5
    refine T.condN rfl ?_
    refine T.skip (Post.thnN ?_)
    refine T.seq ?_
    refine T.cut (ι := Unit) (fun _ H' L' ds' => L' = [] ∧ ds' = []) (fun _ => [(5, .pointer (some ⟨b5, 0, none⟩)), (7, .pointer (some ⟨b7, 0, none⟩)), (8, .int .i64 pr.1), (9, .int .i64 pr.2), (51, .bool false)]) ?_ ?_
    · refine T.draw Try_mixed (by kernel_rfl) ?_
      refine Plan.v 0 [1, 2, 3, 4, 5, 6, 7, 8, 9, 10, 11, 12, 13, 14, 15] (by kernel_rfl) (by kernel_rfl) (by kernel_rfl) (by kernel_rfl) rfl (fun _ _ h_ => R.ldH Try.isAgg22 rfl rfl ((s_r5 _ _ h7)) rfl (TL.nil h_)) ?_
      refine Plan.v 1 [2, 3, 4, 5, 6, 7, 8, 9, 10, 11, 12, 13, 14, 15] (by kernel_rfl) (by kernel_rfl) (by kernel_rfl) (by kernel_rfl) rfl (fun _ _ h_ => R.mvE rfl (by conv => lhs; whnf) (TL.nil h_)) ?_
      refine Plan.v 3 [2, 4, 5, 6, 7, 8, 9, 10, 11, 12, 13, 14, 15] (by kernel_rfl) (by kernel_rfl) (by kernel_rfl) (by kernel_rfl) rfl (fun _ _ h_ => R.mvE rfl (by conv => lhs; whnf) (TL.nil h_)) ?_
      refine Plan.v 5 [2, 4, 6, 7, 8, 9, 10, 11, 12, 13, 14, 15] (by kernel_rfl) (by kernel_rfl) (by kernel_rfl) (by kernel_rfl) rfl (fun _ _ h_ => R.ldH Try.isAgg22 rfl rfl ((s_r5 _ _ h7)) rfl (TL.nil h_)) ?_
      refine Plan.v 6 [2, 4, 7, 8, 9, 10, 11, 12, 13, 14, 15] (by kernel_rfl) (by kernel_rfl) (by kernel_rfl) (by kernel_rfl) rfl (fun _ _ h_ => R.mvE rfl (by conv => lhs; whnf) (TL.nil h_)) ?_
      refine Plan.v 7 [2, 4, 8, 9, 10, 11, 12, 13, 14, 15] (by kernel_rfl) (by kernel_rfl) (by kernel_rfl) (by kernel_rfl) rfl (fun _ _ h_ => R.mvE rfl (by conv => lhs; whnf) (TL.nil h_)) ?_
      refine Plan.v 8 [2, 4, 9, 10, 11, 12, 13, 14, 15] (by kernel_rfl) (by kernel_rfl) (by kernel_rfl) (by kernel_rfl) rfl (fun _ _ h_ => R.bld (cs := [.int .i64 pr.1, .int .i64 pr.2]) rfl (fun _ => by kernel_rfl) (TL.nil h_)) ?_
      refine Plan.s1 2 [4, 9, 10, 11, 12, 13, 14, 15] (by kernel_rfl) (by kernel_rfl) rfl ?_
      refine R.callp rfl rfl rfl (to_c _ _ fx pr.1 (f7.mono s_r5) hfl) ?_
      intro v38 H38 s38 q38
      change RdS _ _ _ (toL fx pr.1) at q38
      refine TL.nil (Plan.e1 (s38) ?_)
      refine Plan.v 4 [9, 10, 11, 12, 13, 14, 15] (by kernel_rfl) (by kernel_rfl) (by kernel_rfl) (by kernel_rfl) rfl (fun _ _ h_ => R.callv rfl rfl rfl (containsI23_c _ _ _ pr.2 q38) (TL.nil h_)) ?_
      refine Plan.v 9 [10, 11, 12, 13, 14, 15] (by kernel_rfl) (by kernel_rfl) (by kernel_rfl) (by kernel_rfl) rfl (fun _ _ h_ => R.callv rfl rfl rfl (containsP_c _ _ fx (pr.1, pr.2) (f7.mono (s_r5.trans s38))) (TL.nil h_)) ?_
      refine Plan.v 10 [11, 12, 13, 14, 15] (by kernel_rfl) (by kernel_rfl) (by kernel_rfl) (by kernel_rfl) rfl (fun _ _ h_ => R.mvE rfl (by conv => lhs; whnf) (TL.nil h_)) ?_
      refine Plan.gsplit 46 rfl (fun g46 => ?_) (fun g46 => ?_)
      · refine Plan.v 11 [12, 13, 14, 15] (by kernel_rfl) (by kernel_rfl) (by kernel_rfl) (by kernel_rfl) rfl (fun _ _ h_ => R.ldH Try.isAgg22 rfl rfl (((s_r5.trans s38) _ _ h7)) rfl (TL.nil h_)) ?_
        refine Plan.v 12 [13, 14, 15] (by kernel_rfl) (by kernel_rfl) (by kernel_rfl) (by kernel_rfl) rfl (fun _ _ h_ => R.callv rfl rfl rfl (ccheck_c _ _ _ (f7.mono (s_r5.trans s38))) (TL.nil h_)) ?_
        refine Plan.v 13 [14, 15] (by kernel_rfl) (by kernel_rfl) (by kernel_rfl) (by kernel_rfl) rfl (fun _ _ h_ => R.eql rfl rfl rfl (TL.nil h_)) ?_
        refine Plan.v 14 [15] (by kernel_rfl) (by kernel_rfl) (by kernel_rfl) (by kernel_rfl) rfl (fun _ _ h_ => R.pkTE rfl rfl (by conv => lhs; whnf) (TL.nil h_)) ?_
        refine Plan.v 15 [] (by kernel_rfl) (by kernel_rfl) (by kernel_rfl) (by kernel_rfl) rfl (fun _ _ h_ => R.neqB Try.underlying4 rfl rfl rfl (TL.nil h_)) ?_
        refine Plan.done (Post.thnN ?_)
        -- cut r7, way y
        exact ⟨(), s38, ⟨rfl, rfl⟩, rfl, rfl, rfl, rfl, congrArg Value.bool (by rw [third_has, g46]; cases chainB fx <;> rfl), trivial⟩
      · refine Plan.v 11 [12, 13, 14, 15] (by kernel_rfl) (by kernel_rfl) (by kernel_rfl) (by kernel_rfl) rfl (fun _ _ h_ => TL.off rfl rfl rfl (TL.nil h_)) ?_
        refine Plan.v 12 [13, 14, 15] (by kernel_rfl) (by kernel_rfl) (by kernel_rfl) (by kernel_rfl) rfl (fun _ _ h_ => TL.off rfl rfl rfl (TL.nil h_)) ?_
        refine Plan.v 13 [14, 15] (by kernel_rfl) (by kernel_rfl) (by kernel_rfl) (by kernel_rfl) rfl (fun _ _ h_ => TL.off rfl rfl rfl (TL.nil h_)) ?_
        refine Plan.v 14 [15] (by kernel_rfl) (by kernel_rfl) (by kernel_rfl) (by kernel_rfl) rfl (fun _ _ h_ => R.pkFE rfl rfl (by conv => lhs; whnf) (TL.nil h_)) ?_
        refine Plan.v 15 [] (by kernel_rfl) (by kernel_rfl) (by kernel_rfl) (by kernel_rfl) rfl (fun _ _ h_ => R.neqB Try.underlying4 rfl rfl rfl (TL.nil h_)) ?_
        refine Plan.done (Post.thnN ?_)
        -- cut r7, way n
        exact ⟨(), s38, ⟨rfl, rfl⟩, rfl, rfl, rfl, rfl, congrArg Value.bool (by rw [third_has, g46]; cases chainB fx <;> rfl), trivial⟩
    · intro _ σ_r7 H_r7 L_r7 ds_r7 s_r7 hI_r7
      obtain ⟨rfl, rfl⟩ := hI_r7
      refine T.condN rfl ?_
      refine T.skip (Post.thnN ?_)
      refine T.seq ?_
      refine T.region ?_
      refine R.ldH Try.isAgg22 rfl rfl (((s_r5.trans s_r7) _ _ h7)) rfl ?_
      refine R.mvE rfl (by conv => lhs; whnf) ?_
      refine R.callp rfl rfl rfl (to_c _ _ fx pr.1 (f7.mono (s_r5.trans s_r7)) hfl) ?_
      intro v54 H54 s54 q54
      change RdS _ _ _ (toL fx pr.1) at q54
      refine R.mkf (cs := [_, _]) rfl rfl ?_
      refine R.callv rfl rfl rfl (containsF_c _ _ _ _ (fun v => decide (v = e) || leadsR fx v e) q54 (fun H2 h2 v => third1_c _ b5 b7 e _ fx ((s_r5.trans (s_r7.trans (s54.trans h2))) _ _ k5) ((s_r5.trans (s_r7.trans (s54.trans h2))) _ _ h7) (f7.mono (s_r5.trans (s_r7.trans (s54.trans h2)))) hfl v)) ?_
      refine R.asE rfl (by conv => lhs; whnf) ?_
      refine TL.nil (Post.thnN ?_)
      refine T.seq ?_
      refine T.region ?_
      refine R.ldH Try.isAgg22 rfl rfl (((s_r5.trans (s_r7.trans s54)) _ _ h7)) rfl ?_
      refine R.mvE rfl (by conv => lhs; whnf) ?_
      refine R.ldH Try.isAgg3 rfl rfl (((s_r5.trans (s_r7.trans s54)) _ _ k5)) rfl ?_
      refine R.callv rfl rfl rfl (leads_c _ _ fx pr.1 (f7.mono (s_r5.trans (s_r7.trans s54))) hfl e) ?_
      refine R.mvE rfl (by conv => lhs; whnf) ?_
      refine R.eqlB Try.underlying4 rfl rfl rfl ?_
      refine R.asE rfl (by conv => lhs; whnf) ?_
      refine TL.nil (Post.thnN ?_)
      refine T.ret ?_
      exact fin1 rfl rfl ⟨rfl, congrArg Value.bool (by rw [← leads_first]; simp)⟩

end Go.SX
