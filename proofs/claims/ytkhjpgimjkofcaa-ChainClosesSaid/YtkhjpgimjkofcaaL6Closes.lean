/- ChainCloses answers true, whatever the input. -/
import Derived.Test.YtkhjpgimjkofcaaCo4
import Derived.Test.YtkhjpgimjkofcaaWz
set_option linter.unusedVariables false
set_option linter.unusedSimpArgs false
namespace Go.SX
open Go Go.Proofs

set_option maxHeartbeats 1600000 in
theorem chainCloses_c (H : Heap) (u : Value) (xs : List Lk) (m : Lk) (hr : RdS pairE H u xs) : Fv Try.prog (fnv 10) [u, .agg #[.int .i64 m.1, .int .i64 m.2]] H (.bool true) := by
  refine Fc.of_body (N := 44) Try.func10 rfl (by kernel_rfl) rfl rfl ?_
  intro w0
  obtain ⟨A, c, rfl, hc1, hc2, hr⟩ := hr.shape
  obtain ⟨fx, hfx⟩ : ∃ l, l = xs.take 30 := ⟨_, rfl⟩
  have hfl : fx.length ≤ 1000 := by rw [hfx]; simp; omega
  have hf30 : fx.length ≤ 30 := by rw [hfx, List.length_take]; omega
  refine T.seq ?_
  refine T.region ?_
  refine R.box rfl (by conv => lhs; whnf) ?_
  intro b3
  refine R.asE rfl (by conv => lhs; whnf) ?_
  refine TL.nil (Post.thnN ?_)
  refine T.seq ?_
  refine T.seq ?_
  refine T.shut .hd ?_
  intro H3 s3 q3
  have h3 : H3 b3 = some (.cells #[.int .i64 m.1, .int .i64 m.2] 37) := shut1 q3
  refine T.region ?_
  refine R.callv rfl rfl rfl (wakes16_c _) ?_
  refine R.not rfl rfl ?_
  refine TL.nil (Post.thnN ?_)
  refine T.condN rfl ?_
  refine T.skip (Post.thnN ?_)
  refine T.seq ?_
  refine T.region ?_
  refine R.mvE rfl (by conv => lhs; whnf) ?_
  refine TL.call [] rfl rfl rfl (own16_c _ _ _ (hr.mono s3)) ?_
  intro v11 H11 L11 s11 q11
  obtain ⟨c11, rfl, w11⟩ := q11
  rw [← hfx] at w11
  refine TL.shut .hd ?_
  intro HF11 sF11 qF11
  have f11 := w11.read sF11 qF11
  obtain ⟨AF11, pF11, rfl, mF11, nF11, f11⟩ := f11.shape
  have k3 := (s11.trans sF11) _ _ h3
  refine R.asE rfl (by conv => lhs; whnf) ?_
  refine TL.nil (Post.thnN ?_)
  refine T.seq ?_
  refine T.seq ?_
  refine T.region ?_
  refine R.mvE rfl (by conv => lhs; whnf) ?_
  refine R.callv rfl rfl rfl (ccheck_c _ _ _ f11) ?_
  refine R.neq rfl rfl rfl ?_
  refine TL.nil (Post.thnN ?_)
  refine T.condD rfl (fun c14 => ?_) (fun c14 => ?_)
  · have hcb : chainB fx = false := by
      cases h : chainB fx with
      | false => rfl
      | true => rw [h] at c14; exact absurd rfl c14
    refine T.seq ?_
    refine T.region ?_
    refine R.mvE rfl (by conv => lhs; whnf) ?_
    refine R.callv rfl rfl rfl (round_c _ _ fx f11 hfl) ?_
    refine R.not rfl rfl ?_
    refine R.asE rfl (by conv => lhs; whnf) ?_
    refine TL.nil (Post.thnN ?_)
    refine T.ret (Post.thnR ?_)
    -- way y
    exact fin1 rfl rfl ⟨rfl, congrArg Value.bool (by rw [round_not hcb]; rfl)⟩
  · have hcb : chainB fx = true := by
      cases h : chainB fx with
      | true => rfl
      | false => rw [h] at c14; exact absurd c14 (by decide)
    refine T.skip (Post.thnN ?_)
    refine T.seq ?_
    refine T.draw Try_mixed (by kernel_rfl) ?_
    refine Plan.v 0 [1, 2, 3, 4, 5, 6, 7, 8, 9, 10] (by kernel_rfl) (by kernel_rfl) (by kernel_rfl) (by kernel_rfl) rfl (fun _ _ h_ => R.mvE rfl (by conv => lhs; whnf) (TL.nil h_)) ?_
    refine Plan.v 2 [1, 3, 4, 5, 6, 7, 8, 9, 10] (by kernel_rfl) (by kernel_rfl) (by kernel_rfl) (by kernel_rfl) rfl (fun _ _ h_ => R.ldAH Try.isAgg37 Try.sizeOf37 rfl rfl rfl k3 (TL.nil h_)) ?_
    refine Plan.s2 1 3 [3, 4, 5, 6, 7, 8, 9, 10] [1, 4, 5, 6, 7, 8, 9, 10] (by kernel_rfl) (by kernel_rfl) (by kernel_rfl) rfl rfl ?_ ?_
    · refine TL.call [] rfl rfl rfl (cloneP22_c _ _ _ (f11.mono (HLe.refl _)) (by omega)) ?_
      intro v20 H20 L20 s20 q20
      obtain ⟨c20, rfl, w20⟩ := q20
      refine TL.nil (Plan.e1 (s20) ?_)
      refine Plan.s1 3 [4, 5, 6, 7, 8, 9, 10] (by kernel_rfl) (by kernel_rfl) rfl ?_
      refine R.bs (e := 37) (cs := [.int .i64 m.1, .int .i64 m.2]) rfl (fun _ => by kernel_rfl) ?_
      intro b22
      refine TL.nil (Plan.e1 (HLe.refl _) ?_)
      refine Plan.s1 4 [5, 6, 7, 8, 9, 10] (by kernel_rfl) (by kernel_rfl) rfl ?_
      refine R.app (ys := [m]) Try_ty22 rfl rfl rfl w20 (by first | exact .hd | exact .tl .hd | exact .tl (.tl .hd) | exact .tl (.tl (.tl .hd)) | exact .tl (.tl (.tl (.tl .hd))) | exact .tl (.tl (.tl (.tl (.tl .hd)))) | exact .tl (.tl (.tl (.tl (.tl (.tl .hd))))) | exact .tl (.tl (.tl (.tl (.tl (.tl (.tl .hd)))))) | exact .tl (.tl (.tl (.tl (.tl (.tl (.tl (.tl .hd))))))) | exact .tl (.tl (.tl (.tl (.tl (.tl (.tl (.tl (.tl .hd))))))))) (Src.lit (vs := [.int .i64 m.1, .int .i64 m.2]) (by first | exact .hd | exact .tl .hd | exact .tl (.tl .hd) | exact .tl (.tl (.tl .hd)) | exact .tl (.tl (.tl (.tl .hd))) | exact .tl (.tl (.tl (.tl (.tl .hd)))) | exact .tl (.tl (.tl (.tl (.tl (.tl .hd))))) | exact .tl (.tl (.tl (.tl (.tl (.tl (.tl .hd)))))) | exact .tl (.tl (.tl (.tl (.tl (.tl (.tl (.tl .hd))))))) | exact .tl (.tl (.tl (.tl (.tl (.tl (.tl (.tl (.tl .hd)))))))))) ⟨[.int .i64 m.1, .int .i64 m.2], [], rfl, rfl, rfl⟩ (by simp; omega) (by simp; omega) ?_
      intro v23 c23 w23
      refine TL.shut .hd ?_
      intro H23 s23 q23
      have g23 := w23.read s23 q23
      refine TL.nil (Plan.e1 (s23) ?_)
      refine Plan.s1 5 [6, 7, 8, 9, 10] (by kernel_rfl) (by kernel_rfl) rfl ?_
      refine R.callp rfl rfl rfl (of_c _ _ (fx ++ [m]) g23 (by simp; omega)) ?_
      intro v24 H24 s24 q24
      obtain ⟨w24, rfl, g24⟩ := q24
      refine TL.nil (Plan.e1 (s24) ?_)
      refine Plan.v 6 [7, 8, 9, 10] (by kernel_rfl) (by kernel_rfl) (by kernel_rfl) (by kernel_rfl) rfl (fun _ _ h_ => R.mvE rfl (by conv => lhs; whnf) (TL.nil h_)) ?_
      refine Plan.v 7 [8, 9, 10] (by kernel_rfl) (by kernel_rfl) (by kernel_rfl) (by kernel_rfl) rfl (fun _ _ h_ => R.ext rfl rfl rfl (TL.nil h_)) ?_
      refine Plan.v 8 [9, 10] (by kernel_rfl) (by kernel_rfl) (by kernel_rfl) (by kernel_rfl) rfl (fun _ _ h_ => R.ext rfl rfl rfl (TL.nil h_)) ?_
      refine Plan.v 9 [10] (by kernel_rfl) (by kernel_rfl) (by kernel_rfl) (by kernel_rfl) rfl (fun _ _ h_ => R.asE rfl (by conv => lhs; whnf) (TL.nil h_)) ?_
      refine Plan.v 10 [] (by kernel_rfl) (by kernel_rfl) (by kernel_rfl) (by kernel_rfl) rfl (fun _ _ h_ => R.asE rfl (by conv => lhs; whnf) (TL.nil h_)) ?_
      refine Plan.done (Post.thnN ?_)
      refine T.seq ?_
      refine T.seq ?_
      refine T.region ?_
      refine R.mvE rfl (by conv => lhs; whnf) ?_
      refine R.neq rfl rfl rfl ?_
      refine TL.nil (Post.thnN ?_)
      refine T.condD rfl (fun c28 => ?_) (fun c28 => ?_)
      · refine T.seq ?_
        refine T.region ?_
        refine R.mvE rfl (by conv => lhs; whnf) ?_
        refine R.eql rfl rfl rfl ?_
        refine R.asE rfl (by conv => lhs; whnf) ?_
        refine TL.nil (Post.thnN ?_)
        refine T.ret (Post.thnR ?_)
        -- way n0y
        exact fin1 rfl rfl ⟨rfl, congrArg Value.bool (decide_eq_true (ofR_code (by simp; omega) c28))⟩
      · refine T.skip (Post.thnN ?_)
        refine T.seq ?_
        refine T.region ?_
        refine R.mvE rfl (by conv => lhs; whnf) ?_
        refine R.callv rfl rfl rfl (round_c _ _ _ g24 (ofR_len (by simp; omega))) ?_
        refine R.mvE rfl (by conv => lhs; whnf) ?_
        refine R.callv rfl rfl rfl (round_c _ _ fx (f11.mono (s20.trans (s23.trans s24))) hfl) ?_
        refine R.mvE rfl (by conv => lhs; whnf) ?_
        refine TL.gsplit 35 rfl (fun g35 => ?_) (fun g35 => ?_)
        · refine TL.off rfl rfl rfl ?_
          refine TL.off rfl rfl rfl ?_
          refine TL.off rfl rfl rfl ?_
          refine TL.off rfl rfl rfl ?_
          refine TL.off rfl rfl rfl ?_
          refine TL.off rfl rfl rfl ?_
          refine R.pkTE rfl rfl (by conv => lhs; whnf) ?_
          refine R.eqlB Try.underlying4 rfl rfl rfl ?_
          refine R.asE rfl (by conv => lhs; whnf) ?_
          refine TL.nil (Post.thnN ?_)
          refine T.ret ?_
          -- way n0ny
          exact fin1 rfl rfl ⟨rfl, congrArg Value.bool (by rw [ring_of (by omega) hcb (by simpa using c28), g35]; simp)⟩
        · refine R.mvE rfl (by conv => lhs; whnf) ?_
          refine R.fldA Try.underlying37 rfl Try.sizeOf3 (by decide) rfl rfl ?_
          refine R.ldH Try.isAgg3 rfl rfl (((s20.trans (s23.trans s24)) _ _ k3)) rfl ?_
          refine R.fldA Try.underlying37 rfl Try.sizeOf3 (by decide) rfl rfl ?_
          refine R.ldH Try.isAgg3 rfl rfl (((s20.trans (s23.trans s24)) _ _ k3)) rfl ?_
          refine R.callv rfl rfl rfl (closes_c _ _ fx m.1 (f11.mono (s20.trans (s23.trans s24))) hfl m.2) ?_
          refine R.pkFE rfl rfl (by conv => lhs; whnf) ?_
          refine R.eqlB Try.underlying4 rfl rfl rfl ?_
          refine R.asE rfl (by conv => lhs; whnf) ?_
          refine TL.nil (Post.thnN ?_)
          refine T.ret ?_
          -- way n0nn
          exact fin1 rfl rfl ⟨rfl, congrArg Value.bool (by rw [ring_of (by omega) hcb (by simpa using c28), g35]; simp)⟩
    · refine R.bs (e := 37) (cs := [.int .i64 m.1, .int .i64 m.2]) rfl (fun _ => by kernel_rfl) ?_
      intro b22
      refine TL.nil (Plan.e1 (HLe.refl _) ?_)
      refine Plan.s1 1 [4, 5, 6, 7, 8, 9, 10] (by kernel_rfl) (by kernel_rfl) rfl ?_
      refine TL.call [] rfl rfl rfl (cloneP22_c _ _ _ (f11.mono (HLe.refl _)) (by omega)) ?_
      intro v20 H20 L20 s20 q20
      obtain ⟨c20, rfl, w20⟩ := q20
      refine TL.nil (Plan.e1 (s20) ?_)
      refine Plan.s1 4 [5, 6, 7, 8, 9, 10] (by kernel_rfl) (by kernel_rfl) rfl ?_
      refine R.app (ys := [m]) Try_ty22 rfl rfl rfl w20 (by first | exact .hd | exact .tl .hd | exact .tl (.tl .hd) | exact .tl (.tl (.tl .hd)) | exact .tl (.tl (.tl (.tl .hd))) | exact .tl (.tl (.tl (.tl (.tl .hd)))) | exact .tl (.tl (.tl (.tl (.tl (.tl .hd))))) | exact .tl (.tl (.tl (.tl (.tl (.tl (.tl .hd)))))) | exact .tl (.tl (.tl (.tl (.tl (.tl (.tl (.tl .hd))))))) | exact .tl (.tl (.tl (.tl (.tl (.tl (.tl (.tl (.tl .hd))))))))) (Src.lit (vs := [.int .i64 m.1, .int .i64 m.2]) (by first | exact .hd | exact .tl .hd | exact .tl (.tl .hd) | exact .tl (.tl (.tl .hd)) | exact .tl (.tl (.tl (.tl .hd))) | exact .tl (.tl (.tl (.tl (.tl .hd)))) | exact .tl (.tl (.tl (.tl (.tl (.tl .hd))))) | exact .tl (.tl (.tl (.tl (.tl (.tl (.tl .hd)))))) | exact .tl (.tl (.tl (.tl (.tl (.tl (.tl (.tl .hd))))))) | exact .tl (.tl (.tl (.tl (.tl (.tl (.tl (.tl (.tl .hd)))))))))) ⟨[.int .i64 m.1, .int .i64 m.2], [], rfl, rfl, rfl⟩ (by simp; omega) (by simp; omega) ?_
      intro v23 c23 w23
      refine TL.shut .hd ?_
      intro H23 s23 q23
      have g23 := w23.read s23 q23
      refine TL.nil (Plan.e1 (s23) ?_)
      refine Plan.s1 5 [6, 7, 8, 9, 10] (by kernel_rfl) (by kernel_rfl) rfl ?_
      refine R.callp rfl rfl rfl (of_c _ _ (fx ++ [m]) g23 (by simp; omega)) ?_
      intro v24 H24 s24 q24
      obtain ⟨w24, rfl, g24⟩ := q24
      refine TL.nil (Plan.e1 (s24) ?_)
      refine Plan.v 6 [7, 8, 9, 10] (by kernel_rfl) (by kernel_rfl) (by kernel_rfl) (by kernel_rfl) rfl (fun _ _ h_ => R.mvE rfl (by conv => lhs; whnf) (TL.nil h_)) ?_
      refine Plan.v 7 [8, 9, 10] (by kernel_rfl) (by kernel_rfl) (by kernel_rfl) (by kernel_rfl) rfl (fun _ _ h_ => R.ext rfl rfl rfl (TL.nil h_)) ?_
      refine Plan.v 8 [9, 10] (by kernel_rfl) (by kernel_rfl) (by kernel_rfl) (by kernel_rfl) rfl (fun _ _ h_ => R.ext rfl rfl rfl (TL.nil h_)) ?_
      refine Plan.v 9 [10] (by kernel_rfl) (by kernel_rfl) (by kernel_rfl) (by kernel_rfl) rfl (fun _ _ h_ => R.asE rfl (by conv => lhs; whnf) (TL.nil h_)) ?_
      refine Plan.v 10 [] (by kernel_rfl) (by kernel_rfl) (by kernel_rfl) (by kernel_rfl) rfl (fun _ _ h_ => R.asE rfl (by conv => lhs; whnf) (TL.nil h_)) ?_
      refine Plan.done (Post.thnN ?_)
      refine T.seq ?_
      refine T.seq ?_
      refine T.region ?_
      refine R.mvE rfl (by conv => lhs; whnf) ?_
      refine R.neq rfl rfl rfl ?_
      refine TL.nil (Post.thnN ?_)
      refine T.condD rfl (fun c28 => ?_) (fun c28 => ?_)
      · refine T.seq ?_
        refine T.region ?_
        refine R.mvE rfl (by conv => lhs; whnf) ?_
        refine R.eql rfl rfl rfl ?_
        refine R.asE rfl (by conv => lhs; whnf) ?_
        refine TL.nil (Post.thnN ?_)
        refine T.ret (Post.thnR ?_)
        -- way n1y
        exact fin1 rfl rfl ⟨rfl, congrArg Value.bool (decide_eq_true (ofR_code (by simp; omega) c28))⟩
      · refine T.skip (Post.thnN ?_)
        refine T.seq ?_
        refine T.region ?_
        refine R.mvE rfl (by conv => lhs; whnf) ?_
        refine R.callv rfl rfl rfl (round_c _ _ _ g24 (ofR_len (by simp; omega))) ?_
        refine R.mvE rfl (by conv => lhs; whnf) ?_
        refine R.callv rfl rfl rfl (round_c _ _ fx (f11.mono (s20.trans (s23.trans s24))) hfl) ?_
        refine R.mvE rfl (by conv => lhs; whnf) ?_
        refine TL.gsplit 35 rfl (fun g35 => ?_) (fun g35 => ?_)
        · refine TL.off rfl rfl rfl ?_
          refine TL.off rfl rfl rfl ?_
          refine TL.off rfl rfl rfl ?_
          refine TL.off rfl rfl rfl ?_
          refine TL.off rfl rfl rfl ?_
          refine TL.off rfl rfl rfl ?_
          refine R.pkTE rfl rfl (by conv => lhs; whnf) ?_
          refine R.eqlB Try.underlying4 rfl rfl rfl ?_
          refine R.asE rfl (by conv => lhs; whnf) ?_
          refine TL.nil (Post.thnN ?_)
          refine T.ret ?_
          -- way n1ny
          exact fin1 rfl rfl ⟨rfl, congrArg Value.bool (by rw [ring_of (by omega) hcb (by simpa using c28), g35]; simp)⟩
        · refine R.mvE rfl (by conv => lhs; whnf) ?_
          refine R.fldA Try.underlying37 rfl Try.sizeOf3 (by decide) rfl rfl ?_
          refine R.ldH Try.isAgg3 rfl rfl (((s20.trans (s23.trans s24)) _ _ k3)) rfl ?_
          refine R.fldA Try.underlying37 rfl Try.sizeOf3 (by decide) rfl rfl ?_
          refine R.ldH Try.isAgg3 rfl rfl (((s20.trans (s23.trans s24)) _ _ k3)) rfl ?_
          refine R.callv rfl rfl rfl (closes_c _ _ fx m.1 (f11.mono (s20.trans (s23.trans s24))) hfl m.2) ?_
          refine R.pkFE rfl rfl (by conv => lhs; whnf) ?_
          refine R.eqlB Try.underlying4 rfl rfl rfl ?_
          refine R.asE rfl (by conv => lhs; whnf) ?_
          refine TL.nil (Post.thnN ?_)
          refine T.ret ?_
          -- way n1nn
          exact fin1 rfl rfl ⟨rfl, congrArg Value.bool (by rw [ring_of (by omega) hcb (by simpa using c28), g35]; simp)⟩

end Go.SX
