/- TypesOrder answers true, whatever the input. -/
import Derived.Test.YtmkmdfgfclckoaaL31
import Derived.Test.YtmkmdfgfclckoaaTy4
set_option linter.unusedVariables false
set_option linter.unusedSimpArgs false
namespace Go.SX
open Go Go.Proofs

set_option maxHeartbeats 1600000 in
theorem order_c (H : Heap) (v u z : Value) (xs ys zs : List Int) (hr : RdS (intE .u64) H v xs) (hr2 : RdS (intE .u64) H u ys) (hr3 : RdS (intE .u64) H z zs) (hU : Us xs) : Fv Try.prog (fnv 6) [v, u, z] H (.bool true) := by
  refine Fc.of_body (N := 102) Try.func6 rfl (by kernel_rfl) rfl rfl ?_
  intro w0
  obtain ⟨A, c, rfl, hc1, hc2, hr⟩ := hr.shape
  obtain ⟨A2, c2, rfl, hc3, hc4, hr2⟩ := hr2.shape
  obtain ⟨A3, c3, rfl, hc5, hc6, hr3⟩ := hr3.shape
  obtain ⟨fx, hfx⟩ : ∃ l, l = xs.take 20 := ⟨_, rfl⟩
  have hfU : Us fx := by rw [hfx]; exact few_us hU
  have hfl : fx.length ≤ 1000 := by rw [hfx]; simp; omega
  have hf9 : fx.length ≤ 20 := by rw [hfx]; simp; omega
  obtain ⟨fy, hfy⟩ : ∃ l, l = ys.take 20 := ⟨_, rfl⟩
  obtain ⟨fz, hfz⟩ : ∃ l, l = zs.take 20 := ⟨_, rfl⟩
  have hrU : Us fx.reverse := fun y hy => hfU y (by simpa using hy)
  refine T.seq ?_
  refine T.region ?_
  refine R.asE rfl (by conv => lhs; whnf) ?_
  refine TL.nil (Post.thnN ?_)
  refine T.seq ?_
  refine T.seq ?_
  refine T.region ?_
  refine R.callv rfl rfl rfl (wakes_c _) ?_
  refine R.not rfl rfl ?_
  refine TL.nil (Post.thnN ?_)
  refine T.condN rfl ?_
  refine T.skip (Post.thnN ?_)
  refine T.seq ?_
  refine T.region ?_
  refine R.mvE rfl (by conv => lhs; whnf) ?_
  refine TL.call [] rfl rfl rfl (few_c _ _ _ hr) ?_
  intro v20 H20 L20 s20 q20
  obtain ⟨c20, rfl, w20⟩ := q20
  rw [← hfx] at w20
  obtain ⟨A20, p20, rfl, m20, n20⟩ := w20.shape
  refine R.mvE rfl (by conv => lhs; whnf) ?_
  refine TL.call [] rfl rfl rfl (few_c _ _ _ (hr2.mono s20)) ?_
  intro v22 H22 L22 s22 q22
  obtain ⟨c22, rfl, w22⟩ := q22
  refine TL.shut .hd ?_
  intro HF22 sF22 qF22
  rw [← hfy] at w22
  have f22 := w22.read sF22 qF22
  obtain ⟨AF22, pF22, rfl, mF22, nF22, f22⟩ := f22.shape
  refine R.mvE rfl (by conv => lhs; whnf) ?_
  refine TL.call [] rfl rfl rfl (few_c _ _ _ (hr3.mono (s20.trans (s22.trans sF22)))) ?_
  intro v24 H24 L24 s24 q24
  obtain ⟨c24, rfl, w24⟩ := q24
  refine TL.shut .hd ?_
  intro HF24 sF24 qF24
  rw [← hfz] at w24
  have f24 := w24.read sF24 qF24
  obtain ⟨AF24, pF24, rfl, mF24, nF24, f24⟩ := f24.shape
  refine R.asE rfl (by conv => lhs; whnf) ?_
  refine R.asE rfl (by conv => lhs; whnf) ?_
  refine R.asE rfl (by conv => lhs; whnf) ?_
  refine TL.nil (Post.thnN ?_)
  refine T.seq ?_
  refine T.region ?_
  refine R.mvE rfl (by conv => lhs; whnf) ?_
  refine TL.call [true] rfl rfl rfl (OfO_c _ _ fx c20 (w20.mono ((s22.trans sF22).trans (s24.trans sF24))) hfU (by omega)) ?_
  intro v27 H27 L27 s27 q27
  obtain ⟨rfl, r27, rfl, h27⟩ := q27
  obtain ⟨A27, p27, rfl, m27, n27, h27⟩ := h27.shape
  refine R.mvE rfl (by conv => lhs; whnf) ?_
  refine R.ext rfl rfl rfl ?_
  refine R.ext rfl rfl rfl ?_
  refine R.asE rfl (by conv => lhs; whnf) ?_
  refine R.asE rfl (by conv => lhs; whnf) ?_
  refine TL.nil (Post.thnN ?_)
  refine T.seq ?_
  refine T.region ?_
  refine R.mvE rfl (by conv => lhs; whnf) ?_
  refine TL.call [true] rfl rfl rfl (reverseU22_c _ _ fx c20 (w20.mono (((s22.trans sF22).trans (s24.trans sF24)).trans s27)) (by omega)) ?_
  intro v31 H31 L31 s31 q31
  obtain ⟨c31, rfl, w31⟩ := q31
  refine TL.shut .hd ?_
  intro HF31 sF31 qF31
  have f31 := w31.read sF31 qF31
  refine TL.nil (Post.thnN ?_)
  refine T.seq ?_
  refine T.region ?_
  refine R.mvE rfl (by conv => lhs; whnf) ?_
  refine R.callp rfl rfl rfl (Of_c _ _ fx.reverse f31 hrU (by simp; omega)) ?_
  intro v34 H34 s34 q34
  obtain ⟨r34, hv34, h34⟩ := q34
  rw [ofR_reverse] at hv34 h34
  subst hv34
  obtain ⟨A34, p34, rfl, m34, n34, h34⟩ := h34.shape
  refine R.mvE rfl (by conv => lhs; whnf) ?_
  refine R.ext rfl rfl rfl ?_
  refine R.ext rfl rfl rfl ?_
  refine R.asE rfl (by conv => lhs; whnf) ?_
  refine R.asE rfl (by conv => lhs; whnf) ?_
  refine TL.nil (Post.thnN ?_)
  refine T.seq ?_
  refine T.seq ?_
  refine T.region ?_
  refine R.mvE rfl (by conv => lhs; whnf) ?_
  refine R.mvE rfl (by conv => lhs; whnf) ?_
  refine R.neq rfl rfl rfl ?_
  refine R.mvE rfl (by conv => lhs; whnf) ?_
  refine TL.set 40 (.bool false) (congrArg Value.bool (by simp)) ?_
  refine R.mvE rfl (by conv => lhs; whnf) ?_
  refine R.mvE rfl (by conv => lhs; whnf) ?_
  refine R.callv rfl rfl rfl (equalU22_c _ _ _ _ _ (h27.mono ((s31.trans sF31).trans s34)) h34) ?_
  refine R.not rfl rfl ?_
  refine R.pkFE rfl rfl (by conv => lhs; whnf) ?_
  refine R.mvE rfl (by conv => lhs; whnf) ?_
  refine TL.set 46 (.bool false) (congrArg Value.bool (by simp)) ?_
  refine R.mvE rfl (by conv => lhs; whnf) ?_
  refine R.eql rfl rfl rfl ?_
  refine R.mvE rfl (by conv => lhs; whnf) ?_
  refine TL.gsplitD 49 rfl (fun g49 => ?_) (fun g49 => ?_)
  · refine R.mvE rfl (by conv => lhs; whnf) ?_
    refine R.callv rfl rfl rfl (check_c _ _ _ (h27.mono ((s31.trans sF31).trans s34)) (us_ofR hfU)) ?_
    refine R.neq rfl rfl rfl ?_
    refine R.pkTE rfl rfl (by conv => lhs; whnf) ?_
    refine R.pkFE rfl rfl (by conv => lhs; whnf) ?_
    refine TL.nil (Post.thnN ?_)
    refine T.set 54 (.bool false) (congrArg Value.bool (by simp [ofR_type g49])) ?_
    refine T.condN rfl ?_
    refine T.skip (Post.thnN ?_)
    refine T.seq ?_
    refine T.region ?_
    refine R.mvE rfl (by conv => lhs; whnf) ?_
    refine R.mvE rfl (by conv => lhs; whnf) ?_
    refine R.callv rfl rfl rfl (Compare_c _ _ _ _ _ (f31.mono s34) (f22.mono ((s24.trans sF24).trans ((s27.trans (s31.trans sF31)).trans s34)))) ?_
    refine R.mvE rfl (by conv => lhs; whnf) ?_
    refine R.mvE rfl (by conv => lhs; whnf) ?_
    refine R.callv rfl rfl rfl (Compare_c _ _ _ _ _ (f22.mono ((s24.trans sF24).trans ((s27.trans (s31.trans sF31)).trans s34))) (f24.mono ((s27.trans (s31.trans sF31)).trans s34))) ?_
    refine R.mvE rfl (by conv => lhs; whnf) ?_
    refine R.mvE rfl (by conv => lhs; whnf) ?_
    refine R.callv rfl rfl rfl (Compare_c _ _ _ _ _ (f31.mono s34) (f24.mono ((s27.trans (s31.trans sF31)).trans s34))) ?_
    refine R.asE rfl (by conv => lhs; whnf) ?_
    refine R.asE rfl (by conv => lhs; whnf) ?_
    refine R.asE rfl (by conv => lhs; whnf) ?_
    refine TL.nil (Post.thnN ?_)
    refine T.seq ?_
    refine T.region ?_
    refine R.mvE rfl (by conv => lhs; whnf) ?_
    refine R.mvE rfl (by conv => lhs; whnf) ?_
    refine R.callv rfl rfl rfl (Compare_c _ _ _ _ _ (f22.mono ((s24.trans sF24).trans ((s27.trans (s31.trans sF31)).trans s34))) (f31.mono s34)) ?_
    refine R.mvE rfl (by conv => lhs; whnf) ?_
    refine R.neg rfl rfl ?_
    refine TL.set 68 (.int .i64 (- cmpL fx.reverse fy)) (congrArg (Value.int .i64) (neg_cmp _ _)) ?_
    refine R.eql rfl rfl rfl ?_
    refine R.mvE rfl (by conv => lhs; whnf) ?_
    refine TL.set 70 (.bool true) (congrArg Value.bool (decide_eq_true (cmpL_anti _ _))) ?_
    refine R.mvE rfl (by conv => lhs; whnf) ?_
    refine R.eql rfl rfl rfl ?_
    refine R.mvE rfl (by conv => lhs; whnf) ?_
    refine R.mvE rfl (by conv => lhs; whnf) ?_
    refine R.callv rfl rfl rfl (equalU22_c _ _ _ _ _ (f31.mono s34) (f22.mono ((s24.trans sF24).trans ((s27.trans (s31.trans sF31)).trans s34)))) ?_
    refine R.eqlB Try.underlying4 rfl rfl rfl ?_
    refine R.pkTE rfl rfl (by conv => lhs; whnf) ?_
    refine R.mvE rfl (by conv => lhs; whnf) ?_
    refine TL.set 78 (.bool true) (congrArg Value.bool (beq_dec (cmpL_zero fx.reverse fy))) ?_
    refine R.mvE rfl (by conv => lhs; whnf) ?_
    refine R.leq rfl rfl rfl ?_
    refine R.mvE rfl (by conv => lhs; whnf) ?_
    refine TL.gsplitD 81 rfl (fun g81 => ?_) (fun g81 => ?_)
    · refine R.mvE rfl (by conv => lhs; whnf) ?_
      refine R.leq rfl rfl rfl ?_
      refine R.pkTE rfl rfl (by conv => lhs; whnf) ?_
      refine R.notD rfl rfl ?_
      refine R.mvE rfl (by conv => lhs; whnf) ?_
      refine TL.gsplitD 86 rfl (fun g86 => ?_) (fun g86 => ?_)
      · refine TL.off rfl rfl rfl ?_
        refine TL.off rfl rfl rfl ?_
        refine TL.off rfl rfl rfl ?_
        refine TL.offU rfl rfl ?_
        refine TL.offU rfl rfl ?_
        refine TL.offU rfl rfl ?_
        refine TL.offU rfl rfl ?_
        refine TL.offU rfl rfl ?_
        refine TL.offU rfl rfl ?_
        refine TL.offU rfl rfl ?_
        refine TL.offU rfl rfl ?_
        refine TL.offU rfl rfl ?_
        refine TL.off rfl rfl rfl ?_
        refine R.pkTE rfl rfl (by conv => lhs; whnf) ?_
        refine R.pkTE rfl rfl (by conv => lhs; whnf) ?_
        refine R.asE rfl (by conv => lhs; whnf) ?_
        refine TL.nil (Post.thnN ?_)
        refine T.ret ?_
        -- way yyy
        exact fin1 rfl rfl ⟨rfl, rfl⟩
      · refine R.mvE rfl (by conv => lhs; whnf) ?_
        refine R.leq rfl rfl rfl ?_
        refine R.mvE rfl (by conv => lhs; whnf) ?_
        refine TL.set 89 (.bool true) (congrArg Value.bool (decide_eq_true (cmpL_trans fx.reverse fy fz g81 (Decidable.of_not_not g86)).1)) ?_
        refine R.mvE rfl (by conv => lhs; whnf) ?_
        refine R.eql rfl rfl rfl ?_
        refine R.mvE rfl (by conv => lhs; whnf) ?_
        refine R.eql rfl rfl rfl ?_
        refine R.mvE rfl (by conv => lhs; whnf) ?_
        refine TL.gsplitD 94 rfl (fun g94 => ?_) (fun g94 => ?_)
        · refine R.mvE rfl (by conv => lhs; whnf) ?_
          refine R.eql rfl rfl rfl ?_
          refine R.pkTE rfl rfl (by conv => lhs; whnf) ?_
          refine R.eqlB Try.underlying4 rfl rfl rfl ?_
          refine R.pkTE rfl rfl (by conv => lhs; whnf) ?_
          refine R.pkFE rfl rfl (by conv => lhs; whnf) ?_
          refine R.pkTE rfl rfl (by conv => lhs; whnf) ?_
          refine R.asE rfl (by conv => lhs; whnf) ?_
          refine TL.nil (Post.thnN ?_)
          refine T.ret ?_
          -- way yyny
          have htr := cmpL_trans fx.reverse fy fz g81 (Decidable.of_not_not g86)
          exact fin1 rfl rfl ⟨rfl, congrArg Value.bool (beq_dec (htr.2.trans ⟨fun h => h.2, fun h => ⟨g94, h⟩⟩))⟩
        · refine TL.off rfl rfl rfl ?_
          refine TL.off rfl rfl rfl ?_
          refine R.pkFE rfl rfl (by conv => lhs; whnf) ?_
          refine R.eqlB Try.underlying4 rfl rfl rfl ?_
          refine R.pkTE rfl rfl (by conv => lhs; whnf) ?_
          refine R.pkFE rfl rfl (by conv => lhs; whnf) ?_
          refine R.pkTE rfl rfl (by conv => lhs; whnf) ?_
          refine R.asE rfl (by conv => lhs; whnf) ?_
          refine TL.nil (Post.thnN ?_)
          refine T.ret ?_
          -- way yynn
          have htr := cmpL_trans fx.reverse fy fz g81 (Decidable.of_not_not g86)
          exact fin1 rfl rfl ⟨rfl, congrArg Value.bool (by rw [decide_eq_false (fun h => g94 (htr.2.1 h).1)]; rfl)⟩
    · refine TL.off rfl rfl rfl ?_
      refine TL.off rfl rfl rfl ?_
      refine R.pkFE rfl rfl (by conv => lhs; whnf) ?_
      refine R.not rfl rfl ?_
      refine R.mvE rfl (by conv => lhs; whnf) ?_
      refine TL.off rfl rfl rfl ?_
      refine TL.off rfl rfl rfl ?_
      refine TL.off rfl rfl rfl ?_
      refine TL.offU rfl rfl ?_
      refine TL.offU rfl rfl ?_
      refine TL.offU rfl rfl ?_
      refine TL.offU rfl rfl ?_
      refine TL.offU rfl rfl ?_
      refine TL.offU rfl rfl ?_
      refine TL.offU rfl rfl ?_
      refine TL.offU rfl rfl ?_
      refine TL.offU rfl rfl ?_
      refine TL.off rfl rfl rfl ?_
      refine R.pkTE rfl rfl (by conv => lhs; whnf) ?_
      refine R.pkTE rfl rfl (by conv => lhs; whnf) ?_
      refine R.asE rfl (by conv => lhs; whnf) ?_
      refine TL.nil (Post.thnN ?_)
      refine T.ret ?_
      -- way yn
      exact fin1 rfl rfl ⟨rfl, rfl⟩
  · refine TL.off rfl rfl rfl ?_
    refine TL.off rfl rfl rfl ?_
    refine TL.off rfl rfl rfl ?_
    refine R.pkFE rfl rfl (by conv => lhs; whnf) ?_
    refine R.pkFE rfl rfl (by conv => lhs; whnf) ?_
    refine TL.nil (Post.thnN ?_)
    refine T.condN rfl ?_
    refine T.skip (Post.thnN ?_)
    refine T.seq ?_
    refine T.region ?_
    refine R.mvE rfl (by conv => lhs; whnf) ?_
    refine R.mvE rfl (by conv => lhs; whnf) ?_
    refine R.callv rfl rfl rfl (Compare_c _ _ _ _ _ (f31.mono s34) (f22.mono ((s24.trans sF24).trans ((s27.trans (s31.trans sF31)).trans s34)))) ?_
    refine R.mvE rfl (by conv => lhs; whnf) ?_
    refine R.mvE rfl (by conv => lhs; whnf) ?_
    refine R.callv rfl rfl rfl (Compare_c _ _ _ _ _ (f22.mono ((s24.trans sF24).trans ((s27.trans (s31.trans sF31)).trans s34))) (f24.mono ((s27.trans (s31.trans sF31)).trans s34))) ?_
    refine R.mvE rfl (by conv => lhs; whnf) ?_
    refine R.mvE rfl (by conv => lhs; whnf) ?_
    refine R.callv rfl rfl rfl (Compare_c _ _ _ _ _ (f31.mono s34) (f24.mono ((s27.trans (s31.trans sF31)).trans s34))) ?_
    refine R.asE rfl (by conv => lhs; whnf) ?_
    refine R.asE rfl (by conv => lhs; whnf) ?_
    refine R.asE rfl (by conv => lhs; whnf) ?_
    refine TL.nil (Post.thnN ?_)
    refine T.seq ?_
    refine T.region ?_
    refine R.mvE rfl (by conv => lhs; whnf) ?_
    refine R.mvE rfl (by conv => lhs; whnf) ?_
    refine R.callv rfl rfl rfl (Compare_c _ _ _ _ _ (f22.mono ((s24.trans sF24).trans ((s27.trans (s31.trans sF31)).trans s34))) (f31.mono s34)) ?_
    refine R.mvE rfl (by conv => lhs; whnf) ?_
    refine R.neg rfl rfl ?_
    refine TL.set 68 (.int .i64 (- cmpL fx.reverse fy)) (congrArg (Value.int .i64) (neg_cmp _ _)) ?_
    refine R.eql rfl rfl rfl ?_
    refine R.mvE rfl (by conv => lhs; whnf) ?_
    refine TL.set 70 (.bool true) (congrArg Value.bool (decide_eq_true (cmpL_anti _ _))) ?_
    refine R.mvE rfl (by conv => lhs; whnf) ?_
    refine R.eql rfl rfl rfl ?_
    refine R.mvE rfl (by conv => lhs; whnf) ?_
    refine R.mvE rfl (by conv => lhs; whnf) ?_
    refine R.callv rfl rfl rfl (equalU22_c _ _ _ _ _ (f31.mono s34) (f22.mono ((s24.trans sF24).trans ((s27.trans (s31.trans sF31)).trans s34)))) ?_
    refine R.eqlB Try.underlying4 rfl rfl rfl ?_
    refine R.pkTE rfl rfl (by conv => lhs; whnf) ?_
    refine R.mvE rfl (by conv => lhs; whnf) ?_
    refine TL.set 78 (.bool true) (congrArg Value.bool (beq_dec (cmpL_zero fx.reverse fy))) ?_
    refine R.mvE rfl (by conv => lhs; whnf) ?_
    refine R.leq rfl rfl rfl ?_
    refine R.mvE rfl (by conv => lhs; whnf) ?_
    refine TL.gsplitD 81 rfl (fun g81 => ?_) (fun g81 => ?_)
    · refine R.mvE rfl (by conv => lhs; whnf) ?_
      refine R.leq rfl rfl rfl ?_
      refine R.pkTE rfl rfl (by conv => lhs; whnf) ?_
      refine R.notD rfl rfl ?_
      refine R.mvE rfl (by conv => lhs; whnf) ?_
      refine TL.gsplitD 86 rfl (fun g86 => ?_) (fun g86 => ?_)
      · refine TL.off rfl rfl rfl ?_
        refine TL.off rfl rfl rfl ?_
        refine TL.off rfl rfl rfl ?_
        refine TL.offU rfl rfl ?_
        refine TL.offU rfl rfl ?_
        refine TL.offU rfl rfl ?_
        refine TL.offU rfl rfl ?_
        refine TL.offU rfl rfl ?_
        refine TL.offU rfl rfl ?_
        refine TL.offU rfl rfl ?_
        refine TL.offU rfl rfl ?_
        refine TL.offU rfl rfl ?_
        refine TL.off rfl rfl rfl ?_
        refine R.pkTE rfl rfl (by conv => lhs; whnf) ?_
        refine R.pkTE rfl rfl (by conv => lhs; whnf) ?_
        refine R.asE rfl (by conv => lhs; whnf) ?_
        refine TL.nil (Post.thnN ?_)
        refine T.ret ?_
        -- way nyy
        exact fin1 rfl rfl ⟨rfl, rfl⟩
      · refine R.mvE rfl (by conv => lhs; whnf) ?_
        refine R.leq rfl rfl rfl ?_
        refine R.mvE rfl (by conv => lhs; whnf) ?_
        refine TL.set 89 (.bool true) (congrArg Value.bool (decide_eq_true (cmpL_trans fx.reverse fy fz g81 (Decidable.of_not_not g86)).1)) ?_
        refine R.mvE rfl (by conv => lhs; whnf) ?_
        refine R.eql rfl rfl rfl ?_
        refine R.mvE rfl (by conv => lhs; whnf) ?_
        refine R.eql rfl rfl rfl ?_
        refine R.mvE rfl (by conv => lhs; whnf) ?_
        refine TL.gsplitD 94 rfl (fun g94 => ?_) (fun g94 => ?_)
        · refine R.mvE rfl (by conv => lhs; whnf) ?_
          refine R.eql rfl rfl rfl ?_
          refine R.pkTE rfl rfl (by conv => lhs; whnf) ?_
          refine R.eqlB Try.underlying4 rfl rfl rfl ?_
          refine R.pkTE rfl rfl (by conv => lhs; whnf) ?_
          refine R.pkFE rfl rfl (by conv => lhs; whnf) ?_
          refine R.pkTE rfl rfl (by conv => lhs; whnf) ?_
          refine R.asE rfl (by conv => lhs; whnf) ?_
          refine TL.nil (Post.thnN ?_)
          refine T.ret ?_
          -- way nyny
          have htr := cmpL_trans fx.reverse fy fz g81 (Decidable.of_not_not g86)
          exact fin1 rfl rfl ⟨rfl, congrArg Value.bool (beq_dec (htr.2.trans ⟨fun h => h.2, fun h => ⟨g94, h⟩⟩))⟩
        · refine TL.off rfl rfl rfl ?_
          refine TL.off rfl rfl rfl ?_
          refine R.pkFE rfl rfl (by conv => lhs; whnf) ?_
          refine R.eqlB Try.underlying4 rfl rfl rfl ?_
          refine R.pkTE rfl rfl (by conv => lhs; whnf) ?_
          refine R.pkFE rfl rfl (by conv => lhs; whnf) ?_
          refine R.pkTE rfl rfl (by conv => lhs; whnf) ?_
          refine R.asE rfl (by conv => lhs; whnf) ?_
          refine TL.nil (Post.thnN ?_)
          refine T.ret ?_
          -- way nynn
          have htr := cmpL_trans fx.reverse fy fz g81 (Decidable.of_not_not g86)
          exact fin1 rfl rfl ⟨rfl, congrArg Value.bool (by rw [decide_eq_false (fun h => g94 (htr.2.1 h).1)]; rfl)⟩
    · refine TL.off rfl rfl rfl ?_
      refine TL.off rfl rfl rfl ?_
      refine R.pkFE rfl rfl (by conv => lhs; whnf) ?_
      refine R.not rfl rfl ?_
      refine R.mvE rfl (by conv => lhs; whnf) ?_
      refine TL.off rfl rfl rfl ?_
      refine TL.off rfl rfl rfl ?_
      refine TL.off rfl rfl rfl ?_
      refine TL.offU rfl rfl ?_
      refine TL.offU rfl rfl ?_
      refine TL.offU rfl rfl ?_
      refine TL.offU rfl rfl ?_
      refine TL.offU rfl rfl ?_
      refine TL.offU rfl rfl ?_
      refine TL.offU rfl rfl ?_
      refine TL.offU rfl rfl ?_
      refine TL.offU rfl rfl ?_
      refine TL.off rfl rfl rfl ?_
      refine R.pkTE rfl rfl (by conv => lhs; whnf) ?_
      refine R.pkTE rfl rfl (by conv => lhs; whnf) ?_
      refine R.asE rfl (by conv => lhs; whnf) ?_
      refine TL.nil (Post.thnN ?_)
      refine T.ret ?_
      -- way nn
      exact fin1 rfl rfl ⟨rfl, rfl⟩

end Go.SX
