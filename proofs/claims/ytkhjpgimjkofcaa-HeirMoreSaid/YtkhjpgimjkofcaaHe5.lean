/- the law of chapter 18: its small functions. -/
import Derived.Test.YtkhjpgimjkofcaaHe3
import Derived.Test.YtkhjpgimjkofcaaHe4
import Derived.Test.YtkhjpgimjkofcaaWl
import Derived.Test.YtkhjpgimjkofcaaSxD
set_option linter.unusedVariables false
set_option linter.unusedSimpArgs false
namespace Go.SX
open Go Go.Proofs

theorem Try_eqP (a b : Int × Int) (w : World) : (Op.equalIn 10000 37 (.agg #[.int .i64 a.1, .int .i64 a.2]) (.agg #[.int .i64 b.1, .int .i64 b.2])).run Try.prog w = .ok (decide (a = b)) w :=
  run_eq_pair Try.underlying37 (by kernel_rfl) (by decide) (by decide) rfl rfl rfl rfl Try.underlying3 Try.isAgg3 a b w

theorem Try_eqG : Try.prog.eqGuardType Try.prog.depth 37 = false := by kernel_rfl

set_option maxHeartbeats 1600000 in
theorem equalP_c (H : Heap) (v u : Value) (xs ys : List Lk) (hr : RdS pairE H v xs) (hr2 : RdS pairE H u ys) : Fv Try.prog (fnv 23) [v, u] H (.bool (decide (xs = ys))) := by
  refine Fc.of_body (N := 26) Try.func23 rfl (by kernel_rfl) rfl rfl ?_
  intro w0
  obtain ⟨A, c, rfl, hc1, hc2, hr⟩ := hr.shape
  obtain ⟨A2, c2, rfl, hc3, hc4, hr2⟩ := hr2.shape
  refine T.seq ?_
  refine T.region ?_
  refine R.asE rfl (by conv => lhs; whnf) ?_
  refine TL.nil (Post.thnN ?_)
  refine T.seq ?_
  refine T.seq ?_
  refine T.region ?_
  refine R.mvE rfl (by conv => lhs; whnf) ?_
  refine R.len Try.underlying22 rfl rfl ?_
  refine R.mvE rfl (by conv => lhs; whnf) ?_
  refine R.len Try.underlying22 rfl rfl ?_
  refine R.neq rfl rfl rfl ?_
  refine TL.nil (Post.thnN ?_)
  refine T.condD rfl (fun c10 => ?_) (fun c10 => ?_)
  · refine T.seq ?_
    refine T.region ?_
    refine R.asE rfl (by conv => lhs; whnf) ?_
    refine TL.nil (Post.thnN ?_)
    refine T.ret (Post.thnR ?_)
    -- way y
    exact fin1 rfl rfl ⟨rfl, congrArg Value.bool (decide_eq_false (fun e => c10 (by rw [e]))).symm⟩
  · refine T.skip (Post.thnN ?_)
    refine T.seq ?_
    refine T.seq ?_
    refine T.region ?_
    refine R.mvE rfl (by conv => lhs; whnf) ?_
    refine R.len Try.underlying22 rfl rfl ?_
    refine R.mvE rfl (by conv => lhs; whnf) ?_
    refine TL.nil (Post.thnN ?_)
    refine T.block ?_
    refine T.loop (ι := Nat) (fun k H' L' ds' => k ≤ xs.length ∧ xs.take k = ys.take k) (fun k => [(0, .slice A xs.length c), (1, .slice A2 ys.length c2), (12, .int .i64 xs.length), (13, .int .i64 k)]) (fun k => xs.length - k) (0) ?_ ?_ ?_
    · exact ⟨Nat.zero_le _, rfl⟩
    · exact ⟨rfl, rfl, rfl, rfl, trivial⟩
    · intro k σ0 H_0 L_0 ds_0 s_0 hI_0
      obtain ⟨hk, hw⟩ := hI_0
      refine T.seq ?_
      refine T.region ?_
      refine R.lss rfl rfl rfl ?_
      refine TL.nil (Post.thnN ?_)
      refine T.seq ?_
      refine T.condD rfl (fun c14 => ?_) (fun c14 => ?_)
      · have hlt : k < xs.length := by omega
        obtain ⟨a, hx⟩ := getk hlt
        obtain ⟨b, hy⟩ := getk (xs := ys) (k := k) (by omega)
        refine T.skip (Post.thnN ?_)
        refine T.seq ?_
        refine T.block ?_
        refine T.seq ?_
        refine T.region ?_
        refine R.mvE rfl (by conv => lhs; whnf) ?_
        refine R.asE rfl (by conv => lhs; whnf) ?_
        refine TL.nil (Post.thnN ?_)
        refine T.seq ?_
        refine T.draw Try_mixed (by kernel_rfl) ?_
        refine Plan.v 0 [1, 2, 3, 4, 5, 6, 7, 8] (by kernel_rfl) (by kernel_rfl) (by kernel_rfl) (by kernel_rfl) rfl (fun _ _ h_ => R.mvE rfl (by conv => lhs; whnf) (TL.nil h_)) ?_
        refine Plan.v 1 [2, 3, 4, 5, 6, 7, 8] (by kernel_rfl) (by kernel_rfl) (by kernel_rfl) (by kernel_rfl) rfl (fun _ _ h_ => R.mvE rfl (by conv => lhs; whnf) (TL.nil h_)) ?_
        obtain ⟨b18, o18, i18, e18⟩ := (hr.mono s_0).elem (hx)
        refine Plan.v 2 [3, 4, 5, 6, 7, 8] (by kernel_rfl) (by kernel_rfl) (by kernel_rfl) (by kernel_rfl) rfl (fun _ _ h_ => R.ixp Try.underlying22 Try.sizeOf37 rfl rfl rfl (by omega) i18 (TL.nil h_)) ?_
        refine Plan.v 3 [4, 5, 6, 7, 8] (by kernel_rfl) (by kernel_rfl) (by kernel_rfl) (by kernel_rfl) rfl (fun _ _ h_ => R.ldP Try.isAgg37 Try.sizeOf37 rfl rfl (e18) (TL.nil h_)) ?_
        refine Plan.v 4 [5, 6, 7, 8] (by kernel_rfl) (by kernel_rfl) (by kernel_rfl) (by kernel_rfl) rfl (fun _ _ h_ => R.mvE rfl (by conv => lhs; whnf) (TL.nil h_)) ?_
        refine Plan.v 5 [6, 7, 8] (by kernel_rfl) (by kernel_rfl) (by kernel_rfl) (by kernel_rfl) rfl (fun _ _ h_ => R.mvE rfl (by conv => lhs; whnf) (TL.nil h_)) ?_
        obtain ⟨b22, o22, i22, e22⟩ := (hr2.mono s_0).elem (hy)
        refine Plan.v 6 [7, 8] (by kernel_rfl) (by kernel_rfl) (by kernel_rfl) (by kernel_rfl) rfl (fun _ _ h_ => R.ixp Try.underlying22 Try.sizeOf37 rfl rfl rfl (by omega) i22 (TL.nil h_)) ?_
        refine Plan.v 7 [8] (by kernel_rfl) (by kernel_rfl) (by kernel_rfl) (by kernel_rfl) rfl (fun _ _ h_ => R.ldP Try.isAgg37 Try.sizeOf37 rfl rfl (e22) (TL.nil h_)) ?_
        refine Plan.v 8 [] (by kernel_rfl) (by kernel_rfl) (by kernel_rfl) (by kernel_rfl) rfl (fun _ _ h_ => R.neP (a := a) (b := b) Try_eqP Try_eqG rfl rfl rfl (TL.nil h_)) ?_
        refine Plan.done (Post.thnN ?_)
        refine T.condD rfl (fun c24 => ?_) (fun c24 => ?_)
        · refine T.seq ?_
          refine T.region ?_
          refine R.asE rfl (by conv => lhs; whnf) ?_
          refine TL.nil (Post.thnN ?_)
          refine T.ret (Post.blkR (Post.thnR (Post.thnR (Post.blkR (Post.thnR ?_)))))
          -- way nyy
          exact fin1 rfl rfl ⟨rfl, congrArg Value.bool (decide_eq_false (ne_of_get hx hy c24)).symm⟩
        · refine T.skip (Post.blkN ?_)
          refine id (Post.thnN ?_)
          refine T.region ?_
          refine R.addI rfl rfl rfl (by omega) ?_
          refine R.mvE rfl (by conv => lhs; whnf) ?_
          refine TL.nil (Post.thnN ?_)
          -- round's end, way nyn
          exact ⟨k + 1, s_0, ⟨by omega, take_eq_of hw hx (by rw [hy]; exact congrArg some (Decidable.of_not_not c24).symm)⟩, by omega, ⟨rfl, rfl, rfl, rfl, trivial⟩⟩
      · refine T.exit (Post.thnE (Post.thnE (Post.blkX ?_)))
        refine id (Post.thnN ?_)
        refine T.seq ?_
        refine T.region ?_
        refine R.asE rfl (by conv => lhs; whnf) ?_
        refine TL.nil (Post.thnN ?_)
        refine T.ret ?_
        -- way nn
        obtain rfl : k = xs.length := by omega
        have e1 : xs = ys := by
          rw [List.take_length, show xs.length = ys.length by omega, List.take_length] at hw; exact hw
        exact fin1 rfl rfl ⟨rfl, congrArg Value.bool (decide_eq_true e1).symm⟩


set_option maxHeartbeats 1600000 in
theorem own18_c (H : Heap) (v : Value) (xs : List Lk) (hr : RdS pairE H v xs) : Fc Try.prog (fnv 15) [v] H [] (fun v' H' L' => ∃ c, L' = [c] ∧ OwnS pairE 37 H' v' (xs.take 24) c) := by
  refine Fc.of_body (N := 9) Try.func15 rfl (by kernel_rfl) rfl rfl ?_
  intro w0
  obtain ⟨A, c, rfl, hc1, hc2, hr⟩ := hr.shape
  have hm : min xs.length 24 ≤ xs.length := Nat.min_le_left _ _
  refine T.seq ?_
  refine T.region ?_
  refine R.asE rfl (by conv => lhs; whnf) ?_
  refine TL.nil (Post.thnN ?_)
  refine T.seq ?_
  refine T.region ?_
  refine R.mvE rfl (by conv => lhs; whnf) ?_
  refine R.mvE rfl (by conv => lhs; whnf) ?_
  refine R.len Try.underlying22 rfl rfl ?_
  refine R.min2 rfl rfl rfl ?_
  refine TL.set 6 (.int .i64 ((min xs.length 24 : Nat) : Int)) (congrArg _ (minN _ 24)) ?_
  refine R.sH Try.underlying22 Try.sizeOf37 rfl rfl rfl  (by omega) (by omega)  ?_
  refine TL.call [] rfl rfl rfl (cloneP22_c _ _ _ (hr.takeC hm hc1) (by simp; omega)) ?_
  intro v8 H8 L8 s8 q8
  obtain ⟨c8, rfl, w8⟩ := q8
  rw [Int.toNat_natCast, takeMin] at w8
  refine R.asE rfl (by conv => lhs; whnf) ?_
  refine TL.nil (Post.thnN ?_)
  refine T.ret ?_
  exact fin1L [c8] rfl rfl (List.Sublist.refl _) ⟨_, rfl, w8⟩


set_option maxHeartbeats 1600000 in
theorem few18_c (H : Heap) (v : Value) (xs : List Int) (hr : RdS (intE .i64) H v xs) : Fc Try.prog (fnv 16) [v] H [] (fun v' H' L' => ∃ c, L' = [c] ∧ OwnS (intE .i64) 3 H' v' (xs.take 8) c) := by
  refine Fc.of_body (N := 9) Try.func16 rfl (by kernel_rfl) rfl rfl ?_
  intro w0
  obtain ⟨A, c, rfl, hc1, hc2, hr⟩ := hr.shape
  have hm : min xs.length 8 ≤ xs.length := Nat.min_le_left _ _
  refine T.seq ?_
  refine T.region ?_
  refine R.asE rfl (by conv => lhs; whnf) ?_
  refine TL.nil (Post.thnN ?_)
  refine T.seq ?_
  refine T.region ?_
  refine R.mvE rfl (by conv => lhs; whnf) ?_
  refine R.mvE rfl (by conv => lhs; whnf) ?_
  refine R.len Try.underlying23 rfl rfl ?_
  refine R.min2 rfl rfl rfl ?_
  refine TL.set 6 (.int .i64 ((min xs.length 8 : Nat) : Int)) (congrArg _ (minN _ 8)) ?_
  refine R.sH Try.underlying23 Try.sizeOf3 rfl rfl rfl  (by omega) (by omega)  ?_
  refine TL.call [] rfl rfl rfl (cloneI23_c _ _ _ (hr.takeC hm hc1) (by simp; omega)) ?_
  intro v8 H8 L8 s8 q8
  obtain ⟨c8, rfl, w8⟩ := q8
  rw [Int.toNat_natCast, takeMin] at w8
  refine R.asE rfl (by conv => lhs; whnf) ?_
  refine TL.nil (Post.thnN ?_)
  refine T.ret ?_
  exact fin1L [c8] rfl rfl (List.Sublist.refl _) ⟨_, rfl, w8⟩


set_option maxHeartbeats 1600000 in
theorem small18_c (H : Heap) : Fp Try.prog (fnv 59) [] H (fun v' H' => RdS pairE H' v' smallK) := by
  refine Fc.of_body (N := 7) Try.func59 rfl (by kernel_rfl) rfl rfl ?_
  intro w0
  refine T.seq ?_
  refine T.region ?_
  refine R.asE rfl (by conv => lhs; whnf) ?_
  refine TL.nil (Post.thnN ?_)
  refine T.seq ?_
  refine T.region ?_
  refine R.bld (cs := [.int .i64 3, .int .i64 2]) rfl (fun _ => by kernel_rfl) ?_
  refine R.bld (cs := [.int .i64 4, .int .i64 1]) rfl (fun _ => by kernel_rfl) ?_
  refine R.bld (cs := [.int .i64 5, .int .i64 3]) rfl (fun _ => by kernel_rfl) ?_
  refine R.bld (cs := [.int .i64 5, .int .i64 4]) rfl (fun _ => by kernel_rfl) ?_
  refine R.bld (cs := [.int .i64 6, .int .i64 5]) rfl (fun _ => by kernel_rfl) ?_
  refine R.bs (e := 37) (cs := [.int .i64 3, .int .i64 2, .int .i64 4, .int .i64 1, .int .i64 5, .int .i64 3, .int .i64 5, .int .i64 4, .int .i64 6, .int .i64 5]) rfl (fun _ => by kernel_rfl) ?_
  intro b6
  refine TL.shut .hd ?_
  intro H6 s6 q6
  have l6 : RdS pairE H6 _ smallK := RdS.litP smallK q6 rfl
  refine R.asE rfl (by conv => lhs; whnf) ?_
  refine TL.nil (Post.thnN ?_)
  refine T.ret ?_
  exact fin1 rfl rfl ⟨rfl, l6⟩


set_option maxHeartbeats 1600000 in
theorem wakes18_c (H : Heap) : Fv Try.prog (fnv 14) [] H (.bool true) := by
  refine Fc.of_body (N := 82) Try.func14 rfl (by kernel_rfl) rfl rfl ?_
  intro w0
  refine T.seq ?_
  refine T.region ?_
  refine R.asE rfl (by conv => lhs; whnf) ?_
  refine TL.nil (Post.thnN ?_)
  refine T.seq ?_
  refine T.region ?_
  refine R.callp rfl rfl rfl (small18_c _) ?_
  intro v13 H13 s13 q13
  refine R.callp rfl rfl rfl (way_c _ _ smallK 6 q13 (by decide) 2) ?_
  intro v14 H14 s14 q14
  obtain ⟨w14, rfl, g14⟩ := q14
  refine R.mvE rfl (by conv => lhs; whnf) ?_
  refine R.ext rfl rfl rfl ?_
  refine R.ext rfl rfl rfl ?_
  refine R.asE rfl (by conv => lhs; whnf) ?_
  refine R.asE rfl (by conv => lhs; whnf) ?_
  refine TL.nil (Post.thnN ?_)
  refine T.seq ?_
  refine T.region ?_
  refine R.callp rfl rfl rfl (small18_c _) ?_
  intro v18 H18 s18 q18
  refine R.callp rfl rfl rfl (order_c _ _ smallK 6 q18 (by decide)) ?_
  intro v19 H19 s19 q19
  obtain ⟨w19, rfl, g19⟩ := q19
  refine R.mvE rfl (by conv => lhs; whnf) ?_
  refine R.ext rfl rfl rfl ?_
  refine R.ext rfl rfl rfl ?_
  refine R.asE rfl (by conv => lhs; whnf) ?_
  refine R.asE rfl (by conv => lhs; whnf) ?_
  refine TL.nil (Post.thnN ?_)
  refine T.seq ?_
  refine T.region ?_
  refine R.callp rfl rfl rfl (small18_c _) ?_
  intro v23 H23 s23 q23
  refine R.bsN [_, _] rfl Try.underlying23 Try.sizeOf3 Try.zeroValue3 rfl rfl rfl rfl rfl rfl ?_
  intro b24
  refine TL.shut .hd ?_
  intro H24 s24 q24
  have l24 : RdS (intE .i64) H24 _ [1, 2] := RdS.litN [1, 2] q24 rfl
  refine R.callp rfl rfl rfl (owner_c _ _ smallK 5 (q23.mono s24) (by decide) _ [1, 2] l24) ?_
  intro v25 H25 s25 q25
  obtain ⟨w25, rfl, g25⟩ := q25
  refine R.mvE rfl (by conv => lhs; whnf) ?_
  refine R.ext rfl rfl rfl ?_
  refine R.ext rfl rfl rfl ?_
  refine R.ext rfl rfl rfl ?_
  refine R.asE rfl (by conv => lhs; whnf) ?_
  refine R.asE rfl (by conv => lhs; whnf) ?_
  refine R.asE rfl (by conv => lhs; whnf) ?_
  refine TL.nil (Post.thnN ?_)
  refine T.seq ?_
  refine T.region ?_
  refine R.callp rfl rfl rfl (small18_c _) ?_
  intro v30 H30 s30 q30
  refine R.bsN [_, _] rfl Try.underlying23 Try.sizeOf3 Try.zeroValue3 rfl rfl rfl rfl rfl rfl ?_
  intro b31
  refine TL.shut .hd ?_
  intro H31 s31 q31
  have l31 : RdS (intE .i64) H31 _ [1, 2] := RdS.litN [1, 2] q31 rfl
  refine R.callp rfl rfl rfl (heirs_c _ _ _ smallK 2 [1, 2] (q30.mono s31) (by decide) l31) ?_
  intro v32 H32 s32 q32
  obtain ⟨w32, rfl, g32⟩ := q32
  refine R.mvE rfl (by conv => lhs; whnf) ?_
  refine R.ext rfl rfl rfl ?_
  refine R.ext rfl rfl rfl ?_
  refine R.asE rfl (by conv => lhs; whnf) ?_
  refine R.asE rfl (by conv => lhs; whnf) ?_
  refine TL.nil (Post.thnN ?_)
  refine T.seq ?_
  refine T.region ?_
  refine R.callp rfl rfl rfl (small18_c _) ?_
  intro v36 H36 s36 q36
  refine R.callp rfl rfl rfl (way_c _ _ smallK 1 q36 (by decide) 5) ?_
  intro v37 H37 s37 q37
  obtain ⟨w37, rfl, g37⟩ := q37
  refine R.mvE rfl (by conv => lhs; whnf) ?_
  refine R.ext rfl rfl rfl ?_
  refine R.ext rfl rfl rfl ?_
  refine R.asE rfl (by conv => lhs; whnf) ?_
  refine R.asE rfl (by conv => lhs; whnf) ?_
  refine TL.nil (Post.thnN ?_)
  refine T.seq ?_
  refine T.region ?_
  refine R.mvE rfl (by conv => lhs; whnf) ?_
  refine R.eql rfl rfl rfl ?_
  refine R.mvE rfl (by conv => lhs; whnf) ?_
  refine TL.set 42 (.bool true) (by kernel_rfl) ?_
  refine R.mvE rfl (by conv => lhs; whnf) ?_
  refine R.eql rfl rfl rfl ?_
  refine R.pkTE rfl rfl (by conv => lhs; whnf) ?_
  refine R.mvE rfl (by conv => lhs; whnf) ?_
  refine TL.set 46 (.bool true) (by kernel_rfl) ?_
  refine R.mvE rfl (by conv => lhs; whnf) ?_
  refine R.eql rfl rfl rfl ?_
  refine R.pkTE rfl rfl (by conv => lhs; whnf) ?_
  refine R.mvE rfl (by conv => lhs; whnf) ?_
  refine TL.set 50 (.bool true) (by kernel_rfl) ?_
  refine R.mvE rfl (by conv => lhs; whnf) ?_
  refine R.eql rfl rfl rfl ?_
  refine R.pkTE rfl rfl (by conv => lhs; whnf) ?_
  refine R.mvE rfl (by conv => lhs; whnf) ?_
  refine TL.set 54 (.bool true) (by kernel_rfl) ?_
  refine R.mvE rfl (by conv => lhs; whnf) ?_
  refine R.eql rfl rfl rfl ?_
  refine R.pkTE rfl rfl (by conv => lhs; whnf) ?_
  refine R.mvE rfl (by conv => lhs; whnf) ?_
  refine TL.set 58 (.bool true) (by kernel_rfl) ?_
  refine R.mvE rfl (by conv => lhs; whnf) ?_
  refine R.eql rfl rfl rfl ?_
  refine R.pkTE rfl rfl (by conv => lhs; whnf) ?_
  refine R.mvE rfl (by conv => lhs; whnf) ?_
  refine TL.set 62 (.bool true) (by kernel_rfl) ?_
  refine R.mvE rfl (by conv => lhs; whnf) ?_
  refine R.bsN [_, _, _, _] rfl Try.underlying23 Try.sizeOf3 Try.zeroValue3 rfl rfl rfl rfl rfl rfl ?_
  intro b64
  refine TL.shut .hd ?_
  intro H64 s64 q64
  have l64 : RdS (intE .i64) H64 _ [6, 5, 3, 2] := RdS.litN [6, 5, 3, 2] q64 rfl
  refine R.callv rfl rfl rfl (equalI23_c _ _ _ _ [6, 5, 3, 2] (g14.mono (s18.trans (s19.trans (s23.trans (s24.trans (s25.trans (s30.trans (s31.trans (s32.trans (s36.trans (s37.trans s64))))))))))) l64) ?_
  refine R.pkTE rfl rfl (by conv => lhs; whnf) ?_
  refine R.mvE rfl (by conv => lhs; whnf) ?_
  refine TL.set 67 (.bool true) (by kernel_rfl) ?_
  refine R.mvE rfl (by conv => lhs; whnf) ?_
  refine R.bsN [_, _, _, _, _, _] rfl Try.underlying23 Try.sizeOf3 Try.zeroValue3 rfl rfl rfl rfl rfl rfl ?_
  intro b69
  refine TL.shut .hd ?_
  intro H69 s69 q69
  have l69 : RdS (intE .i64) H69 _ [6, 5, 3, 4, 2, 1] := RdS.litN [6, 5, 3, 4, 2, 1] q69 rfl
  refine R.callv rfl rfl rfl (equalI23_c _ _ _ _ [6, 5, 3, 4, 2, 1] (g19.mono (s23.trans (s24.trans (s25.trans (s30.trans (s31.trans (s32.trans (s36.trans (s37.trans (s64.trans s69)))))))))) l69) ?_
  refine R.pkTE rfl rfl (by conv => lhs; whnf) ?_
  refine R.mvE rfl (by conv => lhs; whnf) ?_
  refine TL.set 72 (.bool true) (by kernel_rfl) ?_
  refine R.mvE rfl (by conv => lhs; whnf) ?_
  refine R.bsN [_, _, _] rfl Try.underlying23 Try.sizeOf3 Try.zeroValue3 rfl rfl rfl rfl rfl rfl ?_
  intro b74
  refine TL.shut .hd ?_
  intro H74 s74 q74
  have l74 : RdS (intE .i64) H74 _ [5, 3, 2] := RdS.litN [5, 3, 2] q74 rfl
  refine R.callv rfl rfl rfl (equalI23_c _ _ _ _ [5, 3, 2] (g25.mono (s30.trans (s31.trans (s32.trans (s36.trans (s37.trans (s64.trans (s69.trans s74)))))))) l74) ?_
  refine R.pkTE rfl rfl (by conv => lhs; whnf) ?_
  refine R.mvE rfl (by conv => lhs; whnf) ?_
  refine TL.set 77 (.bool true) (by kernel_rfl) ?_
  refine R.mvE rfl (by conv => lhs; whnf) ?_
  refine R.bsN [_, _, _] rfl Try.underlying23 Try.sizeOf3 Try.zeroValue3 rfl rfl rfl rfl rfl rfl ?_
  intro b79
  refine TL.shut .hd ?_
  intro H79 s79 q79
  have l79 : RdS (intE .i64) H79 _ [3, 5, 6] := RdS.litN [3, 5, 6] q79 rfl
  refine R.callv rfl rfl rfl (equalI23_c _ _ _ _ [3, 5, 6] (g32.mono (s36.trans (s37.trans (s64.trans (s69.trans (s74.trans s79)))))) l79) ?_
  refine R.pkTE rfl rfl (by conv => lhs; whnf) ?_
  refine R.asE rfl (by conv => lhs; whnf) ?_
  refine TL.nil (Post.thnN ?_)
  refine T.ret ?_
  exact fin1 rfl rfl ⟨rfl, congrArg Value.bool (by kernel_rfl)⟩

end Go.SX
