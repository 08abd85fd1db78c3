/- The law's small functions: small, few, wakes. -/
import Derived.Test.YtmkmdfgfclckoaaTy3
import Derived.Test.YtmkmdfgfclckoaaR31
import Derived.Test.YtmkmdfgfclckoaaId3
set_option linter.unusedVariables false
set_option linter.unusedSimpArgs false
namespace Go.SX
open Go Go.Proofs

set_option maxHeartbeats 1600000 in
theorem small_c (H : Heap) : Fp Try.prog (fnv 44) [] H (fun v' H' => RdS (intE .u64) H' v' smallL) := by
  refine Fc.of_body (N := 5) Try.func44 rfl (by kernel_rfl) rfl rfl ?_
  intro w0
  refine T.seq ?_
  refine T.region ?_
  refine R.asE rfl (by conv => lhs; whnf) ?_
  refine TL.nil (Post.thnN ?_)
  refine T.seq ?_
  refine T.region ?_
  refine R.callv rfl rfl rfl (rmade_c _ _ _ _ (.inr (.inl rfl)) ⟨by omega, by omega⟩ ⟨by omega, by omega⟩) ?_
  refine R.callv rfl rfl rfl (rmade_c _ _ _ _ (.inr (.inr rfl)) ⟨by omega, by omega⟩ ⟨by omega, by omega⟩) ?_
  refine R.callv rfl rfl rfl (rmade_c _ _ _ _ (.inr (.inr rfl)) ⟨by omega, by omega⟩ ⟨by omega, by omega⟩) ?_
  refine R.bsN [_, _, _] rfl Try.underlying22 Try.sizeOf28 Try.zeroValue28 rfl rfl rfl rfl rfl rfl ?_
  intro b4
  refine TL.shut .hd ?_
  intro H4 s4 q4
  have l4 : RdS (intE .u64) H4 _ smallL := RdS.litI smallL q4 rfl
  refine R.asE rfl (by conv => lhs; whnf) ?_
  refine TL.nil (Post.thnN ?_)
  refine T.ret ?_
  exact fin1 rfl rfl ⟨rfl, l4⟩


set_option maxHeartbeats 1600000 in
theorem few_c (H : Heap) (v : Value) (xs : List Int) (hr : RdS (intE .u64) H v xs) : Fc Try.prog (fnv 10) [v] H [] (fun v' H' L' => ∃ c, L' = [c] ∧ OwnS (intE .u64) 28 H' v' (xs.take 20) c) := by
  refine Fc.of_body (N := 9) Try.func10 rfl (by kernel_rfl) rfl rfl ?_
  intro w0
  obtain ⟨A, c, rfl, hc1, hc2, hr⟩ := hr.shape
  have hm : min xs.length 20 ≤ xs.length := Nat.min_le_left _ _
  refine T.seq ?_
  refine T.region ?_
  refine R.asE rfl (by conv => lhs; whnf) ?_
  refine TL.nil (Post.thnN ?_)
  refine T.seq ?_
  refine T.region ?_
  refine R.mvE rfl (by conv => lhs; whnf) ?_
  refine R.mvE rfl (by conv => lhs; whnf) ?_
  refine R.len Try.underlying22 rfl rfl ?_
  refine R.min2 rfl rfl rfl ?_
  refine TL.set 6 (.int .i64 ((min xs.length 20 : Nat) : Int)) (congrArg _ (min20 _)) ?_
  refine R.sH Try.underlying22 Try.sizeOf28 rfl rfl rfl  (by omega) (by omega)  ?_
  refine TL.call [] rfl rfl rfl (cloneU22_c _ _ _ (hr.takeC hm hc1) (by simp; omega)) ?_
  intro v8 H8 L8 s8 q8
  obtain ⟨c8, rfl, w8⟩ := q8
  rw [Int.toNat_natCast, take_min] at w8
  refine R.asE rfl (by conv => lhs; whnf) ?_
  refine TL.nil (Post.thnN ?_)
  refine T.ret ?_
  exact fin1L [c8] rfl rfl (List.Sublist.refl _) ⟨_, rfl, w8⟩


theorem wk1 : ofR smallO = (smallL, 0) := by kernel_rfl

theorem wk2 : withoutR smallL (made 9223372036854775808 2 7) = ([made 4611686018427387904 0 2, made 9223372036854775808 3 7], 0) := by kernel_rfl

theorem wk3 : withoutR smallL (made 4611686018427387904 0 3) = ([], 4) := by kernel_rfl

set_option maxHeartbeats 1600000 in
theorem wakes_c (H : Heap) : Fv Try.prog (fnv 9) [] H (.bool true) := by
  refine Fc.of_body (N := 80) Try.func9 rfl (by kernel_rfl) rfl rfl ?_
  intro w0
  refine T.seq ?_
  refine T.region ?_
  refine R.asE rfl (by conv => lhs; whnf) ?_
  refine TL.nil (Post.thnN ?_)
  refine T.seq ?_
  refine T.region ?_
  refine R.callp rfl rfl rfl (small_c _) ?_
  intro v8 H8 s8 q8
  obtain ⟨A8, p8, rfl, m8, n8, q8⟩ := q8.shape
  refine R.asE rfl (by conv => lhs; whnf) ?_
  refine TL.nil (Post.thnN ?_)
  refine T.seq ?_
  refine T.draw Try_mixed (by kernel_rfl) ?_
  refine Plan.v 0 [1, 2, 3, 4, 5, 6, 7, 8, 9, 10, 11, 12, 13, 14, 15, 16, 17, 18] (by kernel_rfl) (by kernel_rfl) (by kernel_rfl) (by kernel_rfl) rfl (fun _ _ h_ => R.mvE rfl (by conv => lhs; whnf) (TL.nil h_)) ?_
  obtain ⟨b11, o11, i11, e11⟩ := (q8).elem ((rfl : smallL[2]? = some (made 9223372036854775808 3 7)))
  refine Plan.v 1 [2, 3, 4, 5, 6, 7, 8, 9, 10, 11, 12, 13, 14, 15, 16, 17, 18] (by kernel_rfl) (by kernel_rfl) (by kernel_rfl) (by kernel_rfl) rfl (fun _ _ h_ => R.ixp Try.underlying22 Try.sizeOf28 rfl rfl rfl (by omega) i11 (TL.nil h_)) ?_
  refine Plan.v 2 [3, 4, 5, 6, 7, 8, 9, 10, 11, 12, 13, 14, 15, 16, 17, 18] (by kernel_rfl) (by kernel_rfl) (by kernel_rfl) (by kernel_rfl) rfl (fun _ _ h_ => R.ldC Try.isAgg28 rfl rfl (e11).int (TL.nil h_)) ?_
  refine Plan.v 3 [4, 5, 6, 7, 8, 9, 10, 11, 12, 13, 14, 15, 16, 17, 18] (by kernel_rfl) (by kernel_rfl) (by kernel_rfl) (by kernel_rfl) rfl (fun _ _ h_ => R.mvE rfl (by conv => lhs; whnf) (TL.nil h_)) ?_
  obtain ⟨b14, o14, i14, e14⟩ := (q8).elem ((rfl : smallL[0]? = some (made 4611686018427387904 0 2)))
  refine Plan.v 4 [5, 6, 7, 8, 9, 10, 11, 12, 13, 14, 15, 16, 17, 18] (by kernel_rfl) (by kernel_rfl) (by kernel_rfl) (by kernel_rfl) rfl (fun _ _ h_ => R.ixp Try.underlying22 Try.sizeOf28 rfl rfl rfl (by omega) i14 (TL.nil h_)) ?_
  refine Plan.v 5 [6, 7, 8, 9, 10, 11, 12, 13, 14, 15, 16, 17, 18] (by kernel_rfl) (by kernel_rfl) (by kernel_rfl) (by kernel_rfl) rfl (fun _ _ h_ => R.ldC Try.isAgg28 rfl rfl (e14).int (TL.nil h_)) ?_
  refine Plan.v 6 [7, 8, 9, 10, 11, 12, 13, 14, 15, 16, 17, 18] (by kernel_rfl) (by kernel_rfl) (by kernel_rfl) (by kernel_rfl) rfl (fun _ _ h_ => R.mvE rfl (by conv => lhs; whnf) (TL.nil h_)) ?_
  obtain ⟨b17, o17, i17, e17⟩ := (q8).elem ((rfl : smallL[1]? = some (made 9223372036854775808 2 7)))
  refine Plan.v 7 [8, 9, 10, 11, 12, 13, 14, 15, 16, 17, 18] (by kernel_rfl) (by kernel_rfl) (by kernel_rfl) (by kernel_rfl) rfl (fun _ _ h_ => R.ixp Try.underlying22 Try.sizeOf28 rfl rfl rfl (by omega) i17 (TL.nil h_)) ?_
  refine Plan.v 8 [9, 10, 11, 12, 13, 14, 15, 16, 17, 18] (by kernel_rfl) (by kernel_rfl) (by kernel_rfl) (by kernel_rfl) rfl (fun _ _ h_ => R.ldC Try.isAgg28 rfl rfl (e17).int (TL.nil h_)) ?_
  refine Plan.v 9 [10, 11, 12, 13, 14, 15, 16, 17, 18] (by kernel_rfl) (by kernel_rfl) (by kernel_rfl) (by kernel_rfl) rfl (fun _ _ h_ => R.mvE rfl (by conv => lhs; whnf) (TL.nil h_)) ?_
  obtain ⟨b20, o20, i20, e20⟩ := (q8).elem ((rfl : smallL[0]? = some (made 4611686018427387904 0 2)))
  refine Plan.v 10 [11, 12, 13, 14, 15, 16, 17, 18] (by kernel_rfl) (by kernel_rfl) (by kernel_rfl) (by kernel_rfl) rfl (fun _ _ h_ => R.ixp Try.underlying22 Try.sizeOf28 rfl rfl rfl (by omega) i20 (TL.nil h_)) ?_
  refine Plan.v 11 [12, 13, 14, 15, 16, 17, 18] (by kernel_rfl) (by kernel_rfl) (by kernel_rfl) (by kernel_rfl) rfl (fun _ _ h_ => R.ldC Try.isAgg28 rfl rfl (e20).int (TL.nil h_)) ?_
  refine Plan.s1 12 [13, 14, 15, 16, 17, 18] (by kernel_rfl) (by kernel_rfl) rfl ?_
  refine R.bsN [_, _, _, _] rfl Try.underlying22 Try.sizeOf28 Try.zeroValue28 rfl rfl rfl rfl rfl rfl ?_
  intro b22
  refine TL.shut .hd ?_
  intro H22 s22 q22
  have l22 : RdS (intE .u64) H22 _ smallO := RdS.litI smallO q22 rfl
  refine TL.nil (Plan.e1 (s22) ?_)
  refine Plan.s1 13 [14, 15, 16, 17, 18] (by kernel_rfl) (by kernel_rfl) rfl ?_
  refine R.callp rfl rfl rfl (Of_c _ _ smallO l22 (us_of (by kernel_rfl)) (by decide)) ?_
  intro v23 H23 s23 q23
  obtain ⟨r23, rfl, h23⟩ := q23
  rw [wk1] at h23
  obtain ⟨A23, p23, rfl, m23, n23, h23⟩ := h23.shape
  refine TL.nil (Plan.e1 (s23) ?_)
  refine Plan.v 14 [15, 16, 17, 18] (by kernel_rfl) (by kernel_rfl) (by kernel_rfl) (by kernel_rfl) rfl (fun _ _ h_ => R.mvE rfl (by conv => lhs; whnf) (TL.nil h_)) ?_
  refine Plan.v 15 [16, 17, 18] (by kernel_rfl) (by kernel_rfl) (by kernel_rfl) (by kernel_rfl) rfl (fun _ _ h_ => R.ext rfl rfl rfl (TL.nil h_)) ?_
  refine Plan.v 16 [17, 18] (by kernel_rfl) (by kernel_rfl) (by kernel_rfl) (by kernel_rfl) rfl (fun _ _ h_ => R.ext rfl rfl rfl (TL.nil h_)) ?_
  refine Plan.v 17 [18] (by kernel_rfl) (by kernel_rfl) (by kernel_rfl) (by kernel_rfl) rfl (fun _ _ h_ => R.asE rfl (by conv => lhs; whnf) (TL.nil h_)) ?_
  refine Plan.v 18 [] (by kernel_rfl) (by kernel_rfl) (by kernel_rfl) (by kernel_rfl) rfl (fun _ _ h_ => R.asE rfl (by conv => lhs; whnf) (TL.nil h_)) ?_
  refine Plan.done (Post.thnN ?_)
  refine T.seq ?_
  refine T.region ?_
  refine R.mvE rfl (by conv => lhs; whnf) ?_
  refine R.mvE rfl (by conv => lhs; whnf) ?_
  obtain ⟨b29, o29, i29, e29⟩ := ((q8.mono s22).mono s23).elem ((rfl : smallL[1]? = some (made 9223372036854775808 2 7)))
  refine R.ixp Try.underlying22 Try.sizeOf28 rfl rfl rfl (by omega) i29 ?_
  refine R.ldC Try.isAgg28 rfl rfl (e29).int ?_
  refine TL.call [] rfl rfl rfl (Without_c _ _ smallL (made 9223372036854775808 2 7) (h23.mono (HLe.refl _)) (us_of (by kernel_rfl)) (by decide)) ?_
  intro v31 H31 L31 s31 q31
  obtain ⟨r31, c31, rfl, rfl, w31⟩ := q31
  rw [wk2] at w31
  refine TL.shut .hd ?_
  intro HX sX qX
  have h31 := w31.read sX qX
  obtain ⟨A31, p31, rfl, m31, n31, h31⟩ := h31.shape
  refine R.mvE rfl (by conv => lhs; whnf) ?_
  refine R.ext rfl rfl rfl ?_
  refine R.ext rfl rfl rfl ?_
  refine R.asE rfl (by conv => lhs; whnf) ?_
  refine R.asE rfl (by conv => lhs; whnf) ?_
  refine TL.nil (Post.thnN ?_)
  refine T.seq ?_
  refine T.region ?_
  refine R.mvE rfl (by conv => lhs; whnf) ?_
  refine R.callv rfl rfl rfl (rmade_c _ _ _ _ (.inr (.inl rfl)) ⟨by omega, by omega⟩ ⟨by omega, by omega⟩) ?_
  refine TL.call [] rfl rfl rfl (Without_c _ _ smallL (made 4611686018427387904 0 3) (h23.mono (s31.trans sX)) (us_of (by kernel_rfl)) (by decide)) ?_
  intro v37 H37 L37 s37 q37
  obtain ⟨r37, c37, rfl, rfl, w37⟩ := q37
  refine R.mvE rfl (by conv => lhs; whnf) ?_
  refine R.ext rfl rfl rfl ?_
  refine R.ext rfl rfl rfl ?_
  refine R.asE rfl (by conv => lhs; whnf) ?_
  refine R.asE rfl (by conv => lhs; whnf) ?_
  refine TL.nil (Post.thnN ?_)
  refine T.seq ?_
  refine T.region ?_
  refine R.mvE rfl (by conv => lhs; whnf) ?_
  refine R.eql rfl rfl rfl ?_
  refine R.mvE rfl (by conv => lhs; whnf) ?_
  refine TL.set 42 (.bool true) (by kernel_rfl) ?_
  refine R.mvE rfl (by conv => lhs; whnf) ?_
  refine R.eql rfl rfl rfl ?_
  refine R.pkTE rfl rfl (by conv => lhs; whnf) ?_
  refine R.mvE rfl (by conv => lhs; whnf) ?_
  refine TL.set 46 (.bool true) (by kernel_rfl) ?_
  refine R.mvE rfl (by conv => lhs; whnf) ?_
  refine R.eql rfl rfl rfl ?_
  refine R.pkTE rfl rfl (by conv => lhs; whnf) ?_
  refine R.mvE rfl (by conv => lhs; whnf) ?_
  refine TL.set 50 (.bool true) (by kernel_rfl) ?_
  refine R.mvE rfl (by conv => lhs; whnf) ?_
  refine R.mvE rfl (by conv => lhs; whnf) ?_
  refine R.callv rfl rfl rfl (equalU22_c _ _ _ _ _ (h23.mono (s31.trans (sX.trans s37))) (((q8.mono s22).mono s23).mono (s31.trans (sX.trans s37)))) ?_
  refine R.pkTE rfl rfl (by conv => lhs; whnf) ?_
  refine R.mvE rfl (by conv => lhs; whnf) ?_
  refine TL.set 55 (.bool true) (by kernel_rfl) ?_
  refine R.mvE rfl (by conv => lhs; whnf) ?_
  refine R.len Try.underlying22 rfl rfl ?_
  refine R.eql rfl rfl rfl ?_
  refine R.pkTE rfl rfl (by conv => lhs; whnf) ?_
  refine R.mvE rfl (by conv => lhs; whnf) ?_
  refine TL.set 60 (.bool true) (by kernel_rfl) ?_
  refine R.mvE rfl (by conv => lhs; whnf) ?_
  refine R.mvE rfl (by conv => lhs; whnf) ?_
  obtain ⟨b63, o63, i63, e63⟩ := (((q8.mono s22).mono s23).mono (s31.trans (sX.trans s37))).elem ((rfl : smallL[1]? = some (made 9223372036854775808 2 7)))
  refine R.ixp Try.underlying22 Try.sizeOf28 rfl rfl rfl (by omega) i63 ?_
  refine R.ldC Try.isAgg28 rfl rfl (e63).int ?_
  refine R.callv rfl rfl rfl (Has_c _ _ _ _ (h23.mono (s31.trans (sX.trans s37))) (us_of (by kernel_rfl)) (by decide)) ?_
  refine R.pkTE rfl rfl (by conv => lhs; whnf) ?_
  refine R.mvE rfl (by conv => lhs; whnf) ?_
  refine TL.set 67 (.bool true) (by kernel_rfl) ?_
  refine R.mvE rfl (by conv => lhs; whnf) ?_
  refine R.callp rfl rfl rfl (Targets_c _ _ _ _ (h23.mono (s31.trans (sX.trans s37))) (us_of (by kernel_rfl)) (by decide)) ?_
  intro v69 H69 s69 q69
  refine R.bsN [_] rfl Try.underlying23 Try.sizeOf3 Try.zeroValue3 rfl rfl rfl rfl rfl rfl ?_
  intro b70
  refine TL.shut .hd ?_
  intro H70 s70 q70
  have l70 : RdS (intE .i64) H70 _ [7] := RdS.litI [7] q70 rfl
  refine R.callv rfl rfl rfl (equalI23_c _ _ _ _ [7] (q69.mono s70) l70) ?_
  refine R.pkTE rfl rfl (by conv => lhs; whnf) ?_
  refine R.mvE rfl (by conv => lhs; whnf) ?_
  refine TL.set 73 (.bool true) (by kernel_rfl) ?_
  refine R.mvE rfl (by conv => lhs; whnf) ?_
  refine R.callv rfl rfl rfl (rmade_c _ _ _ _ (.inr (.inr rfl)) ⟨by omega, by omega⟩ ⟨by omega, by omega⟩) ?_
  refine R.callp rfl rfl rfl (Taken_c _ _ _ _ (h23.mono (s31.trans (sX.trans (s37.trans (s69.trans s70))))) (us_of (by kernel_rfl)) (by decide) ⟨by decide, by decide⟩) ?_
  intro v76 H76 s76 q76
  obtain ⟨A76, p76, rfl, m76, n76, q76⟩ := q76.shape
  refine R.len Try.underlying22 rfl rfl ?_
  refine R.eql rfl rfl rfl ?_
  refine R.pkTE rfl rfl (by conv => lhs; whnf) ?_
  refine R.asE rfl (by conv => lhs; whnf) ?_
  refine TL.nil (Post.thnN ?_)
  refine T.ret ?_
  exact fin1 rfl rfl ⟨rfl, congrArg Value.bool (by kernel_rfl)⟩

end Go.SX
