/- the law of chapter 16: its small functions. -/
import Derived.Test.YtkhjpgimjkofcaaCo3
import Derived.Test.YtkhjpgimjkofcaaWx
set_option linter.unusedVariables false
set_option linter.unusedSimpArgs false
namespace Go.SX
open Go Go.Proofs

set_option maxHeartbeats 1600000 in
theorem equalP_c (H : Heap) (v u : Value) (xs ys : List Lk) (hr : RdS pairE H v xs) (hr2 : RdS pairE H u ys) : Fv Try.prog (fnv 23) [v, u] H (.bool (decide (xs = ys))) := by
  refine Fc.of_body (N := 26) Try.func23 rfl (by kernel_rfl) rfl rfl ?_
  intro w0
  obtain ⟨A, c, rfl, hc1, hc2, hr⟩ := hr.shape
  obtain ⟨A2, c2, rfl, hc3, hc4, hr2⟩ := hr2.shape
  refine T.seq ?_
  refine T.region ?_
  refine R.asE rfl (by conv => lhs; whnf) ?_
  refine TL.nil (Post.thnN ?_)
  refine T.seq ?_
  refine T.seq ?_
  refine T.region ?_
  refine R.mvE rfl (by conv => lhs; whnf) ?_
  refine R.len Try.underlying22 rfl rfl ?_
  refine R.mvE rfl (by conv => lhs; whnf) ?_
  refine R.len Try.underlying22 rfl rfl ?_
  refine R.neq rfl rfl rfl ?_
  refine TL.nil (Post.thnN ?_)
  refine T.condD rfl (fun c10 => ?_) (fun c10 => ?_)
  · refine T.seq ?_
    refine T.region ?_
    refine R.asE rfl (by conv => lhs; whnf) ?_
    refine TL.nil (Post.thnN ?_)
    refine T.ret (Post.thnR ?_)
    -- way y
    exact fin1 rfl rfl ⟨rfl, congrArg Value.bool (decide_eq_false (fun e => c10 (by rw [e]))).symm⟩
  · refine T.skip (Post.thnN ?_)
    refine T.seq ?_
    refine T.seq ?_
    refine T.region ?_
    refine R.mvE rfl (by conv => lhs; whnf) ?_
    refine R.len Try.underlying22 rfl rfl ?_
    refine R.mvE rfl (by conv => lhs; whnf) ?_
    refine TL.nil (Post.thnN ?_)
    refine T.block ?_
    refine T.loop (ι := Nat) (fun k H' L' ds' => k ≤ xs.length ∧ xs.take k = ys.take k) (fun k => [(0, .slice A xs.length c), (1, .slice A2 ys.length c2), (12, .int .i64 xs.length), (13, .int .i64 k)]) (fun k => xs.length - k) (0) ?_ ?_ ?_
    · exact ⟨Nat.zero_le _, rfl⟩
    · exact ⟨rfl, rfl, rfl, rfl, trivial⟩
    · intro k σ0 H_0 L_0 ds_0 s_0 hI_0
      obtain ⟨hk, hw⟩ := hI_0
      refine T.seq ?_
      refine T.region ?_
      refine R.lss rfl rfl rfl ?_
      refine TL.nil (Post.thnN ?_)
      refine T.seq ?_
      refine T.condD rfl (fun c14 => ?_) (fun c14 => ?_)
      · have hlt : k < xs.length := by omega
        obtain ⟨a, hx⟩ := getk hlt
        obtain ⟨b, hy⟩ := getk (xs := ys) (k := k) (by omega)
        refine T.skip (Post.thnN ?_)
        refine T.seq ?_
        refine T.block ?_
        refine T.seq ?_
        refine T.region ?_
        refine R.mvE rfl (by conv => lhs; whnf) ?_
        refine R.asE rfl (by conv => lhs; whnf) ?_
        refine TL.nil (Post.thnN ?_)
        refine T.seq ?_
        refine T.draw Try_mixed (by kernel_rfl) ?_
        refine Plan.v 0 [1, 2, 3, 4, 5, 6, 7, 8] (by kernel_rfl) (by kernel_rfl) (by kernel_rfl) (by kernel_rfl) rfl (fun _ _ h_ => R.mvE rfl (by conv => lhs; whnf) (TL.nil h_)) ?_
        refine Plan.v 1 [2, 3, 4, 5, 6, 7, 8] (by kernel_rfl) (by kernel_rfl) (by kernel_rfl) (by kernel_rfl) rfl (fun _ _ h_ => R.mvE rfl (by conv => lhs; whnf) (TL.nil h_)) ?_
        obtain ⟨b18, o18, i18, e18⟩ := (hr.mono s_0).elem (hx)
        refine Plan.v 2 [3, 4, 5, 6, 7, 8] (by kernel_rfl) (by kernel_rfl) (by kernel_rfl) (by kernel_rfl) rfl (fun _ _ h_ => R.ixp Try.underlying22 Try.sizeOf37 rfl rfl rfl (by omega) i18 (TL.nil h_)) ?_
        refine Plan.v 3 [4, 5, 6, 7, 8] (by kernel_rfl) (by kernel_rfl) (by kernel_rfl) (by kernel_rfl) rfl (fun _ _ h_ => R.ldP Try.isAgg37 Try.sizeOf37 rfl rfl (e18) (TL.nil h_)) ?_
        refine Plan.v 4 [5, 6, 7, 8] (by kernel_rfl) (by kernel_rfl) (by kernel_rfl) (by kernel_rfl) rfl (fun _ _ h_ => R.mvE rfl (by conv => lhs; whnf) (TL.nil h_)) ?_
        refine Plan.v 5 [6, 7, 8] (by kernel_rfl) (by kernel_rfl) (by kernel_rfl) (by kernel_rfl) rfl (fun _ _ h_ => R.mvE rfl (by conv => lhs; whnf) (TL.nil h_)) ?_
        obtain ⟨b22, o22, i22, e22⟩ := (hr2.mono s_0).elem (hy)
        refine Plan.v 6 [7, 8] (by kernel_rfl) (by kernel_rfl) (by kernel_rfl) (by kernel_rfl) rfl (fun _ _ h_ => R.ixp Try.underlying22 Try.sizeOf37 rfl rfl rfl (by omega) i22 (TL.nil h_)) ?_
        refine Plan.v 7 [8] (by kernel_rfl) (by kernel_rfl) (by kernel_rfl) (by kernel_rfl) rfl (fun _ _ h_ => R.ldP Try.isAgg37 Try.sizeOf37 rfl rfl (e22) (TL.nil h_)) ?_
        refine Plan.v 8 [] (by kernel_rfl) (by kernel_rfl) (by kernel_rfl) (by kernel_rfl) rfl (fun _ _ h_ => R.neP (a := a) (b := b) Tryc_eqP Tryc_eqG rfl rfl rfl (TL.nil h_)) ?_
        refine Plan.done (Post.thnN ?_)
        refine T.condD rfl (fun c24 => ?_) (fun c24 => ?_)
        · refine T.seq ?_
          refine T.region ?_
          refine R.asE rfl (by conv => lhs; whnf) ?_
          refine TL.nil (Post.thnN ?_)
          refine T.ret (Post.blkR (Post.thnR (Post.thnR (Post.blkR (Post.thnR ?_)))))
          -- way nyy
          exact fin1 rfl rfl ⟨rfl, congrArg Value.bool (decide_eq_false (ne_of_get hx hy c24)).symm⟩
        · refine T.skip (Post.blkN ?_)
          refine id (Post.thnN ?_)
          refine T.region ?_
          refine R.addI rfl rfl rfl (by omega) ?_
          refine R.mvE rfl (by conv => lhs; whnf) ?_
          refine TL.nil (Post.thnN ?_)
          -- round's end, way nyn
          exact ⟨k + 1, s_0, ⟨by omega, take_eq_of hw hx (by rw [hy]; exact congrArg some (Decidable.of_not_not c24).symm)⟩, by omega, ⟨rfl, rfl, rfl, rfl, trivial⟩⟩
      · refine T.exit (Post.thnE (Post.thnE (Post.blkX ?_)))
        refine id (Post.thnN ?_)
        refine T.seq ?_
        refine T.region ?_
        refine R.asE rfl (by conv => lhs; whnf) ?_
        refine TL.nil (Post.thnN ?_)
        refine T.ret ?_
        -- way nn
        obtain rfl : k = xs.length := by omega
        have e1 : xs = ys := by
          rw [List.take_length, show xs.length = ys.length by omega, List.take_length] at hw; exact hw
        exact fin1 rfl rfl ⟨rfl, congrArg Value.bool (decide_eq_true e1).symm⟩


set_option maxHeartbeats 1600000 in
theorem own16_c (H : Heap) (v : Value) (xs : List Lk) (hr : RdS pairE H v xs) : Fc Try.prog (fnv 38) [v] H [] (fun v' H' L' => ∃ c, L' = [c] ∧ OwnS pairE 37 H' v' (xs.take 30) c) := by
  refine Fc.of_body (N := 9) Try.func38 rfl (by kernel_rfl) rfl rfl ?_
  intro w0
  obtain ⟨A, c, rfl, hc1, hc2, hr⟩ := hr.shape
  have hm : min xs.length 30 ≤ xs.length := Nat.min_le_left _ _
  refine T.seq ?_
  refine T.region ?_
  refine R.asE rfl (by conv => lhs; whnf) ?_
  refine TL.nil (Post.thnN ?_)
  refine T.seq ?_
  refine T.region ?_
  refine R.mvE rfl (by conv => lhs; whnf) ?_
  refine R.mvE rfl (by conv => lhs; whnf) ?_
  refine R.len Try.underlying22 rfl rfl ?_
  refine R.min2 rfl rfl rfl ?_
  refine TL.set 6 (.int .i64 ((min xs.length 30 : Nat) : Int)) (congrArg _ (minN _ 30)) ?_
  refine R.sH Try.underlying22 Try.sizeOf37 rfl rfl rfl  (by omega) (by omega)  ?_
  refine TL.call [] rfl rfl rfl (cloneP22_c _ _ _ (hr.takeC hm hc1) (by simp; omega)) ?_
  intro v8 H8 L8 s8 q8
  obtain ⟨c8, rfl, w8⟩ := q8
  rw [Int.toNat_natCast, takeMin] at w8
  refine R.asE rfl (by conv => lhs; whnf) ?_
  refine TL.nil (Post.thnN ?_)
  refine T.ret ?_
  exact fin1L [c8] rfl rfl (List.Sublist.refl _) ⟨_, rfl, w8⟩


set_option maxHeartbeats 1600000 in
theorem small16_c (H : Heap) : Fp Try.prog (fnv 74) [] H (fun v' H' => RdS pairE H' v' smallC) := by
  refine Fc.of_body (N := 6) Try.func74 rfl (by kernel_rfl) rfl rfl ?_
  intro w0
  refine T.seq ?_
  refine T.region ?_
  refine R.asE rfl (by conv => lhs; whnf) ?_
  refine TL.nil (Post.thnN ?_)
  refine T.seq ?_
  refine T.region ?_
  refine R.bld (cs := [.int .i64 3, .int .i64 4]) rfl (fun _ => by kernel_rfl) ?_
  refine R.bld (cs := [.int .i64 4, .int .i64 5]) rfl (fun _ => by kernel_rfl) ?_
  refine R.bld (cs := [.int .i64 5, .int .i64 3]) rfl (fun _ => by kernel_rfl) ?_
  refine R.bld (cs := [.int .i64 5, .int .i64 6]) rfl (fun _ => by kernel_rfl) ?_
  refine R.bs (e := 37) (cs := [.int .i64 3, .int .i64 4, .int .i64 4, .int .i64 5, .int .i64 5, .int .i64 3, .int .i64 5, .int .i64 6]) rfl (fun _ => by kernel_rfl) ?_
  intro b5
  refine TL.shut .hd ?_
  intro H5 s5 q5
  have l5 : RdS pairE H5 _ [(3, 4), (4, 5), (5, 3), (5, 6)] := RdS.litP [(3, 4), (4, 5), (5, 3), (5, 6)] q5 rfl
  refine R.asE rfl (by conv => lhs; whnf) ?_
  refine TL.nil (Post.thnN ?_)
  refine T.ret ?_
  exact fin1 rfl rfl ⟨rfl, l5⟩


set_option maxHeartbeats 1600000 in
theorem wakes16_c (H : Heap) : Fv Try.prog (fnv 37) [] H (.bool true) := by
  refine Fc.of_body (N := 65) Try.func37 rfl (by kernel_rfl) rfl rfl ?_
  intro w0
  refine T.seq ?_
  refine T.region ?_
  refine R.asE rfl (by conv => lhs; whnf) ?_
  refine TL.nil (Post.thnN ?_)
  refine T.seq ?_
  refine T.draw Try_mixed (by kernel_rfl) ?_
  refine Plan.s1 0 [1, 2, 3, 4, 5, 6, 7, 8, 9, 10, 11, 12, 13, 14, 15] (by kernel_rfl) (by kernel_rfl) rfl ?_
  refine R.callp rfl rfl rfl (small16_c _) ?_
  intro v6 H6 s6 q6
  refine TL.nil (Plan.e1 (s6) ?_)
  obtain ⟨b7, o7, i7, e7⟩ := (q6).elem ((rfl : smallC[3]? = some (5, 6)))
  refine Plan.v 1 [2, 3, 4, 5, 6, 7, 8, 9, 10, 11, 12, 13, 14, 15] (by kernel_rfl) (by kernel_rfl) (by kernel_rfl) (by kernel_rfl) rfl (fun _ _ h_ => R.ixp Try.underlying22 Try.sizeOf37 rfl rfl rfl (by omega) i7 (TL.nil h_)) ?_
  refine Plan.v 2 [3, 4, 5, 6, 7, 8, 9, 10, 11, 12, 13, 14, 15] (by kernel_rfl) (by kernel_rfl) (by kernel_rfl) (by kernel_rfl) rfl (fun _ _ h_ => R.ldP Try.isAgg37 Try.sizeOf37 rfl rfl (e7) (TL.nil h_)) ?_
  refine Plan.s1 3 [4, 5, 6, 7, 8, 9, 10, 11, 12, 13, 14, 15] (by kernel_rfl) (by kernel_rfl) rfl ?_
  refine R.callp rfl rfl rfl (small16_c _) ?_
  intro v9 H9 s9 q9
  refine TL.nil (Plan.e1 (s9) ?_)
  obtain ⟨b10, o10, i10, e10⟩ := (q9).elem ((rfl : smallC[0]? = some (3, 4)))
  refine Plan.v 4 [5, 6, 7, 8, 9, 10, 11, 12, 13, 14, 15] (by kernel_rfl) (by kernel_rfl) (by kernel_rfl) (by kernel_rfl) rfl (fun _ _ h_ => R.ixp Try.underlying22 Try.sizeOf37 rfl rfl rfl (by omega) i10 (TL.nil h_)) ?_
  refine Plan.v 5 [6, 7, 8, 9, 10, 11, 12, 13, 14, 15] (by kernel_rfl) (by kernel_rfl) (by kernel_rfl) (by kernel_rfl) rfl (fun _ _ h_ => R.ldP Try.isAgg37 Try.sizeOf37 rfl rfl (e10) (TL.nil h_)) ?_
  refine Plan.s1 6 [7, 8, 9, 10, 11, 12, 13, 14, 15] (by kernel_rfl) (by kernel_rfl) rfl ?_
  refine R.callp rfl rfl rfl (small16_c _) ?_
  intro v12 H12 s12 q12
  refine TL.nil (Plan.e1 (s12) ?_)
  obtain ⟨b13, o13, i13, e13⟩ := (q12).elem ((rfl : smallC[3]? = some (5, 6)))
  refine Plan.v 7 [8, 9, 10, 11, 12, 13, 14, 15] (by kernel_rfl) (by kernel_rfl) (by kernel_rfl) (by kernel_rfl) rfl (fun _ _ h_ => R.ixp Try.underlying22 Try.sizeOf37 rfl rfl rfl (by omega) i13 (TL.nil h_)) ?_
  refine Plan.v 8 [9, 10, 11, 12, 13, 14, 15] (by kernel_rfl) (by kernel_rfl) (by kernel_rfl) (by kernel_rfl) rfl (fun _ _ h_ => R.ldP Try.isAgg37 Try.sizeOf37 rfl rfl (e13) (TL.nil h_)) ?_
  refine Plan.s1 9 [10, 11, 12, 13, 14, 15] (by kernel_rfl) (by kernel_rfl) rfl ?_
  refine R.bs (e := 37) (cs := [.int .i64 5, .int .i64 6, .int .i64 3, .int .i64 4, .int .i64 5, .int .i64 6]) rfl (fun _ => by kernel_rfl) ?_
  intro b15
  refine TL.shut .hd ?_
  intro H15 s15 q15
  have l15 : RdS pairE H15 _ [(5, 6), (3, 4), (5, 6)] := RdS.litP [(5, 6), (3, 4), (5, 6)] q15 rfl
  refine TL.nil (Plan.e1 (s15) ?_)
  refine Plan.s1 10 [11, 12, 13, 14, 15] (by kernel_rfl) (by kernel_rfl) rfl ?_
  refine R.callp rfl rfl rfl (of_c _ _ [(5, 6), (3, 4), (5, 6)] l15 (by decide)) ?_
  intro v16 H16 s16 q16
  obtain ⟨w16, rfl, g16⟩ := q16
  obtain ⟨A16, k16, rfl, m16, n16, g16⟩ := g16.shape
  refine TL.nil (Plan.e1 (s16) ?_)
  refine Plan.v 11 [12, 13, 14, 15] (by kernel_rfl) (by kernel_rfl) (by kernel_rfl) (by kernel_rfl) rfl (fun _ _ h_ => R.mvE rfl (by conv => lhs; whnf) (TL.nil h_)) ?_
  refine Plan.v 12 [13, 14, 15] (by kernel_rfl) (by kernel_rfl) (by kernel_rfl) (by kernel_rfl) rfl (fun _ _ h_ => R.ext rfl rfl rfl (TL.nil h_)) ?_
  refine Plan.v 13 [14, 15] (by kernel_rfl) (by kernel_rfl) (by kernel_rfl) (by kernel_rfl) rfl (fun _ _ h_ => R.ext rfl rfl rfl (TL.nil h_)) ?_
  refine Plan.v 14 [15] (by kernel_rfl) (by kernel_rfl) (by kernel_rfl) (by kernel_rfl) rfl (fun _ _ h_ => R.asE rfl (by conv => lhs; whnf) (TL.nil h_)) ?_
  refine Plan.v 15 [] (by kernel_rfl) (by kernel_rfl) (by kernel_rfl) (by kernel_rfl) rfl (fun _ _ h_ => R.asE rfl (by conv => lhs; whnf) (TL.nil h_)) ?_
  refine Plan.done (Post.thnN ?_)
  refine T.seq ?_
  refine T.region ?_
  refine R.bld (cs := [.int .i64 0, .int .i64 0]) rfl (fun _ => by kernel_rfl) ?_
  refine R.bs (e := 37) (cs := [.int .i64 0, .int .i64 0]) rfl (fun _ => by kernel_rfl) ?_
  intro b21
  refine TL.shut .hd ?_
  intro H21 s21 q21
  have l21 : RdS pairE H21 _ [(0, 0)] := RdS.litP [(0, 0)] q21 rfl
  refine R.callp rfl rfl rfl (of_c _ _ [(0, 0)] l21 (by decide)) ?_
  intro v22 H22 s22 q22
  obtain ⟨w22, rfl, g22⟩ := q22
  refine R.mvE rfl (by conv => lhs; whnf) ?_
  refine R.ext rfl rfl rfl ?_
  refine R.ext rfl rfl rfl ?_
  refine R.asE rfl (by conv => lhs; whnf) ?_
  refine R.asE rfl (by conv => lhs; whnf) ?_
  refine TL.nil (Post.thnN ?_)
  refine T.seq ?_
  refine T.region ?_
  refine R.mvE rfl (by conv => lhs; whnf) ?_
  refine R.eql rfl rfl rfl ?_
  refine R.mvE rfl (by conv => lhs; whnf) ?_
  refine TL.set 27 (.bool true) (by kernel_rfl) ?_
  refine R.mvE rfl (by conv => lhs; whnf) ?_
  refine R.eql rfl rfl rfl ?_
  refine R.pkTE rfl rfl (by conv => lhs; whnf) ?_
  refine R.mvE rfl (by conv => lhs; whnf) ?_
  refine TL.set 31 (.bool true) (by kernel_rfl) ?_
  refine R.mvE rfl (by conv => lhs; whnf) ?_
  refine R.len Try.underlying22 rfl rfl ?_
  refine R.eql rfl rfl rfl ?_
  refine R.pkTE rfl rfl (by conv => lhs; whnf) ?_
  refine R.mvE rfl (by conv => lhs; whnf) ?_
  refine TL.set 36 (.bool true) (by kernel_rfl) ?_
  refine R.callp rfl rfl rfl (small16_c _) ?_
  intro v37 H37 s37 q37
  refine R.callv rfl rfl rfl (leads_c _ _ smallC 3 q37 (by decide) 6) ?_
  refine R.pkTE rfl rfl (by conv => lhs; whnf) ?_
  refine R.mvE rfl (by conv => lhs; whnf) ?_
  refine TL.set 40 (.bool true) (congrArg Value.bool (by rw [← leadsQ_eq]; kernel_rfl)) ?_
  refine R.callp rfl rfl rfl (small16_c _) ?_
  intro v41 H41 s41 q41
  refine R.callv rfl rfl rfl (leads_c _ _ smallC 6 q41 (by decide) 3) ?_
  refine R.not rfl rfl ?_
  refine R.pkTE rfl rfl (by conv => lhs; whnf) ?_
  refine R.mvE rfl (by conv => lhs; whnf) ?_
  refine TL.set 45 (.bool true) (congrArg Value.bool (by rw [← leadsQ_eq]; kernel_rfl)) ?_
  refine R.callp rfl rfl rfl (small16_c _) ?_
  intro v46 H46 s46 q46
  refine R.callv rfl rfl rfl (closes_c _ _ smallC 6 q46 (by decide) 3) ?_
  refine R.pkTE rfl rfl (by conv => lhs; whnf) ?_
  refine R.mvE rfl (by conv => lhs; whnf) ?_
  refine TL.set 49 (.bool true) (congrArg Value.bool (by rw [closesQ]; kernel_rfl)) ?_
  refine R.callp rfl rfl rfl (small16_c _) ?_
  intro v50 H50 s50 q50
  refine R.callv rfl rfl rfl (round_c _ _ smallC q50 (by decide)) ?_
  refine R.pkTE rfl rfl (by conv => lhs; whnf) ?_
  refine R.mvE rfl (by conv => lhs; whnf) ?_
  refine TL.set 53 (.bool true) (congrArg Value.bool (by rw [roundQ]; kernel_rfl)) ?_
  refine R.callp rfl rfl rfl (small16_c _) ?_
  intro v54 H54 s54 q54
  refine R.callp rfl rfl rfl (to_c _ _ smallC 5 q54 (by decide)) ?_
  intro v55 H55 s55 q55
  refine R.bsN [_, _] rfl Try.underlying23 Try.sizeOf3 Try.zeroValue3 rfl rfl rfl rfl rfl rfl ?_
  intro b56
  refine TL.shut .hd ?_
  intro H56 s56 q56
  have l56 : RdS (intE .i64) H56 _ [3, 6] := RdS.litN [3, 6] q56 rfl
  refine R.callv rfl rfl rfl (equalI23_c _ _ _ _ [3, 6] (q55.mono s56) l56) ?_
  refine R.pkTE rfl rfl (by conv => lhs; whnf) ?_
  refine R.mvE rfl (by conv => lhs; whnf) ?_
  refine TL.set 59 (.bool true) (by kernel_rfl) ?_
  refine R.callp rfl rfl rfl (small16_c _) ?_
  intro v60 H60 s60 q60
  refine R.callp rfl rfl rfl (cwaves_c _ _ smallC 3 q60 (by decide) false) ?_
  intro v61 H61 s61 q61
  obtain ⟨A61, k61, rfl, m61, n61, g61⟩ := q61.shape
  refine R.len Try.underlying52 rfl rfl ?_
  refine R.eql rfl rfl rfl ?_
  refine R.pkTE rfl rfl (by conv => lhs; whnf) ?_
  refine R.asE rfl (by conv => lhs; whnf) ?_
  refine TL.nil (Post.thnN ?_)
  refine T.ret ?_
  exact fin1 rfl rfl ⟨rfl, congrArg Value.bool (by kernel_rfl)⟩


set_option maxHeartbeats 1600000 in
theorem eqFunc_c (H : Heap) (v u : Value) (xs ys : List (List Int)) (hr : RdS (slE (intE .i64)) H v xs) (hr2 : RdS (slE (intE .i64)) H u ys) : Fv Try.prog (fnv 57) [v, u, fnv 20] H (.bool (decide (xs = ys))) := by
  refine Fc.of_body (N := 32) Try.func57 rfl (by kernel_rfl) rfl rfl ?_
  intro w0
  obtain ⟨A, c, rfl, hc1, hc2, hr⟩ := hr.shape
  obtain ⟨A2, c2, rfl, hc3, hc4, hr2⟩ := hr2.shape
  refine T.seq ?_
  refine T.region ?_
  refine R.asE rfl (by conv => lhs; whnf) ?_
  refine TL.nil (Post.thnN ?_)
  refine T.seq ?_
  refine T.seq ?_
  refine T.region ?_
  refine R.mvE rfl (by conv => lhs; whnf) ?_
  refine R.len Try.underlying52 rfl rfl ?_
  refine R.mvE rfl (by conv => lhs; whnf) ?_
  refine R.len Try.underlying52 rfl rfl ?_
  refine R.neq rfl rfl rfl ?_
  refine TL.nil (Post.thnN ?_)
  refine T.condD rfl (fun c14 => ?_) (fun c14 => ?_)
  · refine T.seq ?_
    refine T.region ?_
    refine R.asE rfl (by conv => lhs; whnf) ?_
    refine TL.nil (Post.thnN ?_)
    refine T.ret (Post.thnR ?_)
    -- way y
    exact fin1 rfl rfl ⟨rfl, congrArg Value.bool (decide_eq_false (fun e => c14 (by rw [e]))).symm⟩
  · refine T.skip (Post.thnN ?_)
    refine T.seq ?_
    refine T.seq ?_
    refine T.region ?_
    refine R.mvE rfl (by conv => lhs; whnf) ?_
    refine R.len Try.underlying52 rfl rfl ?_
    refine R.mvE rfl (by conv => lhs; whnf) ?_
    refine TL.nil (Post.thnN ?_)
    refine T.block ?_
    refine T.loop (ι := Nat) (fun k H' L' ds' => k ≤ xs.length ∧ xs.take k = ys.take k) (fun k => [(1, .slice A2 ys.length c2), (2, fnv 20), (15, .slice A xs.length c), (16, .int .i64 xs.length), (17, .int .i64 k)]) (fun k => xs.length - k) (0) ?_ ?_ ?_
    · exact ⟨Nat.zero_le _, rfl⟩
    · exact ⟨rfl, rfl, rfl, rfl, rfl, trivial⟩
    · intro k σ0 H_0 L_0 ds_0 s_0 hI_0
      obtain ⟨hk, hw⟩ := hI_0
      refine T.seq ?_
      refine T.region ?_
      refine R.lss rfl rfl rfl ?_
      refine TL.nil (Post.thnN ?_)
      refine T.seq ?_
      refine T.condD rfl (fun c18 => ?_) (fun c18 => ?_)
      · have hlt : k < xs.length := by omega
        obtain ⟨a, hx⟩ := getk hlt
        obtain ⟨b, hy⟩ := getk (xs := ys) (k := k) (by omega)
        refine T.skip (Post.thnN ?_)
        refine T.seq ?_
        refine T.block ?_
        refine T.seq ?_
        refine T.region ?_
        refine R.mvE rfl (by conv => lhs; whnf) ?_
        obtain ⟨b20, o20, i20, e20⟩ := (hr.mono s_0).elem (hx)
        refine R.ixp Try.underlying52 Try.sizeOf23 rfl rfl rfl (by omega) i20 ?_
        obtain ⟨v21, k21, r21⟩ := (e20).sl
        obtain ⟨A21, c21, rfl, m21, n21, r21⟩ := r21.shape
        refine R.ldC Try.isAgg23 rfl rfl k21 ?_
        refine R.asE rfl (by conv => lhs; whnf) ?_
        refine R.asE rfl (by conv => lhs; whnf) ?_
        refine TL.nil (Post.thnN ?_)
        refine T.seq ?_
        refine T.region ?_
        refine R.mvE rfl (by conv => lhs; whnf) ?_
        refine R.mvE rfl (by conv => lhs; whnf) ?_
        obtain ⟨b24, o24, i24, e24⟩ := (hr2.mono s_0).elem (hy)
        refine R.ixp Try.underlying52 Try.sizeOf23 rfl rfl rfl (by omega) i24 ?_
        obtain ⟨v25, k25, r25⟩ := (e24).sl
        obtain ⟨A25, c25, rfl, m25, n25, r25⟩ := r25.shape
        refine R.ldC Try.isAgg23 rfl rfl k25 ?_
        refine R.asE rfl (by conv => lhs; whnf) ?_
        refine TL.nil (Post.thnN ?_)
        refine T.seq ?_
        refine T.region ?_
        refine R.mvE rfl (by conv => lhs; whnf) ?_
        refine R.mvE rfl (by conv => lhs; whnf) ?_
        refine R.mvE rfl (by conv => lhs; whnf) ?_
        refine R.callv rfl rfl rfl (equalI23_c _ _ _ _ _ r21 r25) ?_
        refine R.not rfl rfl ?_
        refine TL.nil (Post.thnN ?_)
        refine T.cond rfl (fun c30 => ?_) (fun c30 => ?_)
        · have hne : a ≠ b := by simpa using c30
          refine T.seq ?_
          refine T.region ?_
          refine R.asE rfl (by conv => lhs; whnf) ?_
          refine TL.nil (Post.thnN ?_)
          refine T.ret (Post.blkR (Post.thnR (Post.thnR (Post.blkR (Post.thnR ?_)))))
          -- way nyy
          exact fin1 rfl rfl ⟨rfl, congrArg Value.bool (decide_eq_false (ne_of_get hx hy hne)).symm⟩
        · have heq : a = b := by simpa using c30
          refine T.skip (Post.blkN ?_)
          refine id (Post.thnN ?_)
          refine T.region ?_
          refine R.addI rfl rfl rfl (by omega) ?_
          refine R.mvE rfl (by conv => lhs; whnf) ?_
          refine TL.nil (Post.thnN ?_)
          -- round's end, way nyn
          exact ⟨k + 1, s_0, ⟨by omega, take_eq_of hw hx (by rw [hy, heq])⟩, by omega, ⟨rfl, rfl, rfl, rfl, rfl, trivial⟩⟩
      · refine T.exit (Post.thnE (Post.thnE (Post.blkX ?_)))
        refine id (Post.thnN ?_)
        refine T.seq ?_
        refine T.region ?_
        refine R.asE rfl (by conv => lhs; whnf) ?_
        refine TL.nil (Post.thnN ?_)
        refine T.ret ?_
        -- way nn
        obtain rfl : k = xs.length := by omega
        have e1 : xs = ys := by
          rw [List.take_length, show xs.length = ys.length by omega, List.take_length] at hw; exact hw
        exact fin1 rfl rfl ⟨rfl, congrArg Value.bool (decide_eq_true e1).symm⟩


set_option maxHeartbeats 1600000 in
theorem indexFR_c (H : Heap) (v fv : Value) (xs : List (List Int)) (p : List Int → Bool) (hr : RdS (slE (intE .i64)) H v xs) (hp : ∀ H', HLe H H' → ∀ u y, RdS (intE .i64) H' u y → Fv Try.prog fv [u] H' (.bool (p y))) : Fv Try.prog (fnv 55) [v, fv] H (.int .i64 (fidxI p xs)) := by
  refine Fc.of_body (N := 19) Try.func55 rfl (by kernel_rfl) rfl rfl ?_
  intro w0
  obtain ⟨A, c, rfl, hc1, hc2, hr⟩ := hr.shape
  refine T.seq ?_
  refine T.region ?_
  refine R.asE rfl (by conv => lhs; whnf) ?_
  refine TL.nil (Post.thnN ?_)
  refine T.seq ?_
  refine T.seq ?_
  refine T.region ?_
  refine R.mvE rfl (by conv => lhs; whnf) ?_
  refine R.len Try.underlying52 rfl rfl ?_
  refine R.mvE rfl (by conv => lhs; whnf) ?_
  refine TL.nil (Post.thnN ?_)
  refine T.block ?_
  refine T.loop (ι := Nat) (fun k H' L' ds' => k ≤ xs.length ∧ ∀ (j : Nat) z, j < k → xs[j]? = some z → p z = false) (fun k => [(0, .slice A xs.length c), (1, fv), (7, .int .i64 xs.length), (8, .int .i64 k)]) (fun k => xs.length - k) (0) ?_ ?_ ?_
  · exact ⟨Nat.zero_le _, fun j z h => absurd h (by omega)⟩
  · exact ⟨rfl, rfl, rfl, rfl, trivial⟩
  · intro k σ0 H_0 L_0 ds_0 s_0 hI_0
    obtain ⟨hk, hw⟩ := hI_0
    refine T.seq ?_
    refine T.region ?_
    refine R.lss rfl rfl rfl ?_
    refine TL.nil (Post.thnN ?_)
    refine T.seq ?_
    refine T.condD rfl (fun c9 => ?_) (fun c9 => ?_)
    · have hlt : k < xs.length := by omega
      obtain ⟨a, hx⟩ := getk hlt
      refine T.skip (Post.thnN ?_)
      refine T.seq ?_
      refine T.block ?_
      refine T.seq ?_
      refine T.region ?_
      refine R.mvE rfl (by conv => lhs; whnf) ?_
      refine R.asE rfl (by conv => lhs; whnf) ?_
      refine TL.nil (Post.thnN ?_)
      refine T.seq ?_
      refine T.region ?_
      refine R.mvE rfl (by conv => lhs; whnf) ?_
      refine R.mvE rfl (by conv => lhs; whnf) ?_
      refine R.mvE rfl (by conv => lhs; whnf) ?_
      obtain ⟨b14, o14, i14, e14⟩ := (hr.mono s_0).elem (hx)
      refine R.ixp Try.underlying52 Try.sizeOf23 rfl rfl rfl (by omega) i14 ?_
      obtain ⟨v15, k15, r15⟩ := (e14).sl
      obtain ⟨A15, c15, rfl, m15, n15, r15⟩ := r15.shape
      refine R.ldC Try.isAgg23 rfl rfl k15 ?_
      refine R.callv rfl rfl rfl (hp _ s_0 _ a r15) ?_
      refine TL.nil (Post.thnN ?_)
      refine T.cond rfl (fun c16 => ?_) (fun c16 => ?_)
      · refine T.seq ?_
        refine T.region ?_
        refine R.mvE rfl (by conv => lhs; whnf) ?_
        refine R.asE rfl (by conv => lhs; whnf) ?_
        refine TL.nil (Post.thnN ?_)
        refine T.ret (Post.blkR (Post.thnR (Post.thnR (Post.blkR (Post.thnR ?_)))))
        -- way yy
        exact fin1 rfl rfl ⟨rfl, congrArg (Value.int .i64) (fidxI_at (p := p) hx c16 hw).symm⟩
      · refine T.skip (Post.blkN ?_)
        refine id (Post.thnN ?_)
        refine T.region ?_
        refine R.addI rfl rfl rfl (by omega) ?_
        refine R.mvE rfl (by conv => lhs; whnf) ?_
        refine TL.nil (Post.thnN ?_)
        -- round's end, way yn
        exact ⟨k + 1, s_0, ⟨by omega, fun j z h1 h2 => if e : j = k then by subst e; rw [hx] at h2; injection h2 with h2; subst h2; exact c16 else hw j z (by omega) h2⟩, by omega, ⟨rfl, rfl, rfl, rfl, trivial⟩⟩
    · refine T.exit (Post.thnE (Post.thnE (Post.blkX ?_)))
      refine id (Post.thnN ?_)
      refine T.seq ?_
      refine T.region ?_
      refine R.asE rfl (by conv => lhs; whnf) ?_
      refine TL.nil (Post.thnN ?_)
      refine T.ret ?_
      -- way n
      exact fin1 rfl rfl ⟨rfl, congrArg (Value.int .i64) (fidxI_none (p := p) (fun j z h => hw j z (by have := (List.getElem?_eq_some_iff.1 h).1; omega) h)).symm⟩


set_option maxHeartbeats 1600000 in
theorem containsF_c (H : Heap) (v fv : Value) (xs : List Int) (p : Int → Bool) (hr : RdS (intE .i64) H v xs) (hp : PredI Try.prog fv p H) : Fv Try.prog (fnv 45) [v, fv] H (.bool (xs.any p)) := by
  refine Fc.of_body (N := 9) Try.func45 rfl (by kernel_rfl) rfl rfl ?_
  intro w0
  refine T.seq ?_
  refine T.region ?_
  refine R.asE rfl (by conv => lhs; whnf) ?_
  refine TL.nil (Post.thnN ?_)
  refine T.seq ?_
  refine T.region ?_
  refine R.mvE rfl (by conv => lhs; whnf) ?_
  refine R.mvE rfl (by conv => lhs; whnf) ?_
  refine R.callv rfl rfl rfl (indexF_c _ _ _ _ p hr hp) ?_
  refine R.geq rfl rfl rfl ?_
  refine R.asE rfl (by conv => lhs; whnf) ?_
  refine TL.nil (Post.thnN ?_)
  refine T.ret ?_
  exact fin1 rfl rfl ⟨rfl, congrArg Value.bool (by rw [Bool.eq_iff_iff, decide_eq_true_eq]; exact fidxI_ge)⟩

end Go.SX
