/- HeirWays answers true, whatever the input. -/
import Derived.Test.YtkhjpgimjkofcaaHe5
set_option linter.unusedVariables false
set_option linter.unusedSimpArgs false
namespace Go.SX
open Go Go.Proofs

set_option maxHeartbeats 1600000 in
theorem heirWays_c (H : Heap) (v u : Value) (xs : List Lk) (ns : List Int) (hr : RdS pairE H v xs) (hr2 : RdS (intE .i64) H u ns) : Fv Try.prog (fnv 3) [v, u] H (.bool true) := by
  refine Fc.of_body (N := 88) Try.func3 rfl (by kernel_rfl) rfl rfl ?_
  intro w0
  obtain ⟨A, c, rfl, hc1, hc2, hr⟩ := hr.shape
  obtain ⟨A2, c2, rfl, hc3, hc4, hr2⟩ := hr2.shape
  obtain ⟨fx, hfx⟩ : ∃ l, l = xs.take 24 := ⟨_, rfl⟩
  have hfl : fx.length ≤ 1000 := by rw [hfx]; simp; omega
  obtain ⟨fn, hfn⟩ : ∃ l, l = ns.take 8 := ⟨_, rfl⟩
  refine T.seq ?_
  refine T.region ?_
  refine R.asE rfl (by conv => lhs; whnf) ?_
  refine TL.nil (Post.thnN ?_)
  refine T.seq ?_
  refine T.seq ?_
  refine T.region ?_
  refine R.callv rfl rfl rfl (wakes18_c _) ?_
  refine R.not rfl rfl ?_
  refine TL.nil (Post.thnN ?_)
  refine T.condN rfl ?_
  refine T.skip (Post.thnN ?_)
  refine T.seq ?_
  refine T.region ?_
  refine R.mvE rfl (by conv => lhs; whnf) ?_
  refine TL.call [] rfl rfl rfl (own18_c _ _ _ hr) ?_
  intro v23 H23 L23 s23 q23
  obtain ⟨c23, rfl, w23⟩ := q23
  rw [← hfx] at w23
  refine TL.shut .hd ?_
  intro HF23 sF23 qF23
  have f23 := w23.read sF23 qF23
  obtain ⟨AF23, pF23, rfl, mF23, nF23, f23⟩ := f23.shape
  refine R.mvE rfl (by conv => lhs; whnf) ?_
  refine TL.call [] rfl rfl rfl (few18_c _ _ _ (hr2.mono (s23.trans sF23))) ?_
  intro v25 H25 L25 s25 q25
  obtain ⟨c25, rfl, w25⟩ := q25
  rw [← hfn] at w25
  refine TL.shut .hd ?_
  intro HF25 sF25 qF25
  have f25 := w25.read sF25 qF25
  obtain ⟨AF25, pF25, rfl, mF25, nF25, f25⟩ := f25.shape
  refine R.asE rfl (by conv => lhs; whnf) ?_
  refine R.asE rfl (by conv => lhs; whnf) ?_
  refine TL.nil (Post.thnN ?_)
  refine T.seq ?_
  refine T.region ?_
  refine R.mvE rfl (by conv => lhs; whnf) ?_
  refine R.callv rfl rfl rfl (rright_c _ _ _ (f23.mono (s25.trans sF25))) ?_
  refine R.asE rfl (by conv => lhs; whnf) ?_
  refine TL.nil (Post.thnN ?_)
  refine T.seq ?_
  refine T.seq ?_
  refine T.region ?_
  refine R.mvE rfl (by conv => lhs; whnf) ?_
  refine R.len Try.underlying23 rfl rfl ?_
  refine R.mvE rfl (by conv => lhs; whnf) ?_
  refine TL.nil (Post.thnN ?_)
  refine T.block ?_
  refine T.loop (ι := Nat) (fun k H' L' ds' => k ≤ fn.length ∧ L' = [] ∧ ds' = []) (fun k => [(0, .slice A xs.length c), (5, .slice AF23 fx.length pF23), (6, .slice AF25 fn.length pF25), (7, .bool (chainB fx)), (28, .slice AF25 fn.length pF25), (29, .int .i64 fn.length), (30, .int .i64 k)]) (fun k => fn.length - k) (0) ?_ ?_ ?_
  · exact ⟨Nat.zero_le _, rfl, rfl⟩
  · exact ⟨rfl, rfl, rfl, rfl, rfl, rfl, rfl, trivial⟩
  · intro k σ0 H_0 L_0 ds_0 s_0 hI_0
    obtain ⟨hk, rfl, rfl⟩ := hI_0
    refine T.seq ?_
    refine T.region ?_
    refine R.lss rfl rfl rfl ?_
    refine TL.nil (Post.thnN ?_)
    refine T.seq ?_
    refine T.condD rfl (fun c31 => ?_) (fun c31 => ?_)
    · have hlt : k < fn.length := by omega
      obtain ⟨y, hy⟩ := getk hlt
      refine T.skip (Post.thnN ?_)
      refine T.seq ?_
      refine T.block ?_
      refine T.seq ?_
      refine T.region ?_
      obtain ⟨b32, o32, i32, e32⟩ := (f25.mono s_0).elem (hy)
      refine R.ixp Try.underlying23 Try.sizeOf3 rfl rfl rfl (by omega) i32 ?_
      refine R.ldC Try.isAgg3 rfl rfl (e32).int ?_
      refine R.asE rfl (by conv => lhs; whnf) ?_
      refine TL.nil (Post.thnN ?_)
      refine T.seq ?_
      refine T.region ?_
      refine R.mvE rfl (by conv => lhs; whnf) ?_
      refine R.mvE rfl (by conv => lhs; whnf) ?_
      refine R.callp rfl rfl rfl (order_c _ _ fx y ((f23.mono (s25.trans sF25)).mono s_0) hfl) ?_
      intro v37 H37 s37 q37
      obtain ⟨w37, rfl, g37⟩ := q37
      refine R.mvE rfl (by conv => lhs; whnf) ?_
      refine R.ext rfl rfl rfl ?_
      refine R.ext rfl rfl rfl ?_
      refine R.asE rfl (by conv => lhs; whnf) ?_
      refine R.asE rfl (by conv => lhs; whnf) ?_
      refine TL.nil (Post.thnN ?_)
      refine T.seq ?_
      refine T.region ?_
      refine R.asE rfl (by conv => lhs; whnf) ?_
      refine TL.nil (Post.thnN ?_)
      refine T.seq ?_
      refine T.region ?_
      refine R.asE rfl (by conv => lhs; whnf) ?_
      refine TL.nil (Post.thnN ?_)
      refine T.seq ?_
      refine T.seq ?_
      refine T.region ?_
      refine R.mvE rfl (by conv => lhs; whnf) ?_
      refine TL.nil (Post.thnN ?_)
      refine T.cond rfl (fun c40 => ?_) (fun c40 => ?_)
      · refine T.region ?_
        refine R.mvE rfl (by conv => lhs; whnf) ?_
        refine R.mvE rfl (by conv => lhs; whnf) ?_
        refine R.callp rfl rfl rfl (order18_c _ _ fx y ((f23.mono (s25.trans sF25)).mono (s_0.trans s37)) hfl) ?_
        intro v43 H43 s43 q43
        refine R.asE rfl (by conv => lhs; whnf) ?_
        refine R.asE rfl (by conv => lhs; whnf) ?_
        refine TL.nil (Post.thnN ?_)
        refine T.seq ?_
        refine T.seq ?_
        refine T.region ?_
        refine R.mvE rfl (by conv => lhs; whnf) ?_
        refine R.mvE rfl (by conv => lhs; whnf) ?_
        refine R.neq rfl rfl rfl ?_
        refine R.mvE rfl (by conv => lhs; whnf) ?_
        refine TL.set 47 (.bool false) (congrArg Value.bool (by simp [c40])) ?_
        refine R.mvE rfl (by conv => lhs; whnf) ?_
        refine R.mvE rfl (by conv => lhs; whnf) ?_
        refine R.callv rfl rfl rfl (equalI23_c _ _ _ _ _ (g37.mono s43) q43) ?_
        refine R.not rfl rfl ?_
        refine R.pkFE rfl rfl (by conv => lhs; whnf) ?_
        refine TL.nil (Post.thnN ?_)
        refine T.set 52 (.bool false) (congrArg Value.bool (by simp [c40])) ?_
        refine T.condN rfl ?_
        refine T.skip (Post.thnN ?_)
        refine T.seq ?_
        refine T.region ?_
        refine R.mvE rfl (by conv => lhs; whnf) ?_
        refine R.len Try.underlying23 rfl rfl ?_
        refine R.mvE rfl (by conv => lhs; whnf) ?_
        refine TL.nil (Post.thnN ?_)
        refine T.block ?_
        refine T.loop (ι := Nat) (fun j H' L' ds' => j ≤ fn.length ∧ L' = [] ∧ ds' = []) (fun j => [(0, .slice A xs.length c), (5, .slice AF23 fx.length pF23), (6, .slice AF25 fn.length pF25), (7, .bool (chainB fx)), (9, .int .i64 y), (28, .slice AF25 fn.length pF25), (29, .int .i64 fn.length), (30, .int .i64 k), (53, .slice AF25 fn.length pF25), (54, .int .i64 fn.length), (55, .int .i64 j)]) (fun j => fn.length - j) (0) ?_ ?_ ?_
        · exact ⟨Nat.zero_le _, rfl, rfl⟩
        · exact ⟨rfl, rfl, rfl, rfl, rfl, rfl, rfl, rfl, rfl, rfl, rfl, trivial⟩
        · intro j σ1 H_1 L_1 ds_1 s_1 hI_1
          obtain ⟨hj, rfl, rfl⟩ := hI_1
          refine T.seq ?_
          refine T.region ?_
          refine R.lss rfl rfl rfl ?_
          refine TL.nil (Post.thnN ?_)
          refine T.seq ?_
          refine T.condD rfl (fun c56 => ?_) (fun c56 => ?_)
          · have hlt2 : j < fn.length := by omega
            obtain ⟨z, hz⟩ := getk hlt2
            refine T.skip (Post.thnN ?_)
            refine T.seq ?_
            refine T.block ?_
            refine T.seq ?_
            refine T.region ?_
            obtain ⟨b57, o57, i57, e57⟩ := (f25.mono ((s_0.trans (s37.trans s43)).trans s_1)).elem (hz)
            refine R.ixp Try.underlying23 Try.sizeOf3 rfl rfl rfl (by omega) i57 ?_
            refine R.ldC Try.isAgg3 rfl rfl (e57).int ?_
            refine R.asE rfl (by conv => lhs; whnf) ?_
            refine TL.nil (Post.thnN ?_)
            refine T.seq ?_
            refine T.region ?_
            refine R.mvE rfl (by conv => lhs; whnf) ?_
            refine R.mvE rfl (by conv => lhs; whnf) ?_
            refine R.mvE rfl (by conv => lhs; whnf) ?_
            refine R.callp rfl rfl rfl (way_c _ _ fx y ((f23.mono (s25.trans sF25)).mono ((s_0.trans (s37.trans s43)).trans s_1)) hfl z) ?_
            intro v63 H63 s63 q63
            obtain ⟨w63, rfl, g63⟩ := q63
            refine R.mvE rfl (by conv => lhs; whnf) ?_
            refine R.ext rfl rfl rfl ?_
            refine R.ext rfl rfl rfl ?_
            refine R.asE rfl (by conv => lhs; whnf) ?_
            refine R.asE rfl (by conv => lhs; whnf) ?_
            refine TL.nil (Post.thnN ?_)
            refine T.seq ?_
            refine T.region ?_
            refine R.asE rfl (by conv => lhs; whnf) ?_
            refine TL.nil (Post.thnN ?_)
            refine T.seq ?_
            refine T.region ?_
            refine R.asE rfl (by conv => lhs; whnf) ?_
            refine TL.nil (Post.thnN ?_)
            refine T.seq ?_
            refine T.seq ?_
            refine T.region ?_
            refine R.mvE rfl (by conv => lhs; whnf) ?_
            refine TL.nil (Post.thnN ?_)
            refine T.set 66 (.bool true) (congrArg Value.bool (c40)) ?_
            refine T.condY rfl ?_
            refine T.seq ?_
            refine T.region ?_
            refine R.mvE rfl (by conv => lhs; whnf) ?_
            refine R.mvE rfl (by conv => lhs; whnf) ?_
            refine R.mvE rfl (by conv => lhs; whnf) ?_
            refine R.callp rfl rfl rfl (way18_c _ _ fx y ((f23.mono (s25.trans sF25)).mono (((s_0.trans (s37.trans s43)).trans s_1).trans s63)) hfl z) ?_
            intro v70 H70 s70 q70
            obtain ⟨q70, z70⟩ := q70
            obtain ⟨A70, p70, rfl, m70, n70, q70⟩ := q70.shape
            refine R.asE rfl (by conv => lhs; whnf) ?_
            refine R.asE rfl (by conv => lhs; whnf) ?_
            refine TL.nil (Post.thnN ?_)
            refine T.seq ?_
            refine T.region ?_
            refine R.mvE rfl (by conv => lhs; whnf) ?_
            refine R.nilS Try.underlying23 rfl rfl rfl ?_
            refine TL.set 72 (.bool (decide (wayR fx y z = []))) (congrArg Value.bool (isNone_of q70 z70)) ?_
            refine TL.nil (Post.thnN ?_)
            refine T.condD rfl (fun c72 => ?_) (fun c72 => ?_)
            · refine T.region ?_
              refine R.asE rfl (by conv => lhs; whnf) ?_
              refine TL.nil (Post.thnN ?_)
              refine T.seq ?_
              refine T.region ?_
              refine R.mvE rfl (by conv => lhs; whnf) ?_
              refine R.mvE rfl (by conv => lhs; whnf) ?_
              refine R.neq rfl rfl rfl ?_
              refine R.mvE rfl (by conv => lhs; whnf) ?_
              refine TL.set 76 (.bool false) (congrArg Value.bool (by simp [way_tell, c40, tellW, c72])) ?_
              refine R.mvE rfl (by conv => lhs; whnf) ?_
              refine R.mvE rfl (by conv => lhs; whnf) ?_
              refine R.callv rfl rfl rfl (equalI23_c _ _ _ _ _ (g63.mono s70) q70) ?_
              refine R.not rfl rfl ?_
              refine R.pkFE rfl rfl (by conv => lhs; whnf) ?_
              refine TL.nil (Post.thnN ?_)
              refine T.set 81 (.bool false) (congrArg Value.bool (by simp [way_tell, c40, tellW, c72])) ?_
              refine T.condN rfl ?_
              refine T.skip (Post.blkN ?_)
              refine id (Post.thnN ?_)
              refine T.region ?_
              refine R.addI rfl rfl rfl (by omega) ?_
              refine R.mvE rfl (by conv => lhs; whnf) ?_
              refine TL.nil (Post.thnN ?_)
              -- round's end, way yyyy
              exact ⟨j + 1, s_1.trans (s63.trans s70), ⟨by omega, rfl, rfl⟩, by omega, ⟨rfl, rfl, rfl, rfl, rfl, rfl, rfl, rfl, rfl, rfl, rfl, trivial⟩⟩
            · refine T.skip (Post.thnN ?_)
              refine T.seq ?_
              refine T.region ?_
              refine R.mvE rfl (by conv => lhs; whnf) ?_
              refine R.mvE rfl (by conv => lhs; whnf) ?_
              refine R.neq rfl rfl rfl ?_
              refine R.mvE rfl (by conv => lhs; whnf) ?_
              refine TL.set 76 (.bool false) (congrArg Value.bool (by simp [way_tell, c40, tellW, c72])) ?_
              refine R.mvE rfl (by conv => lhs; whnf) ?_
              refine R.mvE rfl (by conv => lhs; whnf) ?_
              refine R.callv rfl rfl rfl (equalI23_c _ _ _ _ _ (g63.mono s70) q70) ?_
              refine R.not rfl rfl ?_
              refine R.pkFE rfl rfl (by conv => lhs; whnf) ?_
              refine TL.nil (Post.thnN ?_)
              refine T.set 81 (.bool false) (congrArg Value.bool (by simp [way_tell, c40, tellW, c72])) ?_
              refine T.condN rfl ?_
              refine T.skip (Post.blkN ?_)
              refine id (Post.thnN ?_)
              refine T.region ?_
              refine R.addI rfl rfl rfl (by omega) ?_
              refine R.mvE rfl (by conv => lhs; whnf) ?_
              refine TL.nil (Post.thnN ?_)
              -- round's end, way yyyn
              exact ⟨j + 1, s_1.trans (s63.trans s70), ⟨by omega, rfl, rfl⟩, by omega, ⟨rfl, rfl, rfl, rfl, rfl, rfl, rfl, rfl, rfl, rfl, rfl, trivial⟩⟩
          · refine T.exit (Post.thnE (Post.thnE (Post.blkX ?_)))
            refine id (Post.blkN ?_)
            refine id (Post.thnN ?_)
            refine T.region ?_
            refine R.addI rfl rfl rfl (by omega) ?_
            refine R.mvE rfl (by conv => lhs; whnf) ?_
            refine TL.nil (Post.thnN ?_)
            -- round's end, way yyn
            exact ⟨k + 1, ((s_0.trans (s37.trans s43)).trans s_1), ⟨by omega, rfl, rfl⟩, by omega, ⟨rfl, rfl, rfl, rfl, rfl, rfl, rfl, trivial⟩⟩
      · refine T.skip (Post.thnN ?_)
        refine T.seq ?_
        refine T.seq ?_
        refine T.region ?_
        refine R.mvE rfl (by conv => lhs; whnf) ?_
        refine R.mvE rfl (by conv => lhs; whnf) ?_
        refine R.neq rfl rfl rfl ?_
        refine R.mvE rfl (by conv => lhs; whnf) ?_
        refine TL.set 47 (.bool false) (congrArg Value.bool (by simp [c40])) ?_
        refine R.mvE rfl (by conv => lhs; whnf) ?_
        refine R.mvE rfl (by conv => lhs; whnf) ?_
        refine R.callv rfl rfl rfl (equalI23_c _ _ _ _ _ g37 RdS.nil) ?_
        refine R.not rfl rfl ?_
        refine R.pkFE rfl rfl (by conv => lhs; whnf) ?_
        refine TL.nil (Post.thnN ?_)
        refine T.set 52 (.bool false) (congrArg Value.bool (by simp [c40])) ?_
        refine T.condN rfl ?_
        refine T.skip (Post.thnN ?_)
        refine T.seq ?_
        refine T.region ?_
        refine R.mvE rfl (by conv => lhs; whnf) ?_
        refine R.len Try.underlying23 rfl rfl ?_
        refine R.mvE rfl (by conv => lhs; whnf) ?_
        refine TL.nil (Post.thnN ?_)
        refine T.block ?_
        refine T.loop (ι := Nat) (fun j H' L' ds' => j ≤ fn.length ∧ L' = [] ∧ ds' = []) (fun j => [(0, .slice A xs.length c), (5, .slice AF23 fx.length pF23), (6, .slice AF25 fn.length pF25), (7, .bool (chainB fx)), (9, .int .i64 y), (28, .slice AF25 fn.length pF25), (29, .int .i64 fn.length), (30, .int .i64 k), (53, .slice AF25 fn.length pF25), (54, .int .i64 fn.length), (55, .int .i64 j)]) (fun j => fn.length - j) (0) ?_ ?_ ?_
        · exact ⟨Nat.zero_le _, rfl, rfl⟩
        · exact ⟨rfl, rfl, rfl, rfl, rfl, rfl, rfl, rfl, rfl, rfl, rfl, trivial⟩
        · intro j σ2 H_2 L_2 ds_2 s_2 hI_2
          obtain ⟨hj, rfl, rfl⟩ := hI_2
          refine T.seq ?_
          refine T.region ?_
          refine R.lss rfl rfl rfl ?_
          refine TL.nil (Post.thnN ?_)
          refine T.seq ?_
          refine T.condD rfl (fun c56 => ?_) (fun c56 => ?_)
          · have hlt2 : j < fn.length := by omega
            obtain ⟨z, hz⟩ := getk hlt2
            refine T.skip (Post.thnN ?_)
            refine T.seq ?_
            refine T.block ?_
            refine T.seq ?_
            refine T.region ?_
            obtain ⟨b57, o57, i57, e57⟩ := (f25.mono ((s_0.trans s37).trans s_2)).elem (hz)
            refine R.ixp Try.underlying23 Try.sizeOf3 rfl rfl rfl (by omega) i57 ?_
            refine R.ldC Try.isAgg3 rfl rfl (e57).int ?_
            refine R.asE rfl (by conv => lhs; whnf) ?_
            refine TL.nil (Post.thnN ?_)
            refine T.seq ?_
            refine T.region ?_
            refine R.mvE rfl (by conv => lhs; whnf) ?_
            refine R.mvE rfl (by conv => lhs; whnf) ?_
            refine R.mvE rfl (by conv => lhs; whnf) ?_
            refine R.callp rfl rfl rfl (way_c _ _ fx y ((f23.mono (s25.trans sF25)).mono ((s_0.trans s37).trans s_2)) hfl z) ?_
            intro v63 H63 s63 q63
            obtain ⟨w63, rfl, g63⟩ := q63
            refine R.mvE rfl (by conv => lhs; whnf) ?_
            refine R.ext rfl rfl rfl ?_
            refine R.ext rfl rfl rfl ?_
            refine R.asE rfl (by conv => lhs; whnf) ?_
            refine R.asE rfl (by conv => lhs; whnf) ?_
            refine TL.nil (Post.thnN ?_)
            refine T.seq ?_
            refine T.region ?_
            refine R.asE rfl (by conv => lhs; whnf) ?_
            refine TL.nil (Post.thnN ?_)
            refine T.seq ?_
            refine T.region ?_
            refine R.asE rfl (by conv => lhs; whnf) ?_
            refine TL.nil (Post.thnN ?_)
            refine T.seq ?_
            refine T.seq ?_
            refine T.region ?_
            refine R.mvE rfl (by conv => lhs; whnf) ?_
            refine TL.nil (Post.thnN ?_)
            refine T.set 66 (.bool false) (congrArg Value.bool (c40)) ?_
            refine T.condN rfl ?_
            refine T.skip (Post.thnN ?_)
            refine T.seq ?_
            refine T.region ?_
            refine R.mvE rfl (by conv => lhs; whnf) ?_
            refine R.mvE rfl (by conv => lhs; whnf) ?_
            refine R.neq rfl rfl rfl ?_
            refine R.mvE rfl (by conv => lhs; whnf) ?_
            refine TL.set 76 (.bool false) (congrArg Value.bool (by simp [way_tell, c40, tellW])) ?_
            refine R.mvE rfl (by conv => lhs; whnf) ?_
            refine R.mvE rfl (by conv => lhs; whnf) ?_
            refine R.callv rfl rfl rfl (equalI23_c _ _ _ _ _ g63 RdS.nil) ?_
            refine R.not rfl rfl ?_
            refine R.pkFE rfl rfl (by conv => lhs; whnf) ?_
            refine TL.nil (Post.thnN ?_)
            refine T.set 81 (.bool false) (congrArg Value.bool (by simp [way_tell, c40, tellW])) ?_
            refine T.condN rfl ?_
            refine T.skip (Post.blkN ?_)
            refine id (Post.thnN ?_)
            refine T.region ?_
            refine R.addI rfl rfl rfl (by omega) ?_
            refine R.mvE rfl (by conv => lhs; whnf) ?_
            refine TL.nil (Post.thnN ?_)
            -- round's end, way yny
            exact ⟨j + 1, s_2.trans s63, ⟨by omega, rfl, rfl⟩, by omega, ⟨rfl, rfl, rfl, rfl, rfl, rfl, rfl, rfl, rfl, rfl, rfl, trivial⟩⟩
          · refine T.exit (Post.thnE (Post.thnE (Post.blkX ?_)))
            refine id (Post.blkN ?_)
            refine id (Post.thnN ?_)
            refine T.region ?_
            refine R.addI rfl rfl rfl (by omega) ?_
            refine R.mvE rfl (by conv => lhs; whnf) ?_
            refine TL.nil (Post.thnN ?_)
            -- round's end, way ynn
            exact ⟨k + 1, ((s_0.trans s37).trans s_2), ⟨by omega, rfl, rfl⟩, by omega, ⟨rfl, rfl, rfl, rfl, rfl, rfl, rfl, trivial⟩⟩
    · refine T.exit (Post.thnE (Post.thnE (Post.blkX ?_)))
      refine id (Post.thnN ?_)
      refine T.seq ?_
      refine T.region ?_
      refine R.mvE rfl (by conv => lhs; whnf) ?_
      refine R.mvE rfl (by conv => lhs; whnf) ?_
      refine TL.call [] rfl rfl rfl (own18_c _ _ _ (hr.mono (s23.trans (sF23.trans (s25.trans (sF25.trans s_0)))))) ?_
      intro v86 H86 L86 s86 q86
      obtain ⟨c86, rfl, w86⟩ := q86
      rw [← hfx] at w86
      refine TL.shut .hd ?_
      intro HF86 sF86 qF86
      have f86 := w86.read sF86 qF86
      obtain ⟨AF86, pF86, rfl, mF86, nF86, f86⟩ := f86.shape
      refine R.callv rfl rfl rfl (equalP_c _ _ _ _ _ ((f23.mono (s25.trans sF25)).mono (s_0.trans (s86.trans sF86))) f86) ?_
      refine R.asE rfl (by conv => lhs; whnf) ?_
      refine TL.nil (Post.thnN ?_)
      refine T.ret ?_
      -- way n
      exact fin1 rfl rfl ⟨rfl, congrArg Value.bool (decide_eq_true rfl)⟩

end Go.SX
