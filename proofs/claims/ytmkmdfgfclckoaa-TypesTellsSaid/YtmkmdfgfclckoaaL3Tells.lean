/- TypesTells answers true, whatever the input. -/
import Derived.Test.YtmkmdfgfclckoaaL31
set_option linter.unusedVariables false
set_option linter.unusedSimpArgs false
namespace Go.SX
open Go Go.Proofs

set_option maxHeartbeats 1600000 in
theorem tells_c (H : Heap) (v u z : Value) (xs ids ns : List Int) (hr : RdS (intE .u64) H v xs) (hr2 : RdS (intE .u64) H u ids) (hr3 : RdS (intE .i64) H z ns) (hU : Us xs) (hU2 : Us ids) : Fv Try.prog (fnv 3) [v, u, z] H (.bool true) := by
  refine Fc.of_body (N := 89) Try.func3 rfl (by kernel_rfl) rfl rfl ?_
  intro w0
  obtain ⟨A, c, rfl, hc1, hc2, hr⟩ := hr.shape
  obtain ⟨A2, c2, rfl, hc3, hc4, hr2⟩ := hr2.shape
  obtain ⟨A3, c3, rfl, hc5, hc6, hr3⟩ := hr3.shape
  obtain ⟨fx, hfx⟩ : ∃ l, l = xs.take 20 := ⟨_, rfl⟩
  have hfU : Us fx := by rw [hfx]; exact few_us hU
  have hfl : fx.length ≤ 1000 := by rw [hfx]; simp; omega
  refine T.seq ?_
  refine T.region ?_
  refine R.asE rfl (by conv => lhs; whnf) ?_
  refine TL.nil (Post.thnN ?_)
  refine T.seq ?_
  refine T.seq ?_
  refine T.region ?_
  refine R.callv rfl rfl rfl (wakes_c _) ?_
  refine R.not rfl rfl ?_
  refine TL.nil (Post.thnN ?_)
  refine T.condN rfl ?_
  refine T.skip (Post.thnN ?_)
  refine T.seq ?_
  refine T.region ?_
  refine R.mvE rfl (by conv => lhs; whnf) ?_
  refine TL.call [] rfl rfl rfl (few_c _ _ _ hr) ?_
  intro v19 H19 L19 s19 q19
  obtain ⟨c19, rfl, w19⟩ := q19
  refine TL.shut .hd ?_
  intro HF19 sF19 qF19
  rw [← hfx] at w19
  have f19 := w19.read sF19 qF19
  obtain ⟨AF19, pF19, rfl, mF19, nF19, f19⟩ := f19.shape
  refine R.asE rfl (by conv => lhs; whnf) ?_
  refine TL.nil (Post.thnN ?_)
  refine T.seq ?_
  refine T.region ?_
  refine R.mvE rfl (by conv => lhs; whnf) ?_
  refine R.callv rfl rfl rfl (rright_c _ _ _ f19 hfU) ?_
  refine R.asE rfl (by conv => lhs; whnf) ?_
  refine TL.nil (Post.thnN ?_)
  refine T.cut (ι := Unit) (fun _ H' L' ds' => L' = [] ∧ ds' = []) (fun _ => [(0, .slice A xs.length c), (2, .slice A3 ns.length c3), (7, .slice AF19 fx.length pF19), (8, .bool (typeB fx))]) ?_ ?_
  · refine T.seq ?_
    refine T.region ?_
    refine R.mvE rfl (by conv => lhs; whnf) ?_
    refine R.len Try.underlying22 rfl rfl ?_
    refine R.mvE rfl (by conv => lhs; whnf) ?_
    refine TL.nil (Post.thnN ?_)
    refine T.block ?_
    refine T.loop (ι := Nat) (fun k H' L' ds' => k ≤ ids.length ∧ L' = [] ∧ ds' = []) (fun k => [(0, .slice A xs.length c), (2, .slice A3 ns.length c3), (7, .slice AF19 fx.length pF19), (8, .bool (typeB fx)), (22, .slice A2 ids.length c2), (23, .int .i64 ids.length), (24, .int .i64 k)]) (fun k => ids.length - k) (0) ?_ ?_ ?_
    · exact ⟨Nat.zero_le _, rfl, rfl⟩
    · exact ⟨rfl, rfl, rfl, rfl, rfl, rfl, rfl, trivial⟩
    · intro k σ0 H_0 L_0 ds_0 s_0 hI_0
      obtain ⟨hk, rfl, rfl⟩ := hI_0
      refine T.seq ?_
      refine T.region ?_
      refine R.lss rfl rfl rfl ?_
      refine TL.nil (Post.thnN ?_)
      refine T.seq ?_
      refine T.condD rfl (fun c25 => ?_) (fun c25 => ?_)
      · have hlt : k < ids.length := by omega
        obtain ⟨y, hy⟩ := getk hlt
        have hyU := hU2 y (List.mem_of_getElem? hy)
        refine T.skip (Post.thnN ?_)
        refine T.seq ?_
        refine T.block ?_
        refine T.seq ?_
        refine T.region ?_
        refine R.mvE rfl (by conv => lhs; whnf) ?_
        obtain ⟨b27, o27, i27, e27⟩ := (hr2.mono (s19.trans (sF19.trans s_0))).elem (hy)
        refine R.ixp Try.underlying22 Try.sizeOf28 rfl rfl rfl (by omega) i27 ?_
        refine R.ldC Try.isAgg28 rfl rfl (e27).int ?_
        refine R.asE rfl (by conv => lhs; whnf) ?_
        refine R.asE rfl (by conv => lhs; whnf) ?_
        refine TL.nil (Post.thnN ?_)
        refine T.seq ?_
        refine T.seq ?_
        refine T.region ?_
        refine R.mvE rfl (by conv => lhs; whnf) ?_
        refine R.eql rfl rfl rfl ?_
        refine TL.nil (Post.thnN ?_)
        refine T.condD rfl (fun c30 => ?_) (fun c30 => ?_)
        · refine T.exit (Post.thnE (Post.blkE rfl (Post.thnE (Post.thnE (Post.blkX ?_)))))
          refine id (Post.thnN ?_)
          -- cut b0, way yy
          exact ⟨(), s_0, ⟨rfl, rfl⟩, rfl, rfl, rfl, rfl, trivial⟩
        · refine T.skip (Post.thnN ?_)
          refine T.seq ?_
          refine T.region ?_
          refine R.asE rfl (by conv => lhs; whnf) ?_
          refine TL.nil (Post.thnN ?_)
          refine T.seq ?_
          refine T.seq ?_
          refine T.region ?_
          refine R.mvE rfl (by conv => lhs; whnf) ?_
          refine TL.nil (Post.thnN ?_)
          refine T.cond rfl (fun c31 => ?_) (fun c31 => ?_)
          · refine T.region ?_
            refine R.mvE rfl (by conv => lhs; whnf) ?_
            refine R.mvE rfl (by conv => lhs; whnf) ?_
            refine R.callp rfl rfl rfl (rtaken_c _ _ _ _ (f19.mono s_0) hfU hfl hyU) ?_
            intro v34 H34 s34 q34
            refine R.asE rfl (by conv => lhs; whnf) ?_
            refine TL.nil (Post.thnN ?_)
            refine T.seq ?_
            refine T.region ?_
            refine R.mvE rfl (by conv => lhs; whnf) ?_
            refine R.mvE rfl (by conv => lhs; whnf) ?_
            refine R.callv rfl rfl rfl (Has_c _ _ _ _ (f19.mono (s_0.trans s34)) hfU hfl) ?_
            refine R.mvE rfl (by conv => lhs; whnf) ?_
            refine R.mvE rfl (by conv => lhs; whnf) ?_
            refine TL.set 39 (.bool true) (congrArg Value.bool c31) ?_
            refine R.mvE rfl (by conv => lhs; whnf) ?_
            refine R.mvE rfl (by conv => lhs; whnf) ?_
            refine R.callv rfl rfl rfl (rhas_c _ _ _ _ (f19.mono (s_0.trans s34))) ?_
            refine R.pkTE rfl rfl (by conv => lhs; whnf) ?_
            refine R.neqB Try.underlying4 rfl rfl rfl ?_
            refine R.mvE rfl (by conv => lhs; whnf) ?_
            refine TL.set 45 (.bool false) (congrArg Value.bool (has_law c31)) ?_
            refine R.mvE rfl (by conv => lhs; whnf) ?_
            refine R.mvE rfl (by conv => lhs; whnf) ?_
            refine R.callp rfl rfl rfl (Taken_c _ _ _ _ (f19.mono (s_0.trans s34)) hfU hfl hyU) ?_
            intro v48 H48 s48 q48
            refine R.mvE rfl (by conv => lhs; whnf) ?_
            refine R.callv rfl rfl rfl (equalU22_c _ _ _ _ _ q48 (q34.mono s48)) ?_
            refine R.not rfl rfl ?_
            refine R.pkFE rfl rfl (by conv => lhs; whnf) ?_
            refine TL.nil (Post.thnN ?_)
            refine T.set 52 (.bool false) (congrArg Value.bool (by rw [decide_eq_true (taken_law c31)]; rfl)) ?_
            refine T.condN rfl ?_
            refine T.skip (Post.blkN ?_)
            refine id (Post.thnN ?_)
            refine T.region ?_
            refine R.addI rfl rfl rfl (by omega) ?_
            refine R.mvE rfl (by conv => lhs; whnf) ?_
            refine TL.nil (Post.thnN ?_)
            -- round's end, way yny
            exact ⟨k + 1, s_0.trans (s34.trans s48), ⟨by omega, rfl, rfl⟩, by omega, ⟨rfl, rfl, rfl, rfl, rfl, rfl, rfl, trivial⟩⟩
          · refine T.skip (Post.thnN ?_)
            refine T.seq ?_
            refine T.region ?_
            refine R.mvE rfl (by conv => lhs; whnf) ?_
            refine R.mvE rfl (by conv => lhs; whnf) ?_
            refine R.callv rfl rfl rfl (Has_c _ _ _ _ (f19.mono (s_0)) hfU hfl) ?_
            refine R.mvE rfl (by conv => lhs; whnf) ?_
            refine R.mvE rfl (by conv => lhs; whnf) ?_
            refine TL.set 39 (.bool false) (congrArg Value.bool c31) ?_
            refine TL.off rfl rfl rfl ?_
            refine TL.off rfl rfl rfl ?_
            refine TL.off rfl rfl rfl ?_
            refine R.pkFE rfl rfl (by conv => lhs; whnf) ?_
            refine R.neqB Try.underlying4 rfl rfl rfl ?_
            refine R.mvE rfl (by conv => lhs; whnf) ?_
            refine TL.set 45 (.bool false) (congrArg Value.bool (has_none c31)) ?_
            refine R.mvE rfl (by conv => lhs; whnf) ?_
            refine R.mvE rfl (by conv => lhs; whnf) ?_
            refine R.callp rfl rfl rfl (Taken_c _ _ _ _ (f19.mono (s_0)) hfU hfl hyU) ?_
            intro v48 H48 s48 q48
            refine R.mvE rfl (by conv => lhs; whnf) ?_
            refine R.callv rfl rfl rfl (equalU22_c _ _ _ _ _ q48 (RdS.nil)) ?_
            refine R.not rfl rfl ?_
            refine R.pkFE rfl rfl (by conv => lhs; whnf) ?_
            refine TL.nil (Post.thnN ?_)
            refine T.set 52 (.bool false) (congrArg Value.bool (by rw [decide_eq_true (taken_none c31)]; rfl)) ?_
            refine T.condN rfl ?_
            refine T.skip (Post.blkN ?_)
            refine id (Post.thnN ?_)
            refine T.region ?_
            refine R.addI rfl rfl rfl (by omega) ?_
            refine R.mvE rfl (by conv => lhs; whnf) ?_
            refine TL.nil (Post.thnN ?_)
            -- round's end, way ynn
            exact ⟨k + 1, s_0.trans s48, ⟨by omega, rfl, rfl⟩, by omega, ⟨rfl, rfl, rfl, rfl, rfl, rfl, rfl, trivial⟩⟩
      · refine T.exit (Post.thnE (Post.thnE (Post.blkX ?_)))
        refine id (Post.thnN ?_)
        -- cut b0, way n
        exact ⟨(), s_0, ⟨rfl, rfl⟩, rfl, rfl, rfl, rfl, trivial⟩
  · intro _ σ_b0 H_b0 L_b0 ds_b0 s_b0 hI_b0
    obtain ⟨rfl, rfl⟩ := hI_b0
    refine T.cut (ι := Unit) (fun _ H' L' ds' => L' = [] ∧ ds' = []) (fun _ => [(0, .slice A xs.length c), (7, .slice AF19 fx.length pF19)]) ?_ ?_
    · refine T.seq ?_
      refine T.region ?_
      refine R.mvE rfl (by conv => lhs; whnf) ?_
      refine R.len Try.underlying23 rfl rfl ?_
      refine R.mvE rfl (by conv => lhs; whnf) ?_
      refine TL.nil (Post.thnN ?_)
      refine T.block ?_
      refine T.loop (ι := Nat) (fun k H' L' ds' => k ≤ ns.length ∧ L' = [] ∧ ds' = []) (fun k => [(0, .slice A xs.length c), (7, .slice AF19 fx.length pF19), (8, .bool (typeB fx)), (54, .slice A3 ns.length c3), (55, .int .i64 ns.length), (56, .int .i64 k)]) (fun k => ns.length - k) (0) ?_ ?_ ?_
      · exact ⟨Nat.zero_le _, rfl, rfl⟩
      · exact ⟨rfl, rfl, rfl, rfl, rfl, rfl, trivial⟩
      · intro k σ1 H_1 L_1 ds_1 s_1 hI_1
        obtain ⟨hk, rfl, rfl⟩ := hI_1
        refine T.seq ?_
        refine T.region ?_
        refine R.lss rfl rfl rfl ?_
        refine TL.nil (Post.thnN ?_)
        refine T.seq ?_
        refine T.condD rfl (fun c57 => ?_) (fun c57 => ?_)
        · have hlt : k < ns.length := by omega
          obtain ⟨y, hy⟩ := getk hlt
          refine T.skip (Post.thnN ?_)
          refine T.seq ?_
          refine T.block ?_
          refine T.seq ?_
          refine T.region ?_
          refine R.mvE rfl (by conv => lhs; whnf) ?_
          obtain ⟨b59, o59, i59, e59⟩ := (hr3.mono (s19.trans (sF19.trans (s_b0.trans s_1)))).elem (hy)
          refine R.ixp Try.underlying23 Try.sizeOf3 rfl rfl rfl (by omega) i59 ?_
          refine R.ldC Try.isAgg3 rfl rfl (e59).int ?_
          refine R.asE rfl (by conv => lhs; whnf) ?_
          refine R.asE rfl (by conv => lhs; whnf) ?_
          refine TL.nil (Post.thnN ?_)
          refine T.seq ?_
          refine T.seq ?_
          refine T.region ?_
          refine R.mvE rfl (by conv => lhs; whnf) ?_
          refine R.eql rfl rfl rfl ?_
          refine TL.nil (Post.thnN ?_)
          refine T.condD rfl (fun c62 => ?_) (fun c62 => ?_)
          · refine T.exit (Post.thnE (Post.blkE rfl (Post.thnE (Post.thnE (Post.blkX ?_)))))
            refine id (Post.thnN ?_)
            -- cut b2, way yy
            exact ⟨(), s_1, ⟨rfl, rfl⟩, rfl, rfl, trivial⟩
          · refine T.skip (Post.thnN ?_)
            refine T.seq ?_
            refine T.region ?_
            refine R.asE rfl (by conv => lhs; whnf) ?_
            refine TL.nil (Post.thnN ?_)
            refine T.seq ?_
            refine T.region ?_
            refine R.asE rfl (by conv => lhs; whnf) ?_
            refine TL.nil (Post.thnN ?_)
            refine T.seq ?_
            refine T.seq ?_
            refine T.region ?_
            refine R.mvE rfl (by conv => lhs; whnf) ?_
            refine TL.nil (Post.thnN ?_)
            refine T.cond rfl (fun c63 => ?_) (fun c63 => ?_)
            · refine T.region ?_
              refine R.mvE rfl (by conv => lhs; whnf) ?_
              refine R.mvE rfl (by conv => lhs; whnf) ?_
              refine R.callp rfl rfl rfl (rtargets_c _ _ _ _ (f19.mono (s_b0.trans s_1)) hfU hfl) ?_
              intro v66 H66 s66 q66
              refine R.mvE rfl (by conv => lhs; whnf) ?_
              refine R.mvE rfl (by conv => lhs; whnf) ?_
              refine R.callp rfl rfl rfl (rmentions_c _ _ _ _ (f19.mono ((s_b0.trans s_1).trans s66)) hfU hfl) ?_
              intro v69 H69 s69 q69
              refine R.asE rfl (by conv => lhs; whnf) ?_
              refine R.asE rfl (by conv => lhs; whnf) ?_
              refine TL.nil (Post.thnN ?_)
              refine T.seq ?_
              refine T.region ?_
              refine R.mvE rfl (by conv => lhs; whnf) ?_
              refine R.mvE rfl (by conv => lhs; whnf) ?_
              refine R.callp rfl rfl rfl (Targets_c _ _ _ _ (f19.mono ((s_b0.trans s_1).trans (s66.trans s69))) hfU hfl) ?_
              intro v72 H72 s72 q72
              refine R.mvE rfl (by conv => lhs; whnf) ?_
              refine R.callv rfl rfl rfl (equalI23_c _ _ _ _ _ q72 ((q66.mono s69).mono s72)) ?_
              refine R.not rfl rfl ?_
              refine R.mvE rfl (by conv => lhs; whnf) ?_
              refine TL.set 76 (.bool false) (congrArg Value.bool (by rw [decide_eq_true (targets_law c63)]; rfl)) ?_
              refine R.mvE rfl (by conv => lhs; whnf) ?_
              refine R.mvE rfl (by conv => lhs; whnf) ?_
              refine R.callp rfl rfl rfl (Mentions_c _ _ _ _ (f19.mono ((s_b0.trans s_1).trans ((s66.trans s69).trans s72))) hfU hfl) ?_
              intro v79 H79 s79 q79
              refine R.mvE rfl (by conv => lhs; whnf) ?_
              refine R.callv rfl rfl rfl (equalU22_c _ _ _ _ _ q79 ((q69.mono s72).mono s79)) ?_
              refine R.not rfl rfl ?_
              refine R.pkFE rfl rfl (by conv => lhs; whnf) ?_
              refine TL.nil (Post.thnN ?_)
              refine T.set 83 (.bool false) (congrArg Value.bool (by rw [decide_eq_true (taken_law c63)]; rfl)) ?_
              refine T.condN rfl ?_
              refine T.skip (Post.blkN ?_)
              refine id (Post.thnN ?_)
              refine T.region ?_
              refine R.addI rfl rfl rfl (by omega) ?_
              refine R.mvE rfl (by conv => lhs; whnf) ?_
              refine TL.nil (Post.thnN ?_)
              -- round's end, way yny
              exact ⟨k + 1, s_1.trans ((s66.trans s69).trans (s72.trans s79)), ⟨by omega, rfl, rfl⟩, by omega, ⟨rfl, rfl, rfl, rfl, rfl, rfl, trivial⟩⟩
            · refine T.skip (Post.thnN ?_)
              refine T.seq ?_
              refine T.region ?_
              refine R.mvE rfl (by conv => lhs; whnf) ?_
              refine R.mvE rfl (by conv => lhs; whnf) ?_
              refine R.callp rfl rfl rfl (Targets_c _ _ _ _ (f19.mono ((s_b0.trans s_1))) hfU hfl) ?_
              intro v72 H72 s72 q72
              refine R.mvE rfl (by conv => lhs; whnf) ?_
              refine R.callv rfl rfl rfl (equalI23_c _ _ _ _ _ q72 (RdS.nil)) ?_
              refine R.not rfl rfl ?_
              refine R.mvE rfl (by conv => lhs; whnf) ?_
              refine TL.set 76 (.bool false) (congrArg Value.bool (by rw [decide_eq_true (targets_none c63)]; rfl)) ?_
              refine R.mvE rfl (by conv => lhs; whnf) ?_
              refine R.mvE rfl (by conv => lhs; whnf) ?_
              refine R.callp rfl rfl rfl (Mentions_c _ _ _ _ (f19.mono ((s_b0.trans s_1).trans (s72))) hfU hfl) ?_
              intro v79 H79 s79 q79
              refine R.mvE rfl (by conv => lhs; whnf) ?_
              refine R.callv rfl rfl rfl (equalU22_c _ _ _ _ _ q79 (RdS.nil)) ?_
              refine R.not rfl rfl ?_
              refine R.pkFE rfl rfl (by conv => lhs; whnf) ?_
              refine TL.nil (Post.thnN ?_)
              refine T.set 83 (.bool false) (congrArg Value.bool (by rw [decide_eq_true (taken_none c63)]; rfl)) ?_
              refine T.condN rfl ?_
              refine T.skip (Post.blkN ?_)
              refine id (Post.thnN ?_)
              refine T.region ?_
              refine R.addI rfl rfl rfl (by omega) ?_
              refine R.mvE rfl (by conv => lhs; whnf) ?_
              refine TL.nil (Post.thnN ?_)
              -- round's end, way ynn
              exact ⟨k + 1, s_1.trans (s72.trans s79), ⟨by omega, rfl, rfl⟩, by omega, ⟨rfl, rfl, rfl, rfl, rfl, rfl, trivial⟩⟩
        · refine T.exit (Post.thnE (Post.thnE (Post.blkX ?_)))
          refine id (Post.thnN ?_)
          -- cut b2, way n
          exact ⟨(), s_1, ⟨rfl, rfl⟩, rfl, rfl, trivial⟩
    · intro _ σ_b2 H_b2 L_b2 ds_b2 s_b2 hI_b2
      obtain ⟨rfl, rfl⟩ := hI_b2
      refine T.seq ?_
      refine T.region ?_
      refine R.mvE rfl (by conv => lhs; whnf) ?_
      refine R.mvE rfl (by conv => lhs; whnf) ?_
      refine TL.call [] rfl rfl rfl (few_c _ _ _ (hr.mono (s19.trans (sF19.trans (s_b0.trans s_b2))))) ?_
      intro v87 H87 L87 s87 q87
      obtain ⟨c87, rfl, w87⟩ := q87
      refine TL.shut .hd ?_
      intro HF87 sF87 qF87
      have f87 := w87.read sF87 qF87
      obtain ⟨AF87, pF87, rfl, mF87, nF87, f87⟩ := f87.shape
      refine R.callv rfl rfl rfl (equalU22_c _ _ _ _ _ (f19.mono ((s_b0.trans s_b2).trans (s87.trans sF87))) f87) ?_
      refine R.asE rfl (by conv => lhs; whnf) ?_
      refine TL.nil (Post.thnN ?_)
      refine T.ret ?_
      exact fin1 rfl rfl ⟨rfl, congrArg Value.bool (decide_eq_true hfx)⟩

end Go.SX
