/- HeirOwners answers true, whatever the input. -/
import Derived.Test.YtkhjpgimjkofcaaHe5
set_option linter.unusedVariables false
set_option linter.unusedSimpArgs false
namespace Go.SX
open Go Go.Proofs

set_option maxHeartbeats 1600000 in
theorem heirOwners_c (H : Heap) (v u z : Value) (xs : List Lk) (ns os : List Int) (hr : RdS pairE H v xs) (hr2 : RdS (intE .i64) H u ns) (hr3 : RdS (intE .i64) H z os) : Fv Try.prog (fnv 4) [v, u, z] H (.bool true) := by
  refine Fc.of_body (N := 107) Try.func4 rfl (by kernel_rfl) rfl rfl ?_
  intro w0
  obtain ⟨A, c, rfl, hc1, hc2, hr⟩ := hr.shape
  obtain ⟨A2, c2, rfl, hc3, hc4, hr2⟩ := hr2.shape
  obtain ⟨A3, c3, rfl, hc5, hc6, hr3⟩ := hr3.shape
  obtain ⟨fx, hfx⟩ : ∃ l, l = xs.take 24 := ⟨_, rfl⟩
  have hfl : fx.length ≤ 1000 := by rw [hfx]; simp; omega
  obtain ⟨fn, hfn⟩ : ∃ l, l = ns.take 8 := ⟨_, rfl⟩
  obtain ⟨fo, hfo⟩ : ∃ l, l = os.take 8 := ⟨_, rfl⟩
  refine T.seq ?_
  refine T.region ?_
  refine R.asE rfl (by conv => lhs; whnf) ?_
  refine TL.nil (Post.thnN ?_)
  refine T.seq ?_
  refine T.seq ?_
  refine T.region ?_
  refine R.callv rfl rfl rfl (wakes18_c _) ?_
  refine R.not rfl rfl ?_
  refine TL.nil (Post.thnN ?_)
  refine T.condN rfl ?_
  refine T.skip (Post.thnN ?_)
  refine T.seq ?_
  refine T.region ?_
  refine R.mvE rfl (by conv => lhs; whnf) ?_
  refine TL.call [] rfl rfl rfl (own18_c _ _ _ hr) ?_
  intro v26 H26 L26 s26 q26
  obtain ⟨c26, rfl, w26⟩ := q26
  rw [← hfx] at w26
  refine TL.shut .hd ?_
  intro HF26 sF26 qF26
  have f26 := w26.read sF26 qF26
  obtain ⟨AF26, pF26, rfl, mF26, nF26, f26⟩ := f26.shape
  refine R.mvE rfl (by conv => lhs; whnf) ?_
  refine TL.call [] rfl rfl rfl (few18_c _ _ _ (hr2.mono (s26.trans sF26))) ?_
  intro v28 H28 L28 s28 q28
  obtain ⟨c28, rfl, w28⟩ := q28
  rw [← hfn] at w28
  refine TL.shut .hd ?_
  intro HF28 sF28 qF28
  have f28 := w28.read sF28 qF28
  obtain ⟨AF28, pF28, rfl, mF28, nF28, f28⟩ := f28.shape
  refine R.mvE rfl (by conv => lhs; whnf) ?_
  refine TL.call [] rfl rfl rfl (few18_c _ _ _ (hr3.mono (s26.trans (sF26.trans (s28.trans sF28))))) ?_
  intro v30 H30 L30 s30 q30
  obtain ⟨c30, rfl, w30⟩ := q30
  rw [← hfo] at w30
  refine TL.shut .hd ?_
  intro HF30 sF30 qF30
  have f30 := w30.read sF30 qF30
  obtain ⟨AF30, pF30, rfl, mF30, nF30, f30⟩ := f30.shape
  refine R.asE rfl (by conv => lhs; whnf) ?_
  refine R.asE rfl (by conv => lhs; whnf) ?_
  refine R.asE rfl (by conv => lhs; whnf) ?_
  refine TL.nil (Post.thnN ?_)
  refine T.seq ?_
  refine T.region ?_
  refine R.mvE rfl (by conv => lhs; whnf) ?_
  refine R.callv rfl rfl rfl (rright_c _ _ _ (f26.mono (s28.trans (sF28.trans (s30.trans sF30))))) ?_
  refine R.asE rfl (by conv => lhs; whnf) ?_
  refine TL.nil (Post.thnN ?_)
  refine T.seq ?_
  refine T.seq ?_
  refine T.region ?_
  refine R.mvE rfl (by conv => lhs; whnf) ?_
  refine R.len Try.underlying23 rfl rfl ?_
  refine R.mvE rfl (by conv => lhs; whnf) ?_
  refine TL.nil (Post.thnN ?_)
  refine T.block ?_
  refine T.loop (ι := Nat) (fun k H' L' ds' => k ≤ fn.length ∧ L' = [] ∧ ds' = []) (fun k => [(0, .slice A xs.length c), (2, .slice A3 os.length c3), (7, .slice AF26 fx.length pF26), (9, .slice AF30 fo.length pF30), (10, .bool (chainB fx)), (33, .slice AF28 fn.length pF28), (34, .int .i64 fn.length), (35, .int .i64 k)]) (fun k => fn.length - k) (0) ?_ ?_ ?_
  · exact ⟨Nat.zero_le _, rfl, rfl⟩
  · exact ⟨rfl, rfl, rfl, rfl, rfl, rfl, rfl, rfl, trivial⟩
  · intro k σ0 H_0 L_0 ds_0 s_0 hI_0
    obtain ⟨hk, rfl, rfl⟩ := hI_0
    refine T.seq ?_
    refine T.region ?_
    refine R.lss rfl rfl rfl ?_
    refine TL.nil (Post.thnN ?_)
    refine T.seq ?_
    refine T.condD rfl (fun c36 => ?_) (fun c36 => ?_)
    · have hlt : k < fn.length := by omega
      obtain ⟨y, hy⟩ := getk hlt
      refine T.skip (Post.thnN ?_)
      refine T.seq ?_
      refine T.block ?_
      refine T.seq ?_
      refine T.region ?_
      obtain ⟨b37, o37, i37, e37⟩ := (f28.mono (s30.trans (sF30.trans s_0))).elem (hy)
      refine R.ixp Try.underlying23 Try.sizeOf3 rfl rfl rfl (by omega) i37 ?_
      refine R.ldC Try.isAgg3 rfl rfl (e37).int ?_
      refine R.asE rfl (by conv => lhs; whnf) ?_
      refine TL.nil (Post.thnN ?_)
      refine T.seq ?_
      refine T.region ?_
      refine R.mvE rfl (by conv => lhs; whnf) ?_
      refine R.mvE rfl (by conv => lhs; whnf) ?_
      refine R.mvE rfl (by conv => lhs; whnf) ?_
      refine R.callp rfl rfl rfl (owner_c _ _ fx y ((f26.mono (s28.trans (sF28.trans (s30.trans sF30)))).mono s_0) hfl _ fo (f30.mono s_0)) ?_
      intro v43 H43 s43 q43
      obtain ⟨w43, rfl, g43⟩ := q43
      refine R.mvE rfl (by conv => lhs; whnf) ?_
      refine R.ext rfl rfl rfl ?_
      refine R.ext rfl rfl rfl ?_
      refine R.ext rfl rfl rfl ?_
      refine R.asE rfl (by conv => lhs; whnf) ?_
      refine R.asE rfl (by conv => lhs; whnf) ?_
      refine R.asE rfl (by conv => lhs; whnf) ?_
      refine TL.nil (Post.thnN ?_)
      refine T.seq ?_
      refine T.region ?_
      refine R.mvE rfl (by conv => lhs; whnf) ?_
      refine R.mvE rfl (by conv => lhs; whnf) ?_
      refine R.mvE rfl (by conv => lhs; whnf) ?_
      refine R.callp rfl rfl rfl (heirs_c _ _ _ fx y fo ((f26.mono (s28.trans (sF28.trans (s30.trans sF30)))).mono (s_0.trans s43)) hfl (f30.mono (s_0.trans s43))) ?_
      intro v51 H51 s51 q51
      obtain ⟨w51, rfl, g51⟩ := q51
      refine R.mvE rfl (by conv => lhs; whnf) ?_
      refine R.ext rfl rfl rfl ?_
      refine R.ext rfl rfl rfl ?_
      refine R.asE rfl (by conv => lhs; whnf) ?_
      refine R.asE rfl (by conv => lhs; whnf) ?_
      refine TL.nil (Post.thnN ?_)
      refine T.seq ?_
      refine T.region ?_
      refine R.asE rfl (by conv => lhs; whnf) ?_
      refine R.asE rfl (by conv => lhs; whnf) ?_
      refine TL.nil (Post.thnN ?_)
      refine T.seq ?_
      refine T.region ?_
      refine R.asE rfl (by conv => lhs; whnf) ?_
      refine R.asE rfl (by conv => lhs; whnf) ?_
      refine R.asE rfl (by conv => lhs; whnf) ?_
      refine TL.nil (Post.thnN ?_)
      refine T.seq ?_
      refine T.seq ?_
      refine T.region ?_
      refine R.mvE rfl (by conv => lhs; whnf) ?_
      refine TL.nil (Post.thnN ?_)
      refine T.cond rfl (fun c54 => ?_) (fun c54 => ?_)
      · refine T.seq ?_
        refine T.region ?_
        refine R.mvE rfl (by conv => lhs; whnf) ?_
        refine R.mvE rfl (by conv => lhs; whnf) ?_
        refine R.mvE rfl (by conv => lhs; whnf) ?_
        refine R.callp rfl rfl rfl (heirs18_c _ _ _ fx y fo ((f26.mono (s28.trans (sF28.trans (s30.trans sF30)))).mono (s_0.trans (s43.trans s51))) hfl (f30.mono (s_0.trans (s43.trans s51)))) ?_
        intro v58 H58 s58 q58
        refine R.asE rfl (by conv => lhs; whnf) ?_
        refine R.asE rfl (by conv => lhs; whnf) ?_
        refine TL.nil (Post.thnN ?_)
        refine T.seq ?_
        refine T.region ?_
        refine R.mvE rfl (by conv => lhs; whnf) ?_
        refine R.mvE rfl (by conv => lhs; whnf) ?_
        refine R.mvE rfl (by conv => lhs; whnf) ?_
        refine R.callp rfl rfl rfl (owner18_c _ _ fx y ((f26.mono (s28.trans (sF28.trans (s30.trans sF30)))).mono (s_0.trans (s43.trans (s51.trans s58)))) hfl _ fo (f30.mono (s_0.trans (s43.trans (s51.trans s58))))) ?_
        intro v62 H62 s62 q62
        obtain ⟨q62, z62⟩ := q62
        obtain ⟨A62, p62, rfl, m62, n62, q62⟩ := q62.shape
        refine R.asE rfl (by conv => lhs; whnf) ?_
        refine R.asE rfl (by conv => lhs; whnf) ?_
        refine TL.nil (Post.thnN ?_)
        refine T.seq ?_
        refine T.region ?_
        refine R.mvE rfl (by conv => lhs; whnf) ?_
        refine R.nilS Try.underlying23 rfl rfl rfl ?_
        refine TL.set 64 (.bool (decide (ownerW fx y fo = []))) (congrArg Value.bool (isNone_of q62 z62)) ?_
        refine TL.nil (Post.thnN ?_)
        refine T.condD rfl (fun c64 => ?_) (fun c64 => ?_)
        · refine T.region ?_
          refine R.asE rfl (by conv => lhs; whnf) ?_
          refine TL.nil (Post.thnN ?_)
          refine T.seq ?_
          refine T.region ?_
          refine R.mvE rfl (by conv => lhs; whnf) ?_
          refine R.mvE rfl (by conv => lhs; whnf) ?_
          refine R.neq rfl rfl rfl ?_
          refine R.mvE rfl (by conv => lhs; whnf) ?_
          refine TL.set 74 (.bool false) (congrArg Value.bool (by simp [owner_tell, c54, tellW, c64])) ?_
          refine R.mvE rfl (by conv => lhs; whnf) ?_
          refine R.mvE rfl (by conv => lhs; whnf) ?_
          refine R.neq rfl rfl rfl ?_
          refine R.pkFE rfl rfl (by conv => lhs; whnf) ?_
          refine R.mvE rfl (by conv => lhs; whnf) ?_
          refine TL.set 79 (.bool false) (congrArg Value.bool (by simp [c54])) ?_
          refine R.mvE rfl (by conv => lhs; whnf) ?_
          refine R.mvE rfl (by conv => lhs; whnf) ?_
          refine R.neq rfl rfl rfl ?_
          refine R.pkFE rfl rfl (by conv => lhs; whnf) ?_
          refine R.mvE rfl (by conv => lhs; whnf) ?_
          refine TL.set 84 (.bool false) (congrArg Value.bool (by simp [owner_tell, c54, tellW, c64])) ?_
          refine R.mvE rfl (by conv => lhs; whnf) ?_
          refine R.mvE rfl (by conv => lhs; whnf) ?_
          refine R.callv rfl rfl rfl (equalI23_c _ _ _ _ _ (g43.mono (s51.trans (s58.trans s62))) q62) ?_
          refine R.not rfl rfl ?_
          refine R.pkFE rfl rfl (by conv => lhs; whnf) ?_
          refine R.mvE rfl (by conv => lhs; whnf) ?_
          refine TL.set 90 (.bool false) (congrArg Value.bool (by simp [owner_tell, c54, tellW, c64])) ?_
          refine R.mvE rfl (by conv => lhs; whnf) ?_
          refine R.mvE rfl (by conv => lhs; whnf) ?_
          refine R.callv rfl rfl rfl (equalI23_c _ _ _ _ _ (g51.mono (s58.trans s62)) (q58.mono s62)) ?_
          refine R.not rfl rfl ?_
          refine R.pkFE rfl rfl (by conv => lhs; whnf) ?_
          refine TL.nil (Post.thnN ?_)
          refine T.set 95 (.bool false) (congrArg Value.bool (by simp [c54, heirs_same c54])) ?_
          refine T.condN rfl ?_
          refine T.skip (Post.blkN ?_)
          refine id (Post.thnN ?_)
          refine T.region ?_
          refine R.addI rfl rfl rfl (by omega) ?_
          refine R.mvE rfl (by conv => lhs; whnf) ?_
          refine TL.nil (Post.thnN ?_)
          -- round's end, way yyy
          exact ⟨k + 1, (s_0.trans (s43.trans (s51.trans (s58.trans s62)))), ⟨by omega, rfl, rfl⟩, by omega, ⟨rfl, rfl, rfl, rfl, rfl, rfl, rfl, rfl, trivial⟩⟩
        · refine T.region ?_
          refine R.mvE rfl (by conv => lhs; whnf) ?_
          refine R.mvE rfl (by conv => lhs; whnf) ?_
          refine R.len Try.underlying23 rfl rfl ?_
          refine R.subI rfl rfl rfl (by omega) ?_
          obtain ⟨b69, o69, i69, e69⟩ := (q62).elem (lastI_at c64)
          refine R.ixp Try.underlying23 Try.sizeOf3 rfl rfl rfl (by have := List.length_pos_iff.2 c64; omega) i69 ?_
          refine R.ldC Try.isAgg3 rfl rfl (e69).int ?_
          refine R.asE rfl (by conv => lhs; whnf) ?_
          refine TL.nil (Post.thnN ?_)
          refine T.seq ?_
          refine T.region ?_
          refine R.mvE rfl (by conv => lhs; whnf) ?_
          refine R.mvE rfl (by conv => lhs; whnf) ?_
          refine R.neq rfl rfl rfl ?_
          refine R.mvE rfl (by conv => lhs; whnf) ?_
          refine TL.set 74 (.bool false) (congrArg Value.bool (by simp [owner_tell, c54, tellW, c64])) ?_
          refine R.mvE rfl (by conv => lhs; whnf) ?_
          refine R.mvE rfl (by conv => lhs; whnf) ?_
          refine R.neq rfl rfl rfl ?_
          refine R.pkFE rfl rfl (by conv => lhs; whnf) ?_
          refine R.mvE rfl (by conv => lhs; whnf) ?_
          refine TL.set 79 (.bool false) (congrArg Value.bool (by simp [c54])) ?_
          refine R.mvE rfl (by conv => lhs; whnf) ?_
          refine R.mvE rfl (by conv => lhs; whnf) ?_
          refine R.neq rfl rfl rfl ?_
          refine R.pkFE rfl rfl (by conv => lhs; whnf) ?_
          refine R.mvE rfl (by conv => lhs; whnf) ?_
          refine TL.set 84 (.bool false) (congrArg Value.bool (by simp [owner_tell, c54, tellW, c64])) ?_
          refine R.mvE rfl (by conv => lhs; whnf) ?_
          refine R.mvE rfl (by conv => lhs; whnf) ?_
          refine R.callv rfl rfl rfl (equalI23_c _ _ _ _ _ (g43.mono (s51.trans (s58.trans s62))) q62) ?_
          refine R.not rfl rfl ?_
          refine R.pkFE rfl rfl (by conv => lhs; whnf) ?_
          refine R.mvE rfl (by conv => lhs; whnf) ?_
          refine TL.set 90 (.bool false) (congrArg Value.bool (by simp [owner_tell, c54, tellW, c64])) ?_
          refine R.mvE rfl (by conv => lhs; whnf) ?_
          refine R.mvE rfl (by conv => lhs; whnf) ?_
          refine R.callv rfl rfl rfl (equalI23_c _ _ _ _ _ (g51.mono (s58.trans s62)) (q58.mono s62)) ?_
          refine R.not rfl rfl ?_
          refine R.pkFE rfl rfl (by conv => lhs; whnf) ?_
          refine TL.nil (Post.thnN ?_)
          refine T.set 95 (.bool false) (congrArg Value.bool (by simp [c54, heirs_same c54])) ?_
          refine T.condN rfl ?_
          refine T.skip (Post.blkN ?_)
          refine id (Post.thnN ?_)
          refine T.region ?_
          refine R.addI rfl rfl rfl (by omega) ?_
          refine R.mvE rfl (by conv => lhs; whnf) ?_
          refine TL.nil (Post.thnN ?_)
          -- round's end, way yyn
          exact ⟨k + 1, (s_0.trans (s43.trans (s51.trans (s58.trans s62)))), ⟨by omega, rfl, rfl⟩, by omega, ⟨rfl, rfl, rfl, rfl, rfl, rfl, rfl, rfl, trivial⟩⟩
      · refine T.skip (Post.thnN ?_)
        refine T.seq ?_
        refine T.region ?_
        refine R.mvE rfl (by conv => lhs; whnf) ?_
        refine R.mvE rfl (by conv => lhs; whnf) ?_
        refine R.neq rfl rfl rfl ?_
        refine R.mvE rfl (by conv => lhs; whnf) ?_
        refine TL.set 74 (.bool false) (congrArg Value.bool (by simp [owner_tell, c54, tellW])) ?_
        refine R.mvE rfl (by conv => lhs; whnf) ?_
        refine R.mvE rfl (by conv => lhs; whnf) ?_
        refine R.neq rfl rfl rfl ?_
        refine R.pkFE rfl rfl (by conv => lhs; whnf) ?_
        refine R.mvE rfl (by conv => lhs; whnf) ?_
        refine TL.set 79 (.bool false) (congrArg Value.bool (by simp [c54])) ?_
        refine R.mvE rfl (by conv => lhs; whnf) ?_
        refine R.mvE rfl (by conv => lhs; whnf) ?_
        refine R.neq rfl rfl rfl ?_
        refine R.pkFE rfl rfl (by conv => lhs; whnf) ?_
        refine R.mvE rfl (by conv => lhs; whnf) ?_
        refine TL.set 84 (.bool false) (congrArg Value.bool (by simp [owner_tell, c54, tellW])) ?_
        refine R.mvE rfl (by conv => lhs; whnf) ?_
        refine R.mvE rfl (by conv => lhs; whnf) ?_
        refine R.callv rfl rfl rfl (equalI23_c _ _ _ _ _ (g43.mono s51) RdS.nil) ?_
        refine R.not rfl rfl ?_
        refine R.pkFE rfl rfl (by conv => lhs; whnf) ?_
        refine R.mvE rfl (by conv => lhs; whnf) ?_
        refine TL.set 90 (.bool false) (congrArg Value.bool (by simp [owner_tell, c54, tellW])) ?_
        refine R.mvE rfl (by conv => lhs; whnf) ?_
        refine R.mvE rfl (by conv => lhs; whnf) ?_
        refine R.callv rfl rfl rfl (equalI23_c _ _ _ _ _ g51 RdS.nil) ?_
        refine R.not rfl rfl ?_
        refine R.pkFE rfl rfl (by conv => lhs; whnf) ?_
        refine TL.nil (Post.thnN ?_)
        refine T.set 95 (.bool false) (congrArg Value.bool (by simp [heirsR, c54])) ?_
        refine T.condN rfl ?_
        refine T.skip (Post.blkN ?_)
        refine id (Post.thnN ?_)
        refine T.region ?_
        refine R.addI rfl rfl rfl (by omega) ?_
        refine R.mvE rfl (by conv => lhs; whnf) ?_
        refine TL.nil (Post.thnN ?_)
        -- round's end, way yn
        exact ⟨k + 1, (s_0.trans (s43.trans s51)), ⟨by omega, rfl, rfl⟩, by omega, ⟨rfl, rfl, rfl, rfl, rfl, rfl, rfl, rfl, trivial⟩⟩
    · refine T.exit (Post.thnE (Post.thnE (Post.blkX ?_)))
      refine id (Post.thnN ?_)
      refine T.seq ?_
      refine T.region ?_
      refine R.mvE rfl (by conv => lhs; whnf) ?_
      refine R.mvE rfl (by conv => lhs; whnf) ?_
      refine TL.call [] rfl rfl rfl (own18_c _ _ _ (hr.mono (s26.trans (sF26.trans (s28.trans (sF28.trans (s30.trans (sF30.trans s_0)))))))) ?_
      intro v99 H99 L99 s99 q99
      obtain ⟨c99, rfl, w99⟩ := q99
      rw [← hfx] at w99
      refine TL.shut .hd ?_
      intro HF99 sF99 qF99
      have f99 := w99.read sF99 qF99
      obtain ⟨AF99, pF99, rfl, mF99, nF99, f99⟩ := f99.shape
      refine R.callv rfl rfl rfl (equalP_c _ _ _ _ _ ((f26.mono (s28.trans (sF28.trans (s30.trans sF30)))).mono (s_0.trans (s99.trans sF99))) f99) ?_
      refine R.mvE rfl (by conv => lhs; whnf) ?_
      refine TL.set 101 (.bool true) (congrArg Value.bool (decide_eq_true rfl)) ?_
      refine R.mvE rfl (by conv => lhs; whnf) ?_
      refine R.mvE rfl (by conv => lhs; whnf) ?_
      refine TL.call [] rfl rfl rfl (few18_c _ _ _ (hr3.mono (s26.trans (sF26.trans (s28.trans (sF28.trans (s30.trans (sF30.trans (s_0.trans (s99.trans sF99)))))))))) ?_
      intro v104 H104 L104 s104 q104
      obtain ⟨c104, rfl, w104⟩ := q104
      rw [← hfo] at w104
      refine TL.shut .hd ?_
      intro HF104 sF104 qF104
      have f104 := w104.read sF104 qF104
      obtain ⟨AF104, pF104, rfl, mF104, nF104, f104⟩ := f104.shape
      refine R.callv rfl rfl rfl (equalI23_c _ _ _ _ _ (f30.mono (s_0.trans (s99.trans (sF99.trans (s104.trans sF104))))) f104) ?_
      refine R.pkTE rfl rfl (by conv => lhs; whnf) ?_
      refine R.asE rfl (by conv => lhs; whnf) ?_
      refine TL.nil (Post.thnN ?_)
      refine T.ret ?_
      -- way n
      exact fin1 rfl rfl ⟨rfl, congrArg Value.bool (decide_eq_true rfl)⟩

end Go.SX
