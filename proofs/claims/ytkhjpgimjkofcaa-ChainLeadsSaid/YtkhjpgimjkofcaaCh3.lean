/- the reference of chain: has, put, To, From. -/
import Derived.Test.YtkhjpgimjkofcaaCh2
set_option linter.unusedVariables false
set_option linter.unusedSimpArgs false
namespace Go.SX
open Go Go.Proofs

set_option maxHeartbeats 1600000 in
theorem has16_c (H : Heap) (v : Value) (xs : List Int) (x : Int) (hr : RdS (intE .i64) H v xs) : Fv Try.prog (fnv 82) [v, .int .i64 x] H (.bool (xs.any (fun y => decide (y = x)))) := by
  refine Fc.of_body (N := 17) Try.func82 rfl (by kernel_rfl) rfl rfl ?_
  intro w0
  obtain ⟨A, c, rfl, hc1, hc2, hr⟩ := hr.shape
  refine T.seq ?_
  refine T.region ?_
  refine R.asE rfl (by conv => lhs; whnf) ?_
  refine TL.nil (Post.thnN ?_)
  refine T.seq ?_
  refine T.seq ?_
  refine T.region ?_
  refine R.mvE rfl (by conv => lhs; whnf) ?_
  refine R.len Try.underlying23 rfl rfl ?_
  refine R.mvE rfl (by conv => lhs; whnf) ?_
  refine TL.nil (Post.thnN ?_)
  refine T.block ?_
  refine T.loop (ι := Nat) (fun k H' L' ds' => k ≤ xs.length ∧ (xs.take k).any (fun y => decide (y = x)) = false) (fun k => [(0, .slice A xs.length c), (1, .int .i64 x), (7, .slice A xs.length c), (8, .int .i64 xs.length), (9, .int .i64 k)]) (fun k => xs.length - k) (0) ?_ ?_ ?_
  · exact ⟨Nat.zero_le _, rfl⟩
  · exact ⟨rfl, rfl, rfl, rfl, rfl, trivial⟩
  · intro k σ0 H_0 L_0 ds_0 s_0 hI_0
    obtain ⟨hk, hw⟩ := hI_0
    refine T.seq ?_
    refine T.region ?_
    refine R.lss rfl rfl rfl ?_
    refine TL.nil (Post.thnN ?_)
    refine T.seq ?_
    refine T.condD rfl (fun c10 => ?_) (fun c10 => ?_)
    · have hlt : k < xs.length := by omega
      obtain ⟨y, hy⟩ := getk hlt
      refine T.skip (Post.thnN ?_)
      refine T.seq ?_
      refine T.block ?_
      refine T.seq ?_
      refine T.region ?_
      obtain ⟨b11, o11, i11, e11⟩ := (hr.mono s_0).elem (hy)
      refine R.ixp Try.underlying23 Try.sizeOf3 rfl rfl rfl (by omega) i11 ?_
      refine R.ldC Try.isAgg3 rfl rfl (e11).int ?_
      refine R.asE rfl (by conv => lhs; whnf) ?_
      refine TL.nil (Post.thnN ?_)
      refine T.seq ?_
      refine T.region ?_
      refine R.mvE rfl (by conv => lhs; whnf) ?_
      refine R.mvE rfl (by conv => lhs; whnf) ?_
      refine R.eql rfl rfl rfl ?_
      refine TL.nil (Post.thnN ?_)
      refine T.condD rfl (fun c15 => ?_) (fun c15 => ?_)
      · refine T.seq ?_
        refine T.region ?_
        refine R.asE rfl (by conv => lhs; whnf) ?_
        refine TL.nil (Post.thnN ?_)
        refine T.ret (Post.blkR (Post.thnR (Post.thnR (Post.blkR (Post.thnR ?_)))))
        -- way yy
        exact fin1 rfl rfl ⟨rfl, congrArg Value.bool (List.any_eq_true.2 ⟨y, List.mem_of_getElem? hy, decide_eq_true c15⟩).symm⟩
      · refine T.skip (Post.blkN ?_)
        refine id (Post.thnN ?_)
        refine T.region ?_
        refine R.addI rfl rfl rfl (by omega) ?_
        refine R.mvE rfl (by conv => lhs; whnf) ?_
        refine TL.nil (Post.thnN ?_)
        -- round's end, way yn
        exact ⟨k + 1, s_0, ⟨by omega, by rw [take_snoc _ _ _ hy, List.any_append, hw]; simp [c15]⟩, by omega, ⟨rfl, rfl, rfl, rfl, rfl, trivial⟩⟩
    · refine T.exit (Post.thnE (Post.thnE (Post.blkX ?_)))
      refine id (Post.thnN ?_)
      refine T.seq ?_
      refine T.region ?_
      refine R.asE rfl (by conv => lhs; whnf) ?_
      refine TL.nil (Post.thnN ?_)
      refine T.ret ?_
      -- way n
      have hkx : k = xs.length := by omega
      rw [hkx, List.take_length] at hw
      exact fin1 rfl rfl ⟨rfl, congrArg Value.bool hw.symm⟩


set_option maxHeartbeats 1600000 in
theorem put16_c (H : Heap) (v : Value) (xs : List Int) (x : Int) (hr : RdS (intE .i64) H v xs) (hl : xs.length ≤ 100000) : Fp Try.prog (fnv 83) [v, .int .i64 x] H (fun v' H' => RdS (intE .i64) H' v' (putL xs x)) := by
  refine Fc.of_body (N := 45) Try.func83 rfl (by kernel_rfl) rfl rfl ?_
  intro w0
  obtain ⟨A, c, rfl, hc1, hc2, hr⟩ := hr.shape
  refine T.seq ?_
  refine T.region ?_
  refine R.asE rfl (by conv => lhs; whnf) ?_
  refine TL.nil (Post.thnN ?_)
  refine T.seq ?_
  refine T.region ?_
  refine R.asE rfl (by conv => lhs; whnf) ?_
  refine TL.nil (Post.thnN ?_)
  refine T.seq ?_
  refine T.block ?_
  refine T.loop (ι := Nat) (fun k H' L' ds' => k ≤ xs.length ∧ L' = [] ∧ ds' = [] ∧ ∀ (j : Nat) y, j < k → xs[j]? = some y → y < x) (fun k => [(0, .slice A xs.length c), (1, .int .i64 x), (5, .int .i64 k)]) (fun k => xs.length - k) (0) ?_ ?_ ?_
  · exact ⟨Nat.zero_le _, rfl, rfl, fun j y h => absurd h (Nat.not_lt_zero _)⟩
  · exact ⟨rfl, rfl, rfl, trivial⟩
  · intro k σ0 H_0 L_0 ds_0 s_0 hI_0
    obtain ⟨hk, rfl, rfl, hw⟩ := hI_0
    refine T.seq ?_
    refine T.seq ?_
    refine T.region ?_
    refine R.mvE rfl (by conv => lhs; whnf) ?_
    refine R.mvE rfl (by conv => lhs; whnf) ?_
    refine R.len Try.underlying23 rfl rfl ?_
    refine R.lss rfl rfl rfl ?_
    refine R.mvE rfl (by conv => lhs; whnf) ?_
    refine TL.gsplitD 10 rfl (fun g10 => ?_) (fun g10 => ?_)
    · have hlt : k < xs.length := by omega
      obtain ⟨y, hy⟩ := getk hlt
      refine R.mvE rfl (by conv => lhs; whnf) ?_
      refine R.mvE rfl (by conv => lhs; whnf) ?_
      obtain ⟨b13, o13, i13, e13⟩ := (hr.mono s_0).elem (hy)
      refine R.ixp Try.underlying23 Try.sizeOf3 rfl rfl rfl (by omega) i13 ?_
      refine R.ldC Try.isAgg3 rfl rfl (e13).int ?_
      refine R.mvE rfl (by conv => lhs; whnf) ?_
      refine R.lss rfl rfl rfl ?_
      refine R.pkTE rfl rfl (by conv => lhs; whnf) ?_
      refine TL.nil (Post.thnN ?_)
      refine T.condD rfl (fun c17 => ?_) (fun c17 => ?_)
      · refine T.skip (Post.thnN ?_)
        refine T.block ?_
        refine T.region ?_
        refine R.mvE rfl (by conv => lhs; whnf) ?_
        refine R.addI rfl rfl rfl (by omega) ?_
        refine R.asE rfl (by conv => lhs; whnf) ?_
        refine TL.nil (Post.blkN ?_)
        refine id (Post.thnN ?_)
        -- round's end, way yy
        exact ⟨k + 1, s_0, ⟨by omega, rfl, rfl, fun j z h1 h2 => if e : j = k then by subst e; rw [hy] at h2; injection h2 with h2; omega else hw j z (by omega) h2⟩, by omega, ⟨rfl, rfl, rfl, trivial⟩⟩
      · have hkk : putK xs x = k := putK_eq hw hk (fun z hz => by rw [hy] at hz; injection hz with hz; omega)
        refine T.exit (Post.thnE (Post.thnE (Post.blkX ?_)))
        refine id (Post.thnN ?_)
        refine T.seq ?_
        refine T.seq ?_
        refine T.region ?_
        refine R.mvE rfl (by conv => lhs; whnf) ?_
        refine R.mvE rfl (by conv => lhs; whnf) ?_
        refine R.len Try.underlying23 rfl rfl ?_
        refine R.lss rfl rfl rfl ?_
        refine R.mvE rfl (by conv => lhs; whnf) ?_
        refine TL.set 24 (.bool true) (congrArg Value.bool (decide_eq_true (by omega))) ?_
        refine R.mvE rfl (by conv => lhs; whnf) ?_
        refine R.mvE rfl (by conv => lhs; whnf) ?_
        obtain ⟨b27, o27, i27, e27⟩ := (hr.mono s_0).elem (hy)
        refine R.ixp Try.underlying23 Try.sizeOf3 rfl rfl rfl (by omega) i27 ?_
        refine R.ldC Try.isAgg3 rfl rfl (e27).int ?_
        refine R.mvE rfl (by conv => lhs; whnf) ?_
        refine R.eql rfl rfl rfl ?_
        refine R.pkTE rfl rfl (by conv => lhs; whnf) ?_
        refine TL.nil (Post.thnN ?_)
        refine T.condD rfl (fun c31 => ?_) (fun c31 => ?_)
        · refine T.seq ?_
          refine T.region ?_
          refine R.mvE rfl (by conv => lhs; whnf) ?_
          refine R.asE rfl (by conv => lhs; whnf) ?_
          refine TL.nil (Post.thnN ?_)
          refine T.ret (Post.thnR ?_)
          -- way yny
          have hpe : putL xs x = xs := by unfold putL; rw [hkk, hy, c31, if_pos rfl]
          exact fin1 rfl rfl ⟨rfl, by rw [hpe]; exact hr.mono s_0⟩
        · refine T.skip (Post.thnN ?_)
          refine T.seq ?_
          refine T.draw Try_mixed (by kernel_rfl) ?_
          refine Plan.v 1 [0, 2, 3, 4, 5, 6, 7, 8, 9, 10, 11, 12] (by kernel_rfl) (by kernel_rfl) (by kernel_rfl) (by kernel_rfl) rfl (fun _ _ h_ => R.mvE rfl (by conv => lhs; whnf) (TL.nil h_)) ?_
          refine Plan.v 2 [0, 3, 4, 5, 6, 7, 8, 9, 10, 11, 12] (by kernel_rfl) (by kernel_rfl) (by kernel_rfl) (by kernel_rfl) rfl (fun _ _ h_ => R.mvE rfl (by conv => lhs; whnf) (TL.nil h_)) ?_
          refine Plan.v 3 [0, 4, 5, 6, 7, 8, 9, 10, 11, 12] (by kernel_rfl) (by kernel_rfl) (by kernel_rfl) (by kernel_rfl) rfl (fun _ _ h_ => R.sH Try.underlying23 Try.sizeOf3 rfl rfl rfl  (by omega) (by omega)  (TL.nil h_)) ?_
          refine Plan.v 5 [0, 4, 6, 7, 8, 9, 10, 11, 12] (by kernel_rfl) (by kernel_rfl) (by kernel_rfl) (by kernel_rfl) rfl (fun _ _ h_ => R.mvE rfl (by conv => lhs; whnf) (TL.nil h_)) ?_
          refine Plan.v 8 [0, 4, 6, 7, 9, 10, 11, 12] (by kernel_rfl) (by kernel_rfl) (by kernel_rfl) (by kernel_rfl) rfl (fun _ _ h_ => R.mvE rfl (by conv => lhs; whnf) (TL.nil h_)) ?_
          refine Plan.v 9 [0, 4, 6, 7, 10, 11, 12] (by kernel_rfl) (by kernel_rfl) (by kernel_rfl) (by kernel_rfl) rfl (fun _ _ h_ => R.mvE rfl (by conv => lhs; whnf) (TL.nil h_)) ?_
          refine Plan.v 10 [0, 4, 6, 7, 11, 12] (by kernel_rfl) (by kernel_rfl) (by kernel_rfl) (by kernel_rfl) rfl (fun _ _ h_ => R.sL Try.underlying23 Try.sizeOf3 rfl rfl rfl  (by omega) (by omega)  (TL.nil h_)) ?_
          refine Plan.s2 0 6 [4, 6, 7, 11, 12] [0, 4, 7, 11, 12] (by kernel_rfl) (by kernel_rfl) (by kernel_rfl) rfl rfl ?_ ?_
          · refine R.bs0 (E := (intE .i64)) rfl Try.underlying23 Try.sizeOf3 ?_
            intro v33 c33 w33
            refine TL.nil (Plan.e1 (HLe.refl _) ?_)
            refine Plan.s2 4 6 [6, 7, 11, 12] [4, 7, 11, 12] (by kernel_rfl) (by kernel_rfl) (by kernel_rfl) rfl rfl ?_ ?_
            · obtain ⟨cs37, y37, r37⟩ := Src.rdA ((hr.mono s_0).takeC hk hc1)
              refine R.app Try_ty23 rfl rfl rfl w33 (by first | exact .hd | exact .tl .hd | exact .tl (.tl .hd) | exact .tl (.tl (.tl .hd)) | exact .tl (.tl (.tl (.tl .hd))) | exact .tl (.tl (.tl (.tl (.tl .hd)))) | exact .tl (.tl (.tl (.tl (.tl (.tl .hd))))) | exact .tl (.tl (.tl (.tl (.tl (.tl (.tl .hd)))))) | exact .tl (.tl (.tl (.tl (.tl (.tl (.tl (.tl .hd))))))) | exact .tl (.tl (.tl (.tl (.tl (.tl (.tl (.tl (.tl .hd))))))))) (r37 _) y37 (by simp; omega) (by simp; omega) ?_
              intro v37 c37 w37
              rw [List.nil_append] at w37
              refine TL.nil (Plan.e1 (HLe.refl _) ?_)
              refine Plan.s1 6 [7, 11, 12] (by kernel_rfl) (by kernel_rfl) rfl ?_
              refine R.bs rfl (run_buildSlice1 Try.underlying23 Try.sizeOf3 Try.zeroValue3 rfl rfl) ?_
              intro b39
              refine TL.nil (Plan.e1 (HLe.refl _) ?_)
              refine Plan.s1 7 [11, 12] (by kernel_rfl) (by kernel_rfl) rfl ?_
              refine R.app (ys := [x]) Try_ty23 rfl rfl rfl w37 (by first | exact .hd | exact .tl .hd | exact .tl (.tl .hd) | exact .tl (.tl (.tl .hd)) | exact .tl (.tl (.tl (.tl .hd))) | exact .tl (.tl (.tl (.tl (.tl .hd)))) | exact .tl (.tl (.tl (.tl (.tl (.tl .hd))))) | exact .tl (.tl (.tl (.tl (.tl (.tl (.tl .hd)))))) | exact .tl (.tl (.tl (.tl (.tl (.tl (.tl (.tl .hd))))))) | exact .tl (.tl (.tl (.tl (.tl (.tl (.tl (.tl (.tl .hd))))))))) (Src.lit (vs := [.int .i64 x]) (by first | exact .hd | exact .tl .hd | exact .tl (.tl .hd) | exact .tl (.tl (.tl .hd)) | exact .tl (.tl (.tl (.tl .hd))) | exact .tl (.tl (.tl (.tl (.tl .hd)))) | exact .tl (.tl (.tl (.tl (.tl (.tl .hd))))) | exact .tl (.tl (.tl (.tl (.tl (.tl (.tl .hd)))))) | exact .tl (.tl (.tl (.tl (.tl (.tl (.tl (.tl .hd))))))) | exact .tl (.tl (.tl (.tl (.tl (.tl (.tl (.tl (.tl .hd)))))))))) ⟨[.int .i64 x], [], rfl, rfl, rfl⟩ (by simp; omega) (by simp; omega) ?_
              intro v40 c40 w40
              refine TL.nil (Plan.e1 (HLe.refl _) ?_)
              refine Plan.s1 11 [12] (by kernel_rfl) (by kernel_rfl) rfl ?_
              obtain ⟨cs44, y44, r44⟩ := Src.rdA ((hr.mono s_0).drop hk hc1)
              refine R.app Try_ty23 rfl rfl rfl w40 (by first | exact .hd | exact .tl .hd | exact .tl (.tl .hd) | exact .tl (.tl (.tl .hd)) | exact .tl (.tl (.tl (.tl .hd))) | exact .tl (.tl (.tl (.tl (.tl .hd)))) | exact .tl (.tl (.tl (.tl (.tl (.tl .hd))))) | exact .tl (.tl (.tl (.tl (.tl (.tl (.tl .hd)))))) | exact .tl (.tl (.tl (.tl (.tl (.tl (.tl (.tl .hd))))))) | exact .tl (.tl (.tl (.tl (.tl (.tl (.tl (.tl (.tl .hd))))))))) (r44 _) y44 (by simp; omega) (by simp; omega) ?_
              intro v44 c44 w44
              refine TL.shut .hd ?_
              intro H44 s44 q44
              have hw44 := w44.read s44 q44
              refine TL.nil (Plan.e1 (s44) ?_)
              refine Plan.v 12 [] (by kernel_rfl) (by kernel_rfl) (by kernel_rfl) (by kernel_rfl) rfl (fun _ _ h_ => R.asE rfl (by conv => lhs; whnf) (TL.nil h_)) ?_
              refine Plan.done (Post.thnN ?_)
              refine T.ret ?_
              -- way ynn00
              have hpe : putL xs x = xs.take k ++ [x] ++ xs.drop k := by unfold putL; rw [hkk, if_neg (by rw [hy]; simp; omega)]
              exact fin1 rfl rfl ⟨rfl, by rw [hpe]; exact hw44⟩
            · refine R.bs rfl (run_buildSlice1 Try.underlying23 Try.sizeOf3 Try.zeroValue3 rfl rfl) ?_
              intro b39
              refine TL.nil (Plan.e1 (HLe.refl _) ?_)
              refine Plan.s1 4 [7, 11, 12] (by kernel_rfl) (by kernel_rfl) rfl ?_
              obtain ⟨cs37, y37, r37⟩ := Src.rdA ((hr.mono s_0).takeC hk hc1)
              refine R.app Try_ty23 rfl rfl rfl w33 (by first | exact .hd | exact .tl .hd | exact .tl (.tl .hd) | exact .tl (.tl (.tl .hd)) | exact .tl (.tl (.tl (.tl .hd))) | exact .tl (.tl (.tl (.tl (.tl .hd)))) | exact .tl (.tl (.tl (.tl (.tl (.tl .hd))))) | exact .tl (.tl (.tl (.tl (.tl (.tl (.tl .hd)))))) | exact .tl (.tl (.tl (.tl (.tl (.tl (.tl (.tl .hd))))))) | exact .tl (.tl (.tl (.tl (.tl (.tl (.tl (.tl (.tl .hd))))))))) (r37 _) y37 (by simp; omega) (by simp; omega) ?_
              intro v37 c37 w37
              rw [List.nil_append] at w37
              refine TL.nil (Plan.e1 (HLe.refl _) ?_)
              refine Plan.s1 7 [11, 12] (by kernel_rfl) (by kernel_rfl) rfl ?_
              refine R.app (ys := [x]) Try_ty23 rfl rfl rfl w37 (by first | exact .hd | exact .tl .hd | exact .tl (.tl .hd) | exact .tl (.tl (.tl .hd)) | exact .tl (.tl (.tl (.tl .hd))) | exact .tl (.tl (.tl (.tl (.tl .hd)))) | exact .tl (.tl (.tl (.tl (.tl (.tl .hd))))) | exact .tl (.tl (.tl (.tl (.tl (.tl (.tl .hd)))))) | exact .tl (.tl (.tl (.tl (.tl (.tl (.tl (.tl .hd))))))) | exact .tl (.tl (.tl (.tl (.tl (.tl (.tl (.tl (.tl .hd))))))))) (Src.lit (vs := [.int .i64 x]) (by first | exact .hd | exact .tl .hd | exact .tl (.tl .hd) | exact .tl (.tl (.tl .hd)) | exact .tl (.tl (.tl (.tl .hd))) | exact .tl (.tl (.tl (.tl (.tl .hd)))) | exact .tl (.tl (.tl (.tl (.tl (.tl .hd))))) | exact .tl (.tl (.tl (.tl (.tl (.tl (.tl .hd)))))) | exact .tl (.tl (.tl (.tl (.tl (.tl (.tl (.tl .hd))))))) | exact .tl (.tl (.tl (.tl (.tl (.tl (.tl (.tl (.tl .hd)))))))))) ⟨[.int .i64 x], [], rfl, rfl, rfl⟩ (by simp; omega) (by simp; omega) ?_
              intro v40 c40 w40
              refine TL.nil (Plan.e1 (HLe.refl _) ?_)
              refine Plan.s1 11 [12] (by kernel_rfl) (by kernel_rfl) rfl ?_
              obtain ⟨cs44, y44, r44⟩ := Src.rdA ((hr.mono s_0).drop hk hc1)
              refine R.app Try_ty23 rfl rfl rfl w40 (by first | exact .hd | exact .tl .hd | exact .tl (.tl .hd) | exact .tl (.tl (.tl .hd)) | exact .tl (.tl (.tl (.tl .hd))) | exact .tl (.tl (.tl (.tl (.tl .hd)))) | exact .tl (.tl (.tl (.tl (.tl (.tl .hd))))) | exact .tl (.tl (.tl (.tl (.tl (.tl (.tl .hd)))))) | exact .tl (.tl (.tl (.tl (.tl (.tl (.tl (.tl .hd))))))) | exact .tl (.tl (.tl (.tl (.tl (.tl (.tl (.tl (.tl .hd))))))))) (r44 _) y44 (by simp; omega) (by simp; omega) ?_
              intro v44 c44 w44
              refine TL.shut .hd ?_
              intro H44 s44 q44
              have hw44 := w44.read s44 q44
              refine TL.nil (Plan.e1 (s44) ?_)
              refine Plan.v 12 [] (by kernel_rfl) (by kernel_rfl) (by kernel_rfl) (by kernel_rfl) rfl (fun _ _ h_ => R.asE rfl (by conv => lhs; whnf) (TL.nil h_)) ?_
              refine Plan.done (Post.thnN ?_)
              refine T.ret ?_
              -- way ynn01
              have hpe : putL xs x = xs.take k ++ [x] ++ xs.drop k := by unfold putL; rw [hkk, if_neg (by rw [hy]; simp; omega)]
              exact fin1 rfl rfl ⟨rfl, by rw [hpe]; exact hw44⟩
          · refine R.bs rfl (run_buildSlice1 Try.underlying23 Try.sizeOf3 Try.zeroValue3 rfl rfl) ?_
            intro b39
            refine TL.nil (Plan.e1 (HLe.refl _) ?_)
            refine Plan.s1 0 [4, 7, 11, 12] (by kernel_rfl) (by kernel_rfl) rfl ?_
            refine R.bs0 (E := (intE .i64)) rfl Try.underlying23 Try.sizeOf3 ?_
            intro v33 c33 w33
            refine TL.nil (Plan.e1 (HLe.refl _) ?_)
            refine Plan.s1 4 [7, 11, 12] (by kernel_rfl) (by kernel_rfl) rfl ?_
            obtain ⟨cs37, y37, r37⟩ := Src.rdA ((hr.mono s_0).takeC hk hc1)
            refine R.app Try_ty23 rfl rfl rfl w33 (by first | exact .hd | exact .tl .hd | exact .tl (.tl .hd) | exact .tl (.tl (.tl .hd)) | exact .tl (.tl (.tl (.tl .hd))) | exact .tl (.tl (.tl (.tl (.tl .hd)))) | exact .tl (.tl (.tl (.tl (.tl (.tl .hd))))) | exact .tl (.tl (.tl (.tl (.tl (.tl (.tl .hd)))))) | exact .tl (.tl (.tl (.tl (.tl (.tl (.tl (.tl .hd))))))) | exact .tl (.tl (.tl (.tl (.tl (.tl (.tl (.tl (.tl .hd))))))))) (r37 _) y37 (by simp; omega) (by simp; omega) ?_
            intro v37 c37 w37
            rw [List.nil_append] at w37
            refine TL.nil (Plan.e1 (HLe.refl _) ?_)
            refine Plan.s1 7 [11, 12] (by kernel_rfl) (by kernel_rfl) rfl ?_
            refine R.app (ys := [x]) Try_ty23 rfl rfl rfl w37 (by first | exact .hd | exact .tl .hd | exact .tl (.tl .hd) | exact .tl (.tl (.tl .hd)) | exact .tl (.tl (.tl (.tl .hd))) | exact .tl (.tl (.tl (.tl (.tl .hd)))) | exact .tl (.tl (.tl (.tl (.tl (.tl .hd))))) | exact .tl (.tl (.tl (.tl (.tl (.tl (.tl .hd)))))) | exact .tl (.tl (.tl (.tl (.tl (.tl (.tl (.tl .hd))))))) | exact .tl (.tl (.tl (.tl (.tl (.tl (.tl (.tl (.tl .hd))))))))) (Src.lit (vs := [.int .i64 x]) (by first | exact .hd | exact .tl .hd | exact .tl (.tl .hd) | exact .tl (.tl (.tl .hd)) | exact .tl (.tl (.tl (.tl .hd))) | exact .tl (.tl (.tl (.tl (.tl .hd)))) | exact .tl (.tl (.tl (.tl (.tl (.tl .hd))))) | exact .tl (.tl (.tl (.tl (.tl (.tl (.tl .hd)))))) | exact .tl (.tl (.tl (.tl (.tl (.tl (.tl (.tl .hd))))))) | exact .tl (.tl (.tl (.tl (.tl (.tl (.tl (.tl (.tl .hd)))))))))) ⟨[.int .i64 x], [], rfl, rfl, rfl⟩ (by simp; omega) (by simp; omega) ?_
            intro v40 c40 w40
            refine TL.nil (Plan.e1 (HLe.refl _) ?_)
            refine Plan.s1 11 [12] (by kernel_rfl) (by kernel_rfl) rfl ?_
            obtain ⟨cs44, y44, r44⟩ := Src.rdA ((hr.mono s_0).drop hk hc1)
            refine R.app Try_ty23 rfl rfl rfl w40 (by first | exact .hd | exact .tl .hd | exact .tl (.tl .hd) | exact .tl (.tl (.tl .hd)) | exact .tl (.tl (.tl (.tl .hd))) | exact .tl (.tl (.tl (.tl (.tl .hd)))) | exact .tl (.tl (.tl (.tl (.tl (.tl .hd))))) | exact .tl (.tl (.tl (.tl (.tl (.tl (.tl .hd)))))) | exact .tl (.tl (.tl (.tl (.tl (.tl (.tl (.tl .hd))))))) | exact .tl (.tl (.tl (.tl (.tl (.tl (.tl (.tl (.tl .hd))))))))) (r44 _) y44 (by simp; omega) (by simp; omega) ?_
            intro v44 c44 w44
            refine TL.shut .hd ?_
            intro H44 s44 q44
            have hw44 := w44.read s44 q44
            refine TL.nil (Plan.e1 (s44) ?_)
            refine Plan.v 12 [] (by kernel_rfl) (by kernel_rfl) (by kernel_rfl) (by kernel_rfl) rfl (fun _ _ h_ => R.asE rfl (by conv => lhs; whnf) (TL.nil h_)) ?_
            refine Plan.done (Post.thnN ?_)
            refine T.ret ?_
            -- way ynn1
            have hpe : putL xs x = xs.take k ++ [x] ++ xs.drop k := by unfold putL; rw [hkk, if_neg (by rw [hy]; simp; omega)]
            exact fin1 rfl rfl ⟨rfl, by rw [hpe]; exact hw44⟩
    · have hkk : putK xs x = k := putK_eq hw hk (fun z hz => absurd (List.getElem?_eq_some_iff.1 hz).1 (by omega))
      have hnk : xs[k]? = none := List.getElem?_eq_none (by omega)
      refine TL.off rfl rfl rfl ?_
      refine TL.off rfl rfl rfl ?_
      refine TL.off rfl rfl rfl ?_
      refine TL.off rfl rfl rfl ?_
      refine TL.off rfl rfl rfl ?_
      refine TL.off rfl rfl rfl ?_
      refine R.pkFE rfl rfl (by conv => lhs; whnf) ?_
      refine TL.nil (Post.thnN ?_)
      refine T.condN rfl ?_
      refine T.exit (Post.thnE (Post.thnE (Post.blkX ?_)))
      refine id (Post.thnN ?_)
      refine T.seq ?_
      refine T.seq ?_
      refine T.region ?_
      refine R.mvE rfl (by conv => lhs; whnf) ?_
      refine R.mvE rfl (by conv => lhs; whnf) ?_
      refine R.len Try.underlying23 rfl rfl ?_
      refine R.lss rfl rfl rfl ?_
      refine R.mvE rfl (by conv => lhs; whnf) ?_
      refine TL.set 24 (.bool false) (congrArg Value.bool (decide_eq_false (by omega))) ?_
      refine TL.off rfl rfl rfl ?_
      refine TL.off rfl rfl rfl ?_
      refine TL.off rfl rfl rfl ?_
      refine TL.off rfl rfl rfl ?_
      refine TL.off rfl rfl rfl ?_
      refine TL.off rfl rfl rfl ?_
      refine R.pkFE rfl rfl (by conv => lhs; whnf) ?_
      refine TL.nil (Post.thnN ?_)
      refine T.condN rfl ?_
      refine T.skip (Post.thnN ?_)
      refine T.seq ?_
      refine T.draw Try_mixed (by kernel_rfl) ?_
      refine Plan.v 1 [0, 2, 3, 4, 5, 6, 7, 8, 9, 10, 11, 12] (by kernel_rfl) (by kernel_rfl) (by kernel_rfl) (by kernel_rfl) rfl (fun _ _ h_ => R.mvE rfl (by conv => lhs; whnf) (TL.nil h_)) ?_
      refine Plan.v 2 [0, 3, 4, 5, 6, 7, 8, 9, 10, 11, 12] (by kernel_rfl) (by kernel_rfl) (by kernel_rfl) (by kernel_rfl) rfl (fun _ _ h_ => R.mvE rfl (by conv => lhs; whnf) (TL.nil h_)) ?_
      refine Plan.v 3 [0, 4, 5, 6, 7, 8, 9, 10, 11, 12] (by kernel_rfl) (by kernel_rfl) (by kernel_rfl) (by kernel_rfl) rfl (fun _ _ h_ => R.sH Try.underlying23 Try.sizeOf3 rfl rfl rfl  (by omega) (by omega)  (TL.nil h_)) ?_
      refine Plan.v 5 [0, 4, 6, 7, 8, 9, 10, 11, 12] (by kernel_rfl) (by kernel_rfl) (by kernel_rfl) (by kernel_rfl) rfl (fun _ _ h_ => R.mvE rfl (by conv => lhs; whnf) (TL.nil h_)) ?_
      refine Plan.v 8 [0, 4, 6, 7, 9, 10, 11, 12] (by kernel_rfl) (by kernel_rfl) (by kernel_rfl) (by kernel_rfl) rfl (fun _ _ h_ => R.mvE rfl (by conv => lhs; whnf) (TL.nil h_)) ?_
      refine Plan.v 9 [0, 4, 6, 7, 10, 11, 12] (by kernel_rfl) (by kernel_rfl) (by kernel_rfl) (by kernel_rfl) rfl (fun _ _ h_ => R.mvE rfl (by conv => lhs; whnf) (TL.nil h_)) ?_
      refine Plan.v 10 [0, 4, 6, 7, 11, 12] (by kernel_rfl) (by kernel_rfl) (by kernel_rfl) (by kernel_rfl) rfl (fun _ _ h_ => R.sL Try.underlying23 Try.sizeOf3 rfl rfl rfl  (by omega) (by omega)  (TL.nil h_)) ?_
      refine Plan.s2 0 6 [4, 6, 7, 11, 12] [0, 4, 7, 11, 12] (by kernel_rfl) (by kernel_rfl) (by kernel_rfl) rfl rfl ?_ ?_
      · refine R.bs0 (E := (intE .i64)) rfl Try.underlying23 Try.sizeOf3 ?_
        intro v33 c33 w33
        refine TL.nil (Plan.e1 (HLe.refl _) ?_)
        refine Plan.s2 4 6 [6, 7, 11, 12] [4, 7, 11, 12] (by kernel_rfl) (by kernel_rfl) (by kernel_rfl) rfl rfl ?_ ?_
        · obtain ⟨cs37, y37, r37⟩ := Src.rdA ((hr.mono s_0).takeC hk hc1)
          refine R.app Try_ty23 rfl rfl rfl w33 (by first | exact .hd | exact .tl .hd | exact .tl (.tl .hd) | exact .tl (.tl (.tl .hd)) | exact .tl (.tl (.tl (.tl .hd))) | exact .tl (.tl (.tl (.tl (.tl .hd)))) | exact .tl (.tl (.tl (.tl (.tl (.tl .hd))))) | exact .tl (.tl (.tl (.tl (.tl (.tl (.tl .hd)))))) | exact .tl (.tl (.tl (.tl (.tl (.tl (.tl (.tl .hd))))))) | exact .tl (.tl (.tl (.tl (.tl (.tl (.tl (.tl (.tl .hd))))))))) (r37 _) y37 (by simp; omega) (by simp; omega) ?_
          intro v37 c37 w37
          rw [List.nil_append] at w37
          refine TL.nil (Plan.e1 (HLe.refl _) ?_)
          refine Plan.s1 6 [7, 11, 12] (by kernel_rfl) (by kernel_rfl) rfl ?_
          refine R.bs rfl (run_buildSlice1 Try.underlying23 Try.sizeOf3 Try.zeroValue3 rfl rfl) ?_
          intro b39
          refine TL.nil (Plan.e1 (HLe.refl _) ?_)
          refine Plan.s1 7 [11, 12] (by kernel_rfl) (by kernel_rfl) rfl ?_
          refine R.app (ys := [x]) Try_ty23 rfl rfl rfl w37 (by first | exact .hd | exact .tl .hd | exact .tl (.tl .hd) | exact .tl (.tl (.tl .hd)) | exact .tl (.tl (.tl (.tl .hd))) | exact .tl (.tl (.tl (.tl (.tl .hd)))) | exact .tl (.tl (.tl (.tl (.tl (.tl .hd))))) | exact .tl (.tl (.tl (.tl (.tl (.tl (.tl .hd)))))) | exact .tl (.tl (.tl (.tl (.tl (.tl (.tl (.tl .hd))))))) | exact .tl (.tl (.tl (.tl (.tl (.tl (.tl (.tl (.tl .hd))))))))) (Src.lit (vs := [.int .i64 x]) (by first | exact .hd | exact .tl .hd | exact .tl (.tl .hd) | exact .tl (.tl (.tl .hd)) | exact .tl (.tl (.tl (.tl .hd))) | exact .tl (.tl (.tl (.tl (.tl .hd)))) | exact .tl (.tl (.tl (.tl (.tl (.tl .hd))))) | exact .tl (.tl (.tl (.tl (.tl (.tl (.tl .hd)))))) | exact .tl (.tl (.tl (.tl (.tl (.tl (.tl (.tl .hd))))))) | exact .tl (.tl (.tl (.tl (.tl (.tl (.tl (.tl (.tl .hd)))))))))) ⟨[.int .i64 x], [], rfl, rfl, rfl⟩ (by simp; omega) (by simp; omega) ?_
          intro v40 c40 w40
          refine TL.nil (Plan.e1 (HLe.refl _) ?_)
          refine Plan.s1 11 [12] (by kernel_rfl) (by kernel_rfl) rfl ?_
          obtain ⟨cs44, y44, r44⟩ := Src.rdA ((hr.mono s_0).drop hk hc1)
          refine R.app Try_ty23 rfl rfl rfl w40 (by first | exact .hd | exact .tl .hd | exact .tl (.tl .hd) | exact .tl (.tl (.tl .hd)) | exact .tl (.tl (.tl (.tl .hd))) | exact .tl (.tl (.tl (.tl (.tl .hd)))) | exact .tl (.tl (.tl (.tl (.tl (.tl .hd))))) | exact .tl (.tl (.tl (.tl (.tl (.tl (.tl .hd)))))) | exact .tl (.tl (.tl (.tl (.tl (.tl (.tl (.tl .hd))))))) | exact .tl (.tl (.tl (.tl (.tl (.tl (.tl (.tl (.tl .hd))))))))) (r44 _) y44 (by simp; omega) (by simp; omega) ?_
          intro v44 c44 w44
          refine TL.shut .hd ?_
          intro H44 s44 q44
          have hw44 := w44.read s44 q44
          refine TL.nil (Plan.e1 (s44) ?_)
          refine Plan.v 12 [] (by kernel_rfl) (by kernel_rfl) (by kernel_rfl) (by kernel_rfl) rfl (fun _ _ h_ => R.asE rfl (by conv => lhs; whnf) (TL.nil h_)) ?_
          refine Plan.done (Post.thnN ?_)
          refine T.ret ?_
          -- way n00
          have hpe : putL xs x = xs.take k ++ [x] ++ xs.drop k := by unfold putL; rw [hkk, if_neg (by rw [hnk]; simp)]
          exact fin1 rfl rfl ⟨rfl, by rw [hpe]; exact hw44⟩
        · refine R.bs rfl (run_buildSlice1 Try.underlying23 Try.sizeOf3 Try.zeroValue3 rfl rfl) ?_
          intro b39
          refine TL.nil (Plan.e1 (HLe.refl _) ?_)
          refine Plan.s1 4 [7, 11, 12] (by kernel_rfl) (by kernel_rfl) rfl ?_
          obtain ⟨cs37, y37, r37⟩ := Src.rdA ((hr.mono s_0).takeC hk hc1)
          refine R.app Try_ty23 rfl rfl rfl w33 (by first | exact .hd | exact .tl .hd | exact .tl (.tl .hd) | exact .tl (.tl (.tl .hd)) | exact .tl (.tl (.tl (.tl .hd))) | exact .tl (.tl (.tl (.tl (.tl .hd)))) | exact .tl (.tl (.tl (.tl (.tl (.tl .hd))))) | exact .tl (.tl (.tl (.tl (.tl (.tl (.tl .hd)))))) | exact .tl (.tl (.tl (.tl (.tl (.tl (.tl (.tl .hd))))))) | exact .tl (.tl (.tl (.tl (.tl (.tl (.tl (.tl (.tl .hd))))))))) (r37 _) y37 (by simp; omega) (by simp; omega) ?_
          intro v37 c37 w37
          rw [List.nil_append] at w37
          refine TL.nil (Plan.e1 (HLe.refl _) ?_)
          refine Plan.s1 7 [11, 12] (by kernel_rfl) (by kernel_rfl) rfl ?_
          refine R.app (ys := [x]) Try_ty23 rfl rfl rfl w37 (by first | exact .hd | exact .tl .hd | exact .tl (.tl .hd) | exact .tl (.tl (.tl .hd)) | exact .tl (.tl (.tl (.tl .hd))) | exact .tl (.tl (.tl (.tl (.tl .hd)))) | exact .tl (.tl (.tl (.tl (.tl (.tl .hd))))) | exact .tl (.tl (.tl (.tl (.tl (.tl (.tl .hd)))))) | exact .tl (.tl (.tl (.tl (.tl (.tl (.tl (.tl .hd))))))) | exact .tl (.tl (.tl (.tl (.tl (.tl (.tl (.tl (.tl .hd))))))))) (Src.lit (vs := [.int .i64 x]) (by first | exact .hd | exact .tl .hd | exact .tl (.tl .hd) | exact .tl (.tl (.tl .hd)) | exact .tl (.tl (.tl (.tl .hd))) | exact .tl (.tl (.tl (.tl (.tl .hd)))) | exact .tl (.tl (.tl (.tl (.tl (.tl .hd))))) | exact .tl (.tl (.tl (.tl (.tl (.tl (.tl .hd)))))) | exact .tl (.tl (.tl (.tl (.tl (.tl (.tl (.tl .hd))))))) | exact .tl (.tl (.tl (.tl (.tl (.tl (.tl (.tl (.tl .hd)))))))))) ⟨[.int .i64 x], [], rfl, rfl, rfl⟩ (by simp; omega) (by simp; omega) ?_
          intro v40 c40 w40
          refine TL.nil (Plan.e1 (HLe.refl _) ?_)
          refine Plan.s1 11 [12] (by kernel_rfl) (by kernel_rfl) rfl ?_
          obtain ⟨cs44, y44, r44⟩ := Src.rdA ((hr.mono s_0).drop hk hc1)
          refine R.app Try_ty23 rfl rfl rfl w40 (by first | exact .hd | exact .tl .hd | exact .tl (.tl .hd) | exact .tl (.tl (.tl .hd)) | exact .tl (.tl (.tl (.tl .hd))) | exact .tl (.tl (.tl (.tl (.tl .hd)))) | exact .tl (.tl (.tl (.tl (.tl (.tl .hd))))) | exact .tl (.tl (.tl (.tl (.tl (.tl (.tl .hd)))))) | exact .tl (.tl (.tl (.tl (.tl (.tl (.tl (.tl .hd))))))) | exact .tl (.tl (.tl (.tl (.tl (.tl (.tl (.tl (.tl .hd))))))))) (r44 _) y44 (by simp; omega) (by simp; omega) ?_
          intro v44 c44 w44
          refine TL.shut .hd ?_
          intro H44 s44 q44
          have hw44 := w44.read s44 q44
          refine TL.nil (Plan.e1 (s44) ?_)
          refine Plan.v 12 [] (by kernel_rfl) (by kernel_rfl) (by kernel_rfl) (by kernel_rfl) rfl (fun _ _ h_ => R.asE rfl (by conv => lhs; whnf) (TL.nil h_)) ?_
          refine Plan.done (Post.thnN ?_)
          refine T.ret ?_
          -- way n01
          have hpe : putL xs x = xs.take k ++ [x] ++ xs.drop k := by unfold putL; rw [hkk, if_neg (by rw [hnk]; simp)]
          exact fin1 rfl rfl ⟨rfl, by rw [hpe]; exact hw44⟩
      · refine R.bs rfl (run_buildSlice1 Try.underlying23 Try.sizeOf3 Try.zeroValue3 rfl rfl) ?_
        intro b39
        refine TL.nil (Plan.e1 (HLe.refl _) ?_)
        refine Plan.s1 0 [4, 7, 11, 12] (by kernel_rfl) (by kernel_rfl) rfl ?_
        refine R.bs0 (E := (intE .i64)) rfl Try.underlying23 Try.sizeOf3 ?_
        intro v33 c33 w33
        refine TL.nil (Plan.e1 (HLe.refl _) ?_)
        refine Plan.s1 4 [7, 11, 12] (by kernel_rfl) (by kernel_rfl) rfl ?_
        obtain ⟨cs37, y37, r37⟩ := Src.rdA ((hr.mono s_0).takeC hk hc1)
        refine R.app Try_ty23 rfl rfl rfl w33 (by first | exact .hd | exact .tl .hd | exact .tl (.tl .hd) | exact .tl (.tl (.tl .hd)) | exact .tl (.tl (.tl (.tl .hd))) | exact .tl (.tl (.tl (.tl (.tl .hd)))) | exact .tl (.tl (.tl (.tl (.tl (.tl .hd))))) | exact .tl (.tl (.tl (.tl (.tl (.tl (.tl .hd)))))) | exact .tl (.tl (.tl (.tl (.tl (.tl (.tl (.tl .hd))))))) | exact .tl (.tl (.tl (.tl (.tl (.tl (.tl (.tl (.tl .hd))))))))) (r37 _) y37 (by simp; omega) (by simp; omega) ?_
        intro v37 c37 w37
        rw [List.nil_append] at w37
        refine TL.nil (Plan.e1 (HLe.refl _) ?_)
        refine Plan.s1 7 [11, 12] (by kernel_rfl) (by kernel_rfl) rfl ?_
        refine R.app (ys := [x]) Try_ty23 rfl rfl rfl w37 (by first | exact .hd | exact .tl .hd | exact .tl (.tl .hd) | exact .tl (.tl (.tl .hd)) | exact .tl (.tl (.tl (.tl .hd))) | exact .tl (.tl (.tl (.tl (.tl .hd)))) | exact .tl (.tl (.tl (.tl (.tl (.tl .hd))))) | exact .tl (.tl (.tl (.tl (.tl (.tl (.tl .hd)))))) | exact .tl (.tl (.tl (.tl (.tl (.tl (.tl (.tl .hd))))))) | exact .tl (.tl (.tl (.tl (.tl (.tl (.tl (.tl (.tl .hd))))))))) (Src.lit (vs := [.int .i64 x]) (by first | exact .hd | exact .tl .hd | exact .tl (.tl .hd) | exact .tl (.tl (.tl .hd)) | exact .tl (.tl (.tl (.tl .hd))) | exact .tl (.tl (.tl (.tl (.tl .hd)))) | exact .tl (.tl (.tl (.tl (.tl (.tl .hd))))) | exact .tl (.tl (.tl (.tl (.tl (.tl (.tl .hd)))))) | exact .tl (.tl (.tl (.tl (.tl (.tl (.tl (.tl .hd))))))) | exact .tl (.tl (.tl (.tl (.tl (.tl (.tl (.tl (.tl .hd)))))))))) ⟨[.int .i64 x], [], rfl, rfl, rfl⟩ (by simp; omega) (by simp; omega) ?_
        intro v40 c40 w40
        refine TL.nil (Plan.e1 (HLe.refl _) ?_)
        refine Plan.s1 11 [12] (by kernel_rfl) (by kernel_rfl) rfl ?_
        obtain ⟨cs44, y44, r44⟩ := Src.rdA ((hr.mono s_0).drop hk hc1)
        refine R.app Try_ty23 rfl rfl rfl w40 (by first | exact .hd | exact .tl .hd | exact .tl (.tl .hd) | exact .tl (.tl (.tl .hd)) | exact .tl (.tl (.tl (.tl .hd))) | exact .tl (.tl (.tl (.tl (.tl .hd)))) | exact .tl (.tl (.tl (.tl (.tl (.tl .hd))))) | exact .tl (.tl (.tl (.tl (.tl (.tl (.tl .hd)))))) | exact .tl (.tl (.tl (.tl (.tl (.tl (.tl (.tl .hd))))))) | exact .tl (.tl (.tl (.tl (.tl (.tl (.tl (.tl (.tl .hd))))))))) (r44 _) y44 (by simp; omega) (by simp; omega) ?_
        intro v44 c44 w44
        refine TL.shut .hd ?_
        intro H44 s44 q44
        have hw44 := w44.read s44 q44
        refine TL.nil (Plan.e1 (s44) ?_)
        refine Plan.v 12 [] (by kernel_rfl) (by kernel_rfl) (by kernel_rfl) (by kernel_rfl) rfl (fun _ _ h_ => R.asE rfl (by conv => lhs; whnf) (TL.nil h_)) ?_
        refine Plan.done (Post.thnN ?_)
        refine T.ret ?_
        -- way n1
        have hpe : putL xs x = xs.take k ++ [x] ++ xs.drop k := by unfold putL; rw [hkk, if_neg (by rw [hnk]; simp)]
        exact fin1 rfl rfl ⟨rfl, by rw [hpe]; exact hw44⟩


set_option maxHeartbeats 1600000 in
theorem to16_c (H : Heap) (v : Value) (xs : List Lk) (x : Int) (hr : RdS pairE H v xs) (hl : xs.length ≤ 100000) : Fp Try.prog (fnv 52) [v, .int .i64 x] H (fun v' H' => RdS (intE .i64) H' v' (toL xs x)) := by
  refine Fc.of_body (N := 29) Try.func52 rfl (by kernel_rfl) rfl rfl ?_
  intro w0
  obtain ⟨A, c, rfl, hc1, hc2, hr⟩ := hr.shape
  refine T.seq ?_
  refine T.region ?_
  refine R.asE rfl (by conv => lhs; whnf) ?_
  refine TL.nil (Post.thnN ?_)
  refine T.seq ?_
  refine T.region ?_
  refine R.asE rfl (by conv => lhs; whnf) ?_
  refine TL.nil (Post.thnN ?_)
  refine T.seq ?_
  refine T.seq ?_
  refine T.nilc ?_
  refine T.region ?_
  refine R.mvE rfl (by conv => lhs; whnf) ?_
  refine R.len Try.underlying22 rfl rfl ?_
  refine R.mvE rfl (by conv => lhs; whnf) ?_
  refine TL.nil (Post.thnN ?_)
  refine T.block ?_
  refine T.loop (ι := Nat × Value × Chunk) (fun q H' L' ds' => q.1 ≤ xs.length ∧ L' = [q.2.2] ∧ ds' = [] ∧ OwnS (intE .i64) 3 H' q.2.1 (((xs.take q.1).filter (fun y => decide (y.1 = x) && chainB xs)).map (fun y => y.2)) q.2.2) (fun q => [(0, .slice A xs.length c), (1, .int .i64 x), (5, q.2.1), (8, .slice A xs.length c), (9, .int .i64 xs.length), (10, .int .i64 q.1)]) (fun q => xs.length - q.1) ((0, .slice none 0 0, [])) ?_ ?_ ?_
  · exact ⟨Nat.zero_le _, rfl, rfl, OwnS.nil⟩
  · exact ⟨rfl, rfl, rfl, rfl, rfl, rfl, trivial⟩
  · intro q σ0 H_0 L_0 ds_0 s_0 hI_0
    obtain ⟨hk, rfl, rfl, ho⟩ := hI_0
    refine T.seq ?_
    refine T.region ?_
    refine R.lss rfl rfl rfl ?_
    refine TL.nil (Post.thnN ?_)
    refine T.seq ?_
    refine T.condD rfl (fun c11 => ?_) (fun c11 => ?_)
    · have hlt : q.1 < xs.length := by omega
      obtain ⟨y, hy⟩ := getk hlt
      refine T.skip (Post.thnN ?_)
      refine T.seq ?_
      refine T.block ?_
      refine T.seq ?_
      refine T.region ?_
      obtain ⟨b12, o12, i12, e12⟩ := (hr.mono s_0).elem (hy)
      refine R.ixp Try.underlying22 Try.sizeOf37 rfl rfl rfl (by omega) i12 ?_
      refine R.ldP Try.isAgg37 Try.sizeOf37 rfl rfl (e12) ?_
      refine R.alloc Try.zeroValue37 rfl ?_
      intro b7
      refine R.stA (old := [.int .i64 0, .int .i64 0]) Try.sizeOf37 rfl rfl rfl rfl rfl (by intro v hv; simp at hv; rcases hv with rfl | rfl <;> rfl) .hd ?_
      refine TL.nil (Post.thnN ?_)
      refine T.seq ?_
      refine T.shut .hd ?_
      intro H7 s7 q7
      have h7 : H7 b7 = some (.cells #[.int .i64 y.1, .int .i64 y.2] 37) := shut1 q7
      refine T.region ?_
      refine R.fldA Try.underlying37 rfl Try.sizeOf3 (by decide) rfl rfl ?_
      refine R.ldH Try.isAgg3 rfl rfl (h7) rfl ?_
      refine R.mvE rfl (by conv => lhs; whnf) ?_
      refine R.eql rfl rfl rfl ?_
      refine R.mvE rfl (by conv => lhs; whnf) ?_
      refine TL.gsplitD 18 rfl (fun g18 => ?_) (fun g18 => ?_)
      · refine R.mvE rfl (by conv => lhs; whnf) ?_
        refine R.callv rfl rfl rfl (rright_c _ _ _ ((hr.mono s_0).mono s7)) ?_
        refine R.pkTE rfl rfl (by conv => lhs; whnf) ?_
        refine TL.nil (Post.thnN ?_)
        refine T.cond rfl (fun c21 => ?_) (fun c21 => ?_)
        · refine T.region ?_
          refine R.mvE rfl (by conv => lhs; whnf) ?_
          refine R.fldA Try.underlying37 rfl Try.sizeOf3 (by decide) rfl rfl ?_
          refine R.ldH Try.isAgg3 rfl rfl (h7) rfl ?_
          refine R.bs rfl (run_buildSlice1 Try.underlying23 Try.sizeOf3 Try.zeroValue3 rfl rfl) ?_
          intro b25
          refine R.app (ys := [y.2]) Try_ty23 rfl rfl rfl (ho.mono s7) (.tl .hd) (Src.lit (vs := [.int .i64 y.2]) .hd) ⟨[.int .i64 y.2], [], rfl, rfl, rfl⟩ (by have := List.length_filter_le (fun y => decide (y.1 = x) && chainB xs) (xs.take q.1); have : (xs.take q.1).length ≤ xs.length := (by simp; omega); simp only [List.length_map, List.length_cons, List.length_nil]; omega) (by have := List.length_filter_le (fun y => decide (y.1 = x) && chainB xs) (xs.take q.1); have : (xs.take q.1).length ≤ xs.length := (by simp; omega); simp only [List.length_map, List.length_cons, List.length_nil]; omega) ?_
          intro v26 c26 w26
          refine TL.del (.tl .hd) ?_
          refine R.asE rfl (by conv => lhs; whnf) ?_
          refine TL.nil (Post.blkN ?_)
          refine id (Post.thnN ?_)
          refine T.region ?_
          refine R.addI rfl rfl rfl (by omega) ?_
          refine R.mvE rfl (by conv => lhs; whnf) ?_
          refine TL.nil (Post.thnN ?_)
          -- round's end, way yyy
          exact ⟨(q.1 + 1, v26, c26), s_0.trans s7, ⟨by show q.1 + 1 ≤ xs.length; omega, rfl, rfl, by rw [filtP_yes hy (by rw [decide_eq_true g18, c21]; rfl)]; exact w26⟩, by show xs.length - (q.1 + 1) < xs.length - q.1; omega, ⟨rfl, rfl, rfl, rfl, rfl, rfl, trivial⟩⟩
        · refine T.skip (Post.blkN ?_)
          refine id (Post.thnN ?_)
          refine T.region ?_
          refine R.addI rfl rfl rfl (by omega) ?_
          refine R.mvE rfl (by conv => lhs; whnf) ?_
          refine TL.nil (Post.thnN ?_)
          -- round's end, way yyn
          exact ⟨(q.1 + 1, q.2.1, q.2.2), s_0.trans s7, ⟨by show q.1 + 1 ≤ xs.length; omega, rfl, rfl, by rw [filtP_no hy (by rw [decide_eq_true g18, c21]; rfl)]; exact ho.mono s7⟩, by show xs.length - (q.1 + 1) < xs.length - q.1; omega, ⟨rfl, rfl, rfl, rfl, rfl, rfl, trivial⟩⟩
      · refine TL.off rfl rfl rfl ?_
        refine TL.off rfl rfl rfl ?_
        refine R.pkFE rfl rfl (by conv => lhs; whnf) ?_
        refine TL.nil (Post.thnN ?_)
        refine T.condN rfl ?_
        refine T.skip (Post.blkN ?_)
        refine id (Post.thnN ?_)
        refine T.region ?_
        refine R.addI rfl rfl rfl (by omega) ?_
        refine R.mvE rfl (by conv => lhs; whnf) ?_
        refine TL.nil (Post.thnN ?_)
        -- round's end, way yn
        exact ⟨(q.1 + 1, q.2.1, q.2.2), s_0.trans s7, ⟨by show q.1 + 1 ≤ xs.length; omega, rfl, rfl, by rw [filtP_no hy (by rw [decide_eq_false g18]; rfl)]; exact ho.mono s7⟩, by show xs.length - (q.1 + 1) < xs.length - q.1; omega, ⟨rfl, rfl, rfl, rfl, rfl, rfl, trivial⟩⟩
    · refine T.exit (Post.thnE (Post.thnE (Post.blkX ?_)))
      refine id (Post.thnN ?_)
      refine T.seq ?_
      refine T.shut .hd ?_
      intro HS sS qS
      have hkx : q.1 = xs.length := by omega
      rw [hkx, List.take_length, toL_eq] at ho
      have hw := ho.read sS qS
      refine T.region ?_
      refine R.mvE rfl (by conv => lhs; whnf) ?_
      refine R.asE rfl (by conv => lhs; whnf) ?_
      refine TL.nil (Post.thnN ?_)
      refine T.ret ?_
      -- way n
      exact fin1 rfl rfl ⟨rfl, hw⟩


set_option maxHeartbeats 1600000 in
theorem from16_c (H : Heap) (v : Value) (xs : List Lk) (x : Int) (hr : RdS pairE H v xs) (hl : xs.length ≤ 100000) : Fp Try.prog (fnv 54) [v, .int .i64 x] H (fun v' H' => RdS (intE .i64) H' v' (fromL xs x)) := by
  refine Fc.of_body (N := 29) Try.func54 rfl (by kernel_rfl) rfl rfl ?_
  intro w0
  obtain ⟨A, c, rfl, hc1, hc2, hr⟩ := hr.shape
  refine T.seq ?_
  refine T.region ?_
  refine R.asE rfl (by conv => lhs; whnf) ?_
  refine TL.nil (Post.thnN ?_)
  refine T.seq ?_
  refine T.region ?_
  refine R.asE rfl (by conv => lhs; whnf) ?_
  refine TL.nil (Post.thnN ?_)
  refine T.seq ?_
  refine T.seq ?_
  refine T.nilc ?_
  refine T.region ?_
  refine R.mvE rfl (by conv => lhs; whnf) ?_
  refine R.len Try.underlying22 rfl rfl ?_
  refine R.mvE rfl (by conv => lhs; whnf) ?_
  refine TL.nil (Post.thnN ?_)
  refine T.block ?_
  refine T.loop (ι := Nat × Value × Chunk) (fun q H' L' ds' => q.1 ≤ xs.length ∧ L' = [q.2.2] ∧ ds' = [] ∧ OwnS (intE .i64) 3 H' q.2.1 (((xs.take q.1).filter (fun y => decide (y.2 = x) && chainB xs)).map (fun y => y.1)) q.2.2) (fun q => [(0, .slice A xs.length c), (1, .int .i64 x), (5, q.2.1), (8, .slice A xs.length c), (9, .int .i64 xs.length), (10, .int .i64 q.1)]) (fun q => xs.length - q.1) ((0, .slice none 0 0, [])) ?_ ?_ ?_
  · exact ⟨Nat.zero_le _, rfl, rfl, OwnS.nil⟩
  · exact ⟨rfl, rfl, rfl, rfl, rfl, rfl, trivial⟩
  · intro q σ0 H_0 L_0 ds_0 s_0 hI_0
    obtain ⟨hk, rfl, rfl, ho⟩ := hI_0
    refine T.seq ?_
    refine T.region ?_
    refine R.lss rfl rfl rfl ?_
    refine TL.nil (Post.thnN ?_)
    refine T.seq ?_
    refine T.condD rfl (fun c11 => ?_) (fun c11 => ?_)
    · have hlt : q.1 < xs.length := by omega
      obtain ⟨y, hy⟩ := getk hlt
      refine T.skip (Post.thnN ?_)
      refine T.seq ?_
      refine T.block ?_
      refine T.seq ?_
      refine T.region ?_
      obtain ⟨b12, o12, i12, e12⟩ := (hr.mono s_0).elem (hy)
      refine R.ixp Try.underlying22 Try.sizeOf37 rfl rfl rfl (by omega) i12 ?_
      refine R.ldP Try.isAgg37 Try.sizeOf37 rfl rfl (e12) ?_
      refine R.alloc Try.zeroValue37 rfl ?_
      intro b7
      refine R.stA (old := [.int .i64 0, .int .i64 0]) Try.sizeOf37 rfl rfl rfl rfl rfl (by intro v hv; simp at hv; rcases hv with rfl | rfl <;> rfl) .hd ?_
      refine TL.nil (Post.thnN ?_)
      refine T.seq ?_
      refine T.shut .hd ?_
      intro H7 s7 q7
      have h7 : H7 b7 = some (.cells #[.int .i64 y.1, .int .i64 y.2] 37) := shut1 q7
      refine T.region ?_
      refine R.fldA Try.underlying37 rfl Try.sizeOf3 (by decide) rfl rfl ?_
      refine R.ldH Try.isAgg3 rfl rfl (h7) rfl ?_
      refine R.mvE rfl (by conv => lhs; whnf) ?_
      refine R.eql rfl rfl rfl ?_
      refine R.mvE rfl (by conv => lhs; whnf) ?_
      refine TL.gsplitD 18 rfl (fun g18 => ?_) (fun g18 => ?_)
      · refine R.mvE rfl (by conv => lhs; whnf) ?_
        refine R.callv rfl rfl rfl (rright_c _ _ _ ((hr.mono s_0).mono s7)) ?_
        refine R.pkTE rfl rfl (by conv => lhs; whnf) ?_
        refine TL.nil (Post.thnN ?_)
        refine T.cond rfl (fun c21 => ?_) (fun c21 => ?_)
        · refine T.region ?_
          refine R.mvE rfl (by conv => lhs; whnf) ?_
          refine R.fldA Try.underlying37 rfl Try.sizeOf3 (by decide) rfl rfl ?_
          refine R.ldH Try.isAgg3 rfl rfl (h7) rfl ?_
          refine R.bs rfl (run_buildSlice1 Try.underlying23 Try.sizeOf3 Try.zeroValue3 rfl rfl) ?_
          intro b25
          refine R.app (ys := [y.1]) Try_ty23 rfl rfl rfl (ho.mono s7) (.tl .hd) (Src.lit (vs := [.int .i64 y.1]) .hd) ⟨[.int .i64 y.1], [], rfl, rfl, rfl⟩ (by have := List.length_filter_le (fun y => decide (y.2 = x) && chainB xs) (xs.take q.1); have : (xs.take q.1).length ≤ xs.length := (by simp; omega); simp only [List.length_map, List.length_cons, List.length_nil]; omega) (by have := List.length_filter_le (fun y => decide (y.2 = x) && chainB xs) (xs.take q.1); have : (xs.take q.1).length ≤ xs.length := (by simp; omega); simp only [List.length_map, List.length_cons, List.length_nil]; omega) ?_
          intro v26 c26 w26
          refine TL.del (.tl .hd) ?_
          refine R.asE rfl (by conv => lhs; whnf) ?_
          refine TL.nil (Post.blkN ?_)
          refine id (Post.thnN ?_)
          refine T.region ?_
          refine R.addI rfl rfl rfl (by omega) ?_
          refine R.mvE rfl (by conv => lhs; whnf) ?_
          refine TL.nil (Post.thnN ?_)
          -- round's end, way yyy
          exact ⟨(q.1 + 1, v26, c26), s_0.trans s7, ⟨by show q.1 + 1 ≤ xs.length; omega, rfl, rfl, by rw [filtP_yes hy (by rw [decide_eq_true g18, c21]; rfl)]; exact w26⟩, by show xs.length - (q.1 + 1) < xs.length - q.1; omega, ⟨rfl, rfl, rfl, rfl, rfl, rfl, trivial⟩⟩
        · refine T.skip (Post.blkN ?_)
          refine id (Post.thnN ?_)
          refine T.region ?_
          refine R.addI rfl rfl rfl (by omega) ?_
          refine R.mvE rfl (by conv => lhs; whnf) ?_
          refine TL.nil (Post.thnN ?_)
          -- round's end, way yyn
          exact ⟨(q.1 + 1, q.2.1, q.2.2), s_0.trans s7, ⟨by show q.1 + 1 ≤ xs.length; omega, rfl, rfl, by rw [filtP_no hy (by rw [decide_eq_true g18, c21]; rfl)]; exact ho.mono s7⟩, by show xs.length - (q.1 + 1) < xs.length - q.1; omega, ⟨rfl, rfl, rfl, rfl, rfl, rfl, trivial⟩⟩
      · refine TL.off rfl rfl rfl ?_
        refine TL.off rfl rfl rfl ?_
        refine R.pkFE rfl rfl (by conv => lhs; whnf) ?_
        refine TL.nil (Post.thnN ?_)
        refine T.condN rfl ?_
        refine T.skip (Post.blkN ?_)
        refine id (Post.thnN ?_)
        refine T.region ?_
        refine R.addI rfl rfl rfl (by omega) ?_
        refine R.mvE rfl (by conv => lhs; whnf) ?_
        refine TL.nil (Post.thnN ?_)
        -- round's end, way yn
        exact ⟨(q.1 + 1, q.2.1, q.2.2), s_0.trans s7, ⟨by show q.1 + 1 ≤ xs.length; omega, rfl, rfl, by rw [filtP_no hy (by rw [decide_eq_false g18]; rfl)]; exact ho.mono s7⟩, by show xs.length - (q.1 + 1) < xs.length - q.1; omega, ⟨rfl, rfl, rfl, rfl, rfl, rfl, trivial⟩⟩
    · refine T.exit (Post.thnE (Post.thnE (Post.blkX ?_)))
      refine id (Post.thnN ?_)
      refine T.seq ?_
      refine T.shut .hd ?_
      intro HS sS qS
      have hkx : q.1 = xs.length := by omega
      rw [hkx, List.take_length, fromL_eq] at ho
      have hw := ho.read sS qS
      refine T.region ?_
      refine R.mvE rfl (by conv => lhs; whnf) ?_
      refine R.asE rfl (by conv => lhs; whnf) ?_
      refine TL.nil (Post.thnN ?_)
      refine T.ret ?_
      -- way n
      exact fin1 rfl rfl ⟨rfl, hw⟩

end Go.SX
