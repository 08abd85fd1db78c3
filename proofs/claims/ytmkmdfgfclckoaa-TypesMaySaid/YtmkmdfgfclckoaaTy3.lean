/- types: Has, Taken, Targets, Mentions. -/
import Derived.Test.YtmkmdfgfclckoaaTy2
set_option linter.unusedVariables false
set_option linter.unusedSimpArgs false
namespace Go.SX
open Go Go.Proofs

set_option maxHeartbeats 1600000 in
theorem Has_c (H : Heap) (v : Value) (xs : List Int) (x : Int) (hr : RdS (intE .u64) H v xs) (hU : Us xs) (hl : xs.length ≤ 1000) : Fv Try.prog (fnv 13) [v, .int .u64 x] H (.bool (!(someL xs (fun y => decide (y = x))).isEmpty)) := by
  refine Fc.of_body (N := 9) Try.func13 rfl (by kernel_rfl) rfl rfl ?_
  intro w0
  refine T.seq ?_
  refine T.region ?_
  refine R.box rfl (by conv => lhs; whnf) ?_
  intro b3
  refine R.alloc Try.zeroValue4 rfl ?_
  intro b4
  refine TL.nil (Post.thnN ?_)
  refine T.seq ?_
  refine T.seq ?_
  refine T.shut (.tl .hd) ?_
  intro H3 s3 q3
  have h3 := shut1 q3
  refine T.region ?_
  refine R.mvE rfl (by conv => lhs; whnf) ?_
  refine R.mkf (cs := [_]) rfl rfl ?_
  refine R.callp rfl rfl rfl (some_c _ _ _ _ _ rfl (hr.mono s3) hU (fun H2 h2 y _ => has1_c H2 b3 x y (h2 _ _ h3))) ?_
  intro v7 H7 s7 q7
  obtain ⟨lb, rfl, hit⟩ := q7
  refine TL.nil (Post.thnN ?_)
  refine T.block ?_
  refine T.rangeFunc rfl rfl (enters_of Try.func82 (by kernel_rfl) rfl) hit (fun _ _ _ h => by subst h; rfl) rfl (fun pre H' L' => pre = [] ∧ L' = [[(b4, .cells #[.bool false] 4)]]) (fun c pre H' L' => c = .ret ∧ L' = [[(b4, .cells #[.bool true] 4)]]) (fun _ _ _ _ _ h => h) (fun _ _ _ _ _ _ h => h) ?_ ?_ ?_ ?_
  · exact ⟨rfl, rfl⟩
  · intro l0 r0 w0 pre y vs Hr0 Lr0 sr0 hp0 hI0 hY0
    obtain ⟨_, rfl⟩ := hI0
    obtain rfl := hY0
    refine T.skip ?_
    refine onlyN.mk ?_
    refine T.block ?_
    refine T.seq ?_
    refine T.region ?_
    refine R.st Try.sizeOf4 rfl rfl (by conv => lhs; whnf) rfl (by first | exact .hd | exact .tl .hd | exact .tl (.tl .hd) | exact .tl (.tl (.tl .hd)) | exact .tl (.tl (.tl (.tl .hd))) | exact .tl (.tl (.tl (.tl (.tl .hd)))) | exact .tl (.tl (.tl (.tl (.tl (.tl .hd))))) | exact .tl (.tl (.tl (.tl (.tl (.tl (.tl .hd)))))) | exact .tl (.tl (.tl (.tl (.tl (.tl (.tl (.tl .hd))))))) | exact .tl (.tl (.tl (.tl (.tl (.tl (.tl (.tl (.tl .hd))))))))) ?_
    refine TL.nil (Post.thnN ?_)
    refine T.ret (Post.blkR ?_)
    -- way b
    exact ⟨rfl, rfl⟩
  · intro D0 Hr0 Lr0 sr0 hI0
    obtain ⟨hnil, rfl⟩ := hI0
    refine id (Post.blkN ?_)
    refine id (Post.thnN ?_)
    refine T.seq ?_
    refine T.region ?_
    refine R.st Try.sizeOf4 rfl rfl (by conv => lhs; whnf) rfl (by first | exact .hd | exact .tl .hd | exact .tl (.tl .hd) | exact .tl (.tl (.tl .hd)) | exact .tl (.tl (.tl (.tl .hd))) | exact .tl (.tl (.tl (.tl (.tl .hd)))) | exact .tl (.tl (.tl (.tl (.tl (.tl .hd))))) | exact .tl (.tl (.tl (.tl (.tl (.tl (.tl .hd)))))) | exact .tl (.tl (.tl (.tl (.tl (.tl (.tl (.tl .hd))))))) | exact .tl (.tl (.tl (.tl (.tl (.tl (.tl (.tl (.tl .hd))))))))) ?_
    refine TL.nil (Post.thnN ?_)
    refine T.ret ?_
    -- way d
    exact fin1C [] rfl Try.isAgg4 rfl .hd rfl (List.nil_sublist _) ⟨rfl, congrArg Value.bool (by rw [hnil]; rfl)⟩
  · intro D0 c0 pre y Hr0 Lr0 sr0 hp0 hI0
    obtain ⟨rfl, rfl⟩ := hI0
    refine T.ret (Post.blkR (Post.thnR ?_))
    -- way s
    exact fin1C [] rfl Try.isAgg4 rfl .hd rfl (List.nil_sublist _) ⟨rfl, congrArg Value.bool (pre_ne hp0).symm⟩


set_option maxHeartbeats 1600000 in
theorem Taken_c (H : Heap) (v : Value) (xs : List Int) (x : Int) (hr : RdS (intE .u64) H v xs) (hU : Us xs) (hl : xs.length ≤ 1000) (hx : U x) : Fp Try.prog (fnv 16) [v, .int .u64 x] H (fun v' H' => RdS (intE .u64) H' v' (someL xs (takesB x))) := by
  refine Fc.of_body (N := 9) Try.func16 rfl (by kernel_rfl) rfl rfl ?_
  intro w0
  refine T.seq ?_
  refine T.region ?_
  refine R.box rfl (by conv => lhs; whnf) ?_
  intro b3
  refine R.asE rfl (by conv => lhs; whnf) ?_
  refine TL.nil (Post.thnN ?_)
  refine T.seq ?_
  refine T.shut .hd ?_
  intro H3 s3 q3
  have h3 := shut1 q3
  refine T.region ?_
  refine R.mvE rfl (by conv => lhs; whnf) ?_
  refine R.mkf (cs := [_]) rfl rfl ?_
  refine R.callp rfl rfl rfl (some_c _ _ _ _ _ rfl (hr.mono s3) hU (fun H2 h2 y hy => taken1_c H2 b3 x y hx hy (h2 _ _ h3))) ?_
  intro v7 H7 s7 q7
  obtain ⟨lb, rfl, hit⟩ := q7
  refine R.callp rfl rfl rfl (gatherU22_c _ _ _ _ _ (fun y => y) (enters_of Try.func82 (by kernel_rfl) rfl) rfl (by have := someL_len xs (takesB x); omega) (fun y hy => hU y (someL_mem hy)) hit (fun H2 _ y _ => self_c H2 y)) ?_
  intro v8 H8 s8 q8
  refine R.asE rfl (by conv => lhs; whnf) ?_
  refine TL.nil (Post.thnN ?_)
  refine T.ret ?_
  exact fin1 rfl rfl ⟨rfl, by rw [List.map_id'] at q8; exact q8⟩


set_option maxHeartbeats 1600000 in
theorem Targets_c (H : Heap) (v : Value) (xs : List Int) (n : Int) (hr : RdS (intE .u64) H v xs) (hU : Us xs) (hl : xs.length ≤ 1000) : Fp Try.prog (fnv 20) [v, .int .i64 n] H (fun v' H' => RdS (intE .i64) H' v' ((someL xs (pairP (fun a _ => decide (a = n)))).map (fun y => (partsI y).2))) := by
  refine Fc.of_body (N := 9) Try.func20 rfl (by kernel_rfl) rfl rfl ?_
  intro w0
  refine T.seq ?_
  refine T.region ?_
  refine R.box rfl (by conv => lhs; whnf) ?_
  intro b3
  refine R.asE rfl (by conv => lhs; whnf) ?_
  refine TL.nil (Post.thnN ?_)
  refine T.seq ?_
  refine T.shut .hd ?_
  intro H3 s3 q3
  have h3 := shut1 q3
  refine T.region ?_
  refine R.mvE rfl (by conv => lhs; whnf) ?_
  refine R.mkf (cs := [_]) rfl rfl ?_
  refine R.callp rfl rfl rfl (pairs_c _ _ _ _ (fun a _ => decide (a = n)) rfl (hr.mono s3) hU (fun H2 h2 a b => targets1_c H2 b3 n a b (h2 _ _ h3))) ?_
  intro v7 H7 s7 q7
  obtain ⟨lb, rfl, hit⟩ := q7
  refine R.callp rfl rfl rfl (gatherI23_c _ _ _ _ _ (fun y => (partsI y).2) (enters_of Try.func82 (by kernel_rfl) rfl) rfl (by have := someL_len xs (pairP (fun a _ => decide (a = n))); omega) (fun y hy => hU y (someL_mem hy)) hit (fun H2 _ y hy => targets2_c H2 y hy)) ?_
  intro v8 H8 s8 q8
  refine R.asE rfl (by conv => lhs; whnf) ?_
  refine TL.nil (Post.thnN ?_)
  refine T.ret ?_
  exact fin1 rfl rfl ⟨rfl, q8⟩


set_option maxHeartbeats 1600000 in
theorem Mentions_c (H : Heap) (v : Value) (xs : List Int) (n : Int) (hr : RdS (intE .u64) H v xs) (hU : Us xs) (hl : xs.length ≤ 1000) : Fp Try.prog (fnv 21) [v, .int .i64 n] H (fun v' H' => RdS (intE .u64) H' v' (someL xs (pairP (fun a b => decide (a = n) || decide (b = n))))) := by
  refine Fc.of_body (N := 9) Try.func21 rfl (by kernel_rfl) rfl rfl ?_
  intro w0
  refine T.seq ?_
  refine T.region ?_
  refine R.box rfl (by conv => lhs; whnf) ?_
  intro b3
  refine R.asE rfl (by conv => lhs; whnf) ?_
  refine TL.nil (Post.thnN ?_)
  refine T.seq ?_
  refine T.shut .hd ?_
  intro H3 s3 q3
  have h3 := shut1 q3
  refine T.region ?_
  refine R.mvE rfl (by conv => lhs; whnf) ?_
  refine R.mkf (cs := [_]) rfl rfl ?_
  refine R.callp rfl rfl rfl (pairs_c _ _ _ _ (fun a b => decide (a = n) || decide (b = n)) rfl (hr.mono s3) hU (fun H2 h2 a b => mentions1_c H2 b3 n a b (h2 _ _ h3))) ?_
  intro v7 H7 s7 q7
  obtain ⟨lb, rfl, hit⟩ := q7
  refine R.callp rfl rfl rfl (gatherU22_c _ _ _ _ _ (fun y => y) (enters_of Try.func82 (by kernel_rfl) rfl) rfl (by have := someL_len xs (pairP (fun a b => decide (a = n) || decide (b = n))); omega) (fun y hy => hU y (someL_mem hy)) hit (fun H2 _ y _ => self_c H2 y)) ?_
  intro v8 H8 s8 q8
  refine R.asE rfl (by conv => lhs; whnf) ?_
  refine TL.nil (Post.thnN ?_)
  refine T.ret ?_
  exact fin1 rfl rfl ⟨rfl, by rw [List.map_id'] at q8; exact q8⟩

end Go.SX
