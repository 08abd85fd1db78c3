/- The reference of types: With, Of, Compare. -/
import Derived.Test.YtmkmdfgfclckoaaR31
import Derived.Test.YtmkmdfgfclckoaaWv
set_option linter.unusedVariables false
set_option linter.unusedSimpArgs false
namespace Go.SX
open Go Go.Proofs

set_option maxHeartbeats 1600000 in
theorem rwith_c (H : Heap) (v : Value) (xs : List Int) (x : Int) (hr : RdS (intE .u64) H v xs) (hl : xs.length ≤ 1000) : Fp Try.prog (fnv 23) [v, .int .u64 x] H (fun v' H' => RdS (intE .u64) H' v' (wthR xs x)) := by
  refine Fc.of_body (N := 43) Try.func23 rfl (by kernel_rfl) rfl rfl ?_
  intro w0
  obtain ⟨A, c, rfl, hc1, hc2, hr⟩ := hr.shape
  refine T.seq ?_
  refine T.region ?_
  refine R.asE rfl (by conv => lhs; whnf) ?_
  refine TL.nil (Post.thnN ?_)
  refine T.seq ?_
  refine T.region ?_
  refine R.asE rfl (by conv => lhs; whnf) ?_
  refine TL.nil (Post.thnN ?_)
  refine T.seq ?_
  refine T.seq ?_
  refine T.nilc ?_
  refine T.region ?_
  refine R.mvE rfl (by conv => lhs; whnf) ?_
  refine R.len Try.underlying22 rfl rfl ?_
  refine R.mvE rfl (by conv => lhs; whnf) ?_
  refine TL.nil (Post.thnN ?_)
  refine T.block ?_
  refine T.loop (ι := Nat × Value × Chunk) (fun q H' L' ds' => q.1 ≤ xs.length ∧ L' = [q.2.2] ∧ ds' = [] ∧ OwnS (intE .u64) 28 H' q.2.1 ((xs.take q.1).filter (fun y => decide (y < x))) q.2.2) (fun q => [(0, .slice A xs.length c), (1, .int .u64 x), (5, q.2.1), (10, .slice A xs.length c), (11, .int .i64 xs.length), (12, .int .i64 q.1)]) (fun q => xs.length - q.1) ((0, .slice none 0 0, [])) ?_ ?_ ?_
  · exact ⟨Nat.zero_le _, rfl, rfl, OwnS.nil⟩
  · exact ⟨rfl, rfl, rfl, rfl, rfl, rfl, trivial⟩
  · intro q σ0 H_0 L_0 ds_0 s_0 hI_0
    obtain ⟨hk, rfl, rfl, ho⟩ := hI_0
    refine T.seq ?_
    refine T.region ?_
    refine R.lss rfl rfl rfl ?_
    refine TL.nil (Post.thnN ?_)
    refine T.seq ?_
    refine T.condD rfl (fun c13 => ?_) (fun c13 => ?_)
    · have hlt : q.1 < xs.length := by omega
      obtain ⟨y, hy⟩ := getk hlt
      refine T.skip (Post.thnN ?_)
      refine T.seq ?_
      refine T.block ?_
      refine T.seq ?_
      refine T.region ?_
      obtain ⟨b14, o14, i14, e14⟩ := (hr.mono s_0).elem (hy)
      refine R.ixp Try.underlying22 Try.sizeOf28 rfl rfl rfl (by omega) i14 ?_
      refine R.ldC Try.isAgg28 rfl rfl (e14).int ?_
      refine R.asE rfl (by conv => lhs; whnf) ?_
      refine TL.nil (Post.thnN ?_)
      refine T.seq ?_
      refine T.region ?_
      refine R.mvE rfl (by conv => lhs; whnf) ?_
      refine R.mvE rfl (by conv => lhs; whnf) ?_
      refine R.lss rfl rfl rfl ?_
      refine TL.nil (Post.thnN ?_)
      refine T.condD rfl (fun c18 => ?_) (fun c18 => ?_)
      · refine T.region ?_
        refine R.mvE rfl (by conv => lhs; whnf) ?_
        refine R.mvE rfl (by conv => lhs; whnf) ?_
        refine R.bs rfl (run_buildSlice1 Try.underlying22 Try.sizeOf28 Try.zeroValue28 rfl rfl) ?_
        intro b21
        refine R.app (ys := [y]) Try_ty22 rfl rfl rfl ho (.tl .hd) (Src.lit (vs := [.int .u64 y]) .hd) ⟨[.int .u64 y], [], rfl, rfl, rfl⟩ (by have := List.length_filter_le (fun y => decide (y < x)) (xs.take q.1); have : (xs.take q.1).length ≤ xs.length := (by simp; omega); simp only [List.length_cons, List.length_nil]; omega) (by have := List.length_filter_le (fun y => decide (y < x)) (xs.take q.1); have : (xs.take q.1).length ≤ xs.length := (by simp; omega); simp only [List.length_cons, List.length_nil]; omega) ?_
        intro v22 c22 w22
        refine TL.del (.tl .hd) ?_
        refine R.asE rfl (by conv => lhs; whnf) ?_
        refine TL.nil (Post.blkN ?_)
        refine id (Post.thnN ?_)
        refine T.region ?_
        refine R.addI rfl rfl rfl (by omega) ?_
        refine R.mvE rfl (by conv => lhs; whnf) ?_
        refine TL.nil (Post.thnN ?_)
        -- round's end, way yy
        exact ⟨(q.1 + 1, v22, c22), s_0, ⟨by show q.1 + 1 ≤ xs.length; omega, rfl, rfl, by rw [filt_yes hy (decide_eq_true c18)]; exact w22⟩, by show xs.length - (q.1 + 1) < xs.length - q.1; omega, ⟨rfl, rfl, rfl, rfl, rfl, rfl, trivial⟩⟩
      · refine T.skip (Post.blkN ?_)
        refine id (Post.thnN ?_)
        refine T.region ?_
        refine R.addI rfl rfl rfl (by omega) ?_
        refine R.mvE rfl (by conv => lhs; whnf) ?_
        refine TL.nil (Post.thnN ?_)
        -- round's end, way yn
        exact ⟨(q.1 + 1, q.2.1, q.2.2), s_0, ⟨by show q.1 + 1 ≤ xs.length; omega, rfl, rfl, by rw [filt_no hy (decide_eq_false c18)]; exact ho⟩, by show xs.length - (q.1 + 1) < xs.length - q.1; omega, ⟨rfl, rfl, rfl, rfl, rfl, rfl, trivial⟩⟩
    · refine T.exit (Post.thnE (Post.thnE (Post.blkX ?_)))
      refine id (Post.thnN ?_)
      refine T.seq ?_
      have hkx : q.1 = xs.length := by omega
      rw [hkx, List.take_length] at ho
      refine T.region ?_
      refine R.mvE rfl (by conv => lhs; whnf) ?_
      refine R.mvE rfl (by conv => lhs; whnf) ?_
      refine R.bs rfl (run_buildSlice1 Try.underlying22 Try.sizeOf28 Try.zeroValue28 rfl rfl) ?_
      intro b26
      refine R.app (ys := [x]) Try_ty22 rfl rfl rfl ho (.tl .hd) (Src.lit (vs := [.int .u64 x]) .hd) ⟨[.int .u64 x], [], rfl, rfl, rfl⟩ (by have := List.length_filter_le (fun y => decide (y < x)) xs; simp only [List.length_cons, List.length_nil]; omega) (by have := List.length_filter_le (fun y => decide (y < x)) xs; simp only [List.length_cons, List.length_nil]; omega) ?_
      intro v27 c27 w27
      refine TL.del (.tl .hd) ?_
      refine R.asE rfl (by conv => lhs; whnf) ?_
      refine TL.nil (Post.thnN ?_)
      refine T.seq ?_
      refine T.seq ?_
      refine T.region ?_
      refine R.mvE rfl (by conv => lhs; whnf) ?_
      refine R.len Try.underlying22 rfl rfl ?_
      refine R.mvE rfl (by conv => lhs; whnf) ?_
      refine TL.nil (Post.thnN ?_)
      refine T.block ?_
      refine T.loop (ι := Nat × Value × Chunk) (fun q H' L' ds' => q.1 ≤ xs.length ∧ L' = [q.2.2] ∧ ds' = [] ∧ OwnS (intE .u64) 28 H' q.2.1 (xs.filter (fun y => decide (y < x)) ++ [x] ++ (xs.take q.1).filter (fun y => decide (x < y))) q.2.2) (fun q => [(1, .int .u64 x), (5, q.2.1), (28, .slice A xs.length c), (29, .int .i64 xs.length), (30, .int .i64 q.1)]) (fun q => xs.length - q.1) ((0, v27, c27)) ?_ ?_ ?_
      · exact ⟨Nat.zero_le _, rfl, rfl, by simpa using w27⟩
      · exact ⟨rfl, rfl, rfl, rfl, rfl, trivial⟩
      · intro q σ1 H_1 L_1 ds_1 s_1 hI_1
        obtain ⟨hk2, rfl, rfl, ho2⟩ := hI_1
        refine T.seq ?_
        refine T.region ?_
        refine R.lss rfl rfl rfl ?_
        refine TL.nil (Post.thnN ?_)
        refine T.seq ?_
        refine T.condD rfl (fun c31 => ?_) (fun c31 => ?_)
        · have hlt : q.1 < xs.length := by omega
          obtain ⟨y, hy⟩ := getk hlt
          refine T.skip (Post.thnN ?_)
          refine T.seq ?_
          refine T.block ?_
          refine T.seq ?_
          refine T.region ?_
          obtain ⟨b32, o32, i32, e32⟩ := (hr.mono (s_0.trans s_1)).elem (hy)
          refine R.ixp Try.underlying22 Try.sizeOf28 rfl rfl rfl (by omega) i32 ?_
          refine R.ldC Try.isAgg28 rfl rfl (e32).int ?_
          refine R.asE rfl (by conv => lhs; whnf) ?_
          refine TL.nil (Post.thnN ?_)
          refine T.seq ?_
          refine T.region ?_
          refine R.mvE rfl (by conv => lhs; whnf) ?_
          refine R.mvE rfl (by conv => lhs; whnf) ?_
          refine R.gtr rfl rfl rfl ?_
          refine TL.nil (Post.thnN ?_)
          refine T.condD rfl (fun c36 => ?_) (fun c36 => ?_)
          · refine T.region ?_
            refine R.mvE rfl (by conv => lhs; whnf) ?_
            refine R.mvE rfl (by conv => lhs; whnf) ?_
            refine R.bs rfl (run_buildSlice1 Try.underlying22 Try.sizeOf28 Try.zeroValue28 rfl rfl) ?_
            intro b39
            refine R.app (ys := [y]) Try_ty22 rfl rfl rfl ho2 (.tl .hd) (Src.lit (vs := [.int .u64 y]) .hd) ⟨[.int .u64 y], [], rfl, rfl, rfl⟩ (by have := List.length_filter_le (fun y => decide (x < y)) (xs.take q.1); have := List.length_filter_le (fun y => decide (y < x)) xs; have : (xs.take q.1).length ≤ xs.length := (by simp; omega); simp only [List.length_append, List.length_cons, List.length_nil]; omega) (by have := List.length_filter_le (fun y => decide (x < y)) (xs.take q.1); have := List.length_filter_le (fun y => decide (y < x)) xs; have : (xs.take q.1).length ≤ xs.length := (by simp; omega); simp only [List.length_append, List.length_cons, List.length_nil]; omega) ?_
            intro v40 c40 w40
            refine TL.del (.tl .hd) ?_
            refine R.asE rfl (by conv => lhs; whnf) ?_
            refine TL.nil (Post.blkN ?_)
            refine id (Post.thnN ?_)
            refine T.region ?_
            refine R.addI rfl rfl rfl (by omega) ?_
            refine R.mvE rfl (by conv => lhs; whnf) ?_
            refine TL.nil (Post.thnN ?_)
            -- round's end, way nyy
            exact ⟨(q.1 + 1, v40, c40), s_1, ⟨by show q.1 + 1 ≤ xs.length; omega, rfl, rfl, by rw [filt_yes hy (decide_eq_true c36), ← List.append_assoc]; exact w40⟩, by show xs.length - (q.1 + 1) < xs.length - q.1; omega, ⟨rfl, rfl, rfl, rfl, rfl, trivial⟩⟩
          · refine T.skip (Post.blkN ?_)
            refine id (Post.thnN ?_)
            refine T.region ?_
            refine R.addI rfl rfl rfl (by omega) ?_
            refine R.mvE rfl (by conv => lhs; whnf) ?_
            refine TL.nil (Post.thnN ?_)
            -- round's end, way nyn
            exact ⟨(q.1 + 1, q.2.1, q.2.2), s_1, ⟨by show q.1 + 1 ≤ xs.length; omega, rfl, rfl, by rw [filt_no hy (decide_eq_false c36)]; exact ho2⟩, by show xs.length - (q.1 + 1) < xs.length - q.1; omega, ⟨rfl, rfl, rfl, rfl, rfl, trivial⟩⟩
        · refine T.exit (Post.thnE (Post.thnE (Post.blkX ?_)))
          refine id (Post.thnN ?_)
          refine T.seq ?_
          have hkx2 : q.1 = xs.length := by omega
          rw [hkx2, List.take_length] at ho2
          refine T.shut .hd ?_
          intro HS sS qS
          have hw := ho2.read sS qS
          refine T.region ?_
          refine R.mvE rfl (by conv => lhs; whnf) ?_
          refine R.asE rfl (by conv => lhs; whnf) ?_
          refine TL.nil (Post.thnN ?_)
          refine T.ret ?_
          -- way nn
          exact fin1 rfl rfl ⟨rfl, hw⟩


set_option maxHeartbeats 1600000 in
theorem rof_c (H : Heap) (v : Value) (xs : List Int) (hr : RdS (intE .u64) H v xs) (hl : xs.length ≤ 999) : Fp Try.prog (fnv 31) [v] H (fun v' H' => RdS (intE .u64) H' v' (ofU xs)) := by
  refine Fc.of_body (N := 17) Try.func31 rfl (by kernel_rfl) rfl rfl ?_
  intro w0
  obtain ⟨A, c, rfl, hc1, hc2, hr⟩ := hr.shape
  refine T.seq ?_
  refine T.region ?_
  refine R.asE rfl (by conv => lhs; whnf) ?_
  refine TL.nil (Post.thnN ?_)
  refine T.seq ?_
  refine T.region ?_
  refine R.asE rfl (by conv => lhs; whnf) ?_
  refine TL.nil (Post.thnN ?_)
  refine T.seq ?_
  refine T.seq ?_
  refine T.region ?_
  refine R.mvE rfl (by conv => lhs; whnf) ?_
  refine R.len Try.underlying22 rfl rfl ?_
  refine R.mvE rfl (by conv => lhs; whnf) ?_
  refine TL.nil (Post.thnN ?_)
  refine T.block ?_
  refine T.loop (ι := Nat × Value) (fun q H' L' ds' => q.1 ≤ xs.length ∧ L' = [] ∧ RdS (intE .u64) H' q.2 (ofU (xs.take q.1))) (fun q => [(3, q.2), (6, .slice A xs.length c), (7, .int .i64 xs.length), (8, .int .i64 q.1)]) (fun q => xs.length - q.1) ((0, .slice none 0 0)) ?_ ?_ ?_
  · exact ⟨Nat.zero_le _, rfl, RdS.nil⟩
  · exact ⟨rfl, rfl, rfl, rfl, trivial⟩
  · intro q σ0 H_0 L_0 ds_0 s_0 hI_0
    obtain ⟨hk, rfl, hv⟩ := hI_0
    have hol := ofU_len (xs.take q.1)
    have htl : (xs.take q.1).length = q.1 := by simp; omega
    refine T.seq ?_
    refine T.region ?_
    refine R.lss rfl rfl rfl ?_
    refine TL.nil (Post.thnN ?_)
    refine T.seq ?_
    refine T.condD rfl (fun c9 => ?_) (fun c9 => ?_)
    · have hlt : q.1 < xs.length := by omega
      obtain ⟨y, hy⟩ := getk hlt
      refine T.skip (Post.thnN ?_)
      refine T.seq ?_
      refine T.block ?_
      refine T.seq ?_
      refine T.region ?_
      obtain ⟨b10, o10, i10, e10⟩ := (hr.mono s_0).elem (hy)
      refine R.ixp Try.underlying22 Try.sizeOf28 rfl rfl rfl (by omega) i10 ?_
      refine R.ldC Try.isAgg28 rfl rfl (e10).int ?_
      refine R.asE rfl (by conv => lhs; whnf) ?_
      refine TL.nil (Post.thnN ?_)
      refine T.region ?_
      refine R.mvE rfl (by conv => lhs; whnf) ?_
      refine R.mvE rfl (by conv => lhs; whnf) ?_
      refine R.callp rfl rfl rfl (rwith_c _ _ _ _ hv (by omega)) ?_
      intro v14 H14 s14 q14
      refine R.asE rfl (by conv => lhs; whnf) ?_
      refine TL.nil (Post.blkN ?_)
      refine id (Post.thnN ?_)
      refine T.region ?_
      refine R.addI rfl rfl rfl (by omega) ?_
      refine R.mvE rfl (by conv => lhs; whnf) ?_
      refine TL.nil (Post.thnN ?_)
      -- round's end, way y
      exact ⟨(q.1 + 1, v14), s_0.trans s14, ⟨by show q.1 + 1 ≤ xs.length; omega, rfl, by rw [ofU_snoc _ _ _ hy, ← wthR_eq (ofU_up _)]; exact q14⟩, by show xs.length - (q.1 + 1) < xs.length - q.1; omega, ⟨rfl, rfl, rfl, rfl, trivial⟩⟩
    · have hqx : q.1 = xs.length := by omega
      rw [hqx, List.take_length] at hv
      refine T.exit (Post.thnE (Post.thnE (Post.blkX ?_)))
      refine id (Post.thnN ?_)
      refine T.seq ?_
      refine T.region ?_
      refine R.mvE rfl (by conv => lhs; whnf) ?_
      refine R.asE rfl (by conv => lhs; whnf) ?_
      refine TL.nil (Post.thnN ?_)
      refine T.ret ?_
      -- way n
      exact fin1 rfl rfl ⟨rfl, hv⟩

end Go.SX
