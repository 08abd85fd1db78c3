/- The reference of types. -/
import Derived.Test.YtmkmdfgfclckoaaSl2
import Derived.Test.YtmkmdfgfclckoaaId3
import Derived.Test.YtmkmdfgfclckoaaWt
set_option linter.unusedVariables false
set_option linter.unusedSimpArgs false
namespace Go.SX
open Go Go.Proofs

set_option maxHeartbeats 1600000 in
theorem rmay_c (H : Heap) (x : Int) (hx : U x) : Fv Try.prog (fnv 24) [.int .u64 x] H (.bool (mayB x)) := by
  refine Fc.of_body (N := 11) Try.func24 rfl (by kernel_rfl) rfl rfl ?_
  intro w0
  refine T.seq ?_
  refine T.region ?_
  refine R.asE rfl (by conv => lhs; whnf) ?_
  refine TL.nil (Post.thnN ?_)
  refine T.seq ?_
  refine T.region ?_
  refine R.mvE rfl (by conv => lhs; whnf) ?_
  refine R.callv rfl rfl rfl (rkind_c _ _ hx) ?_
  refine R.eql rfl rfl rfl ?_
  refine R.mvE rfl (by conv => lhs; whnf) ?_
  refine TL.gsplitD 6 rfl (fun g6 => ?_) (fun g6 => ?_)
  · refine TL.off rfl rfl rfl ?_
    refine TL.off rfl rfl rfl ?_
    refine TL.off rfl rfl rfl ?_
    refine R.pkTE rfl rfl (by conv => lhs; whnf) ?_
    refine R.asE rfl (by conv => lhs; whnf) ?_
    refine TL.nil (Post.thnN ?_)
    refine T.ret ?_
    -- way y
    exact fin1 rfl rfl ⟨rfl, congrArg Value.bool (by unfold mayB; simp [g6])⟩
  · refine R.mvE rfl (by conv => lhs; whnf) ?_
    refine R.callv rfl rfl rfl (rkind_c _ _ hx) ?_
    refine R.eql rfl rfl rfl ?_
    refine R.pkFE rfl rfl (by conv => lhs; whnf) ?_
    refine R.asE rfl (by conv => lhs; whnf) ?_
    refine TL.nil (Post.thnN ?_)
    refine T.ret ?_
    -- way n
    exact fin1 rfl rfl ⟨rfl, congrArg Value.bool (by unfold mayB; simp [g6])⟩


set_option maxHeartbeats 1600000 in
theorem rright_c (H : Heap) (v : Value) (xs : List Int) (hr : RdS (intE .u64) H v xs) (hU : Us xs) : Fv Try.prog (fnv 11) [v] H (.bool (typeB xs)) := by
  refine Fc.of_body (N := 32) Try.func11 rfl (by kernel_rfl) rfl rfl ?_
  intro w0
  obtain ⟨A, c, rfl, hc1, hc2, hr⟩ := hr.shape
  refine T.seq ?_
  refine T.region ?_
  refine R.asE rfl (by conv => lhs; whnf) ?_
  refine TL.nil (Post.thnN ?_)
  refine T.seq ?_
  refine T.seq ?_
  refine T.region ?_
  refine R.mvE rfl (by conv => lhs; whnf) ?_
  refine R.len Try.underlying22 rfl rfl ?_
  refine R.mvE rfl (by conv => lhs; whnf) ?_
  refine TL.nil (Post.thnN ?_)
  refine T.block ?_
  refine T.loop (ι := Nat) (fun k H' L' ds' => k ≤ xs.length ∧ (∀ x ∈ xs.take k, mayB x = true) ∧ Up (xs.take k)) (fun k => [(0, .slice A xs.length c), (5, .slice A xs.length c), (6, .int .i64 xs.length), (7, .int .i64 k)]) (fun k => xs.length - k) (0) ?_ ?_ ?_
  · exact ⟨Nat.zero_le _, fun x h => by simp at h, List.Pairwise.nil⟩
  · exact ⟨rfl, rfl, rfl, rfl, trivial⟩
  · intro k σ0 H_0 L_0 ds_0 s_0 hI_0
    obtain ⟨hk, hm, hu⟩ := hI_0
    refine T.seq ?_
    refine T.region ?_
    refine R.lss rfl rfl rfl ?_
    refine TL.nil (Post.thnN ?_)
    refine T.seq ?_
    refine T.condD rfl (fun c8 => ?_) (fun c8 => ?_)
    · have hlt : k < xs.length := by omega
      obtain ⟨y, hy⟩ := getk hlt
      have hyU := hU y (List.mem_of_getElem? hy)
      refine T.skip (Post.thnN ?_)
      refine T.seq ?_
      refine T.block ?_
      refine T.seq ?_
      refine T.region ?_
      refine R.mvE rfl (by conv => lhs; whnf) ?_
      obtain ⟨b10, o10, i10, e10⟩ := (hr.mono s_0).elem (hy)
      refine R.ixp Try.underlying22 Try.sizeOf28 rfl rfl rfl (by omega) i10 ?_
      refine R.ldC Try.isAgg28 rfl rfl (e10).int ?_
      refine R.asE rfl (by conv => lhs; whnf) ?_
      refine R.asE rfl (by conv => lhs; whnf) ?_
      refine TL.nil (Post.thnN ?_)
      refine T.seq ?_
      refine T.region ?_
      refine R.mvE rfl (by conv => lhs; whnf) ?_
      refine R.callv rfl rfl rfl (rmay_c _ _ hyU) ?_
      refine R.not rfl rfl ?_
      refine R.mvE rfl (by conv => lhs; whnf) ?_
      refine TL.gsplit 15 rfl (fun g15 => ?_) (fun g15 => ?_)
      · refine TL.off rfl rfl rfl ?_
        refine TL.off rfl rfl rfl ?_
        refine TL.off rfl rfl rfl ?_
        refine TL.offU rfl rfl ?_
        refine TL.offU rfl rfl ?_
        refine TL.offU rfl rfl ?_
        refine TL.offU rfl rfl ?_
        refine TL.offU rfl rfl ?_
        refine TL.offU rfl rfl ?_
        refine TL.offU rfl rfl ?_
        refine TL.off rfl rfl rfl ?_
        refine R.pkTE rfl rfl (by conv => lhs; whnf) ?_
        refine TL.nil (Post.thnN ?_)
        refine T.condY rfl ?_
        refine T.seq ?_
        refine T.region ?_
        refine R.asE rfl (by conv => lhs; whnf) ?_
        refine TL.nil (Post.thnN ?_)
        refine T.ret (Post.blkR (Post.thnR (Post.thnR (Post.blkR (Post.thnR ?_)))))
        -- way yy
        exact fin1 rfl rfl ⟨rfl, congrArg Value.bool (ty_not_may hy (by simpa using g15)).symm⟩
      · refine R.mvE rfl (by conv => lhs; whnf) ?_
        refine R.gtr rfl rfl rfl ?_
        refine R.mvE rfl (by conv => lhs; whnf) ?_
        refine TL.gsplitD 18 rfl (fun g18 => ?_) (fun g18 => ?_)
        · obtain ⟨y', hy'⟩ := getk (xs := xs) (k := ((k : Int) - 1).toNat) (by omega)
          have hy'' : xs[k - 1]? = some y' := by rw [← hy']; congr 1; omega
          refine R.mvE rfl (by conv => lhs; whnf) ?_
          refine R.mvE rfl (by conv => lhs; whnf) ?_
          refine R.subI rfl rfl rfl (by omega) ?_
          obtain ⟨b22, o22, i22, e22⟩ := (hr.mono s_0).elem (hy')
          refine R.ixp Try.underlying22 Try.sizeOf28 rfl rfl rfl (by omega) i22 ?_
          refine R.ldC Try.isAgg28 rfl rfl (e22).int ?_
          refine R.mvE rfl (by conv => lhs; whnf) ?_
          refine R.geq rfl rfl rfl ?_
          refine R.pkTE rfl rfl (by conv => lhs; whnf) ?_
          refine R.pkFE rfl rfl (by conv => lhs; whnf) ?_
          refine TL.nil (Post.thnN ?_)
          refine T.condD rfl (fun c27 => ?_) (fun c27 => ?_)
          · refine T.seq ?_
            refine T.region ?_
            refine R.asE rfl (by conv => lhs; whnf) ?_
            refine TL.nil (Post.thnN ?_)
            refine T.ret (Post.blkR (Post.thnR (Post.thnR (Post.blkR (Post.thnR ?_)))))
            -- way ynyy
            exact fin1 rfl rfl ⟨rfl, congrArg Value.bool (ty_not_up (by omega) hy hy'' (by omega)).symm⟩
          · refine T.skip (Post.blkN ?_)
            refine id (Post.thnN ?_)
            refine T.region ?_
            refine R.addI rfl rfl rfl (by omega) ?_
            refine R.mvE rfl (by conv => lhs; whnf) ?_
            refine TL.nil (Post.thnN ?_)
            -- round's end, way ynyn
            obtain ⟨hm', hu'⟩ := ty_snoc hy hm hu (by simpa using g15) (.inr ⟨y', hy'', by omega⟩)
            exact ⟨k + 1, s_0, ⟨by omega, hm', hu'⟩, by omega, ⟨rfl, rfl, rfl, rfl, trivial⟩⟩
        · refine TL.off rfl rfl rfl ?_
          refine TL.off rfl rfl rfl ?_
          refine TL.off rfl rfl rfl ?_
          refine TL.off rfl rfl rfl ?_
          refine TL.off rfl rfl rfl ?_
          refine TL.off rfl rfl rfl ?_
          refine TL.off rfl rfl rfl ?_
          refine R.pkFE rfl rfl (by conv => lhs; whnf) ?_
          refine R.pkFE rfl rfl (by conv => lhs; whnf) ?_
          refine TL.nil (Post.thnN ?_)
          refine T.condN rfl ?_
          refine T.skip (Post.blkN ?_)
          refine id (Post.thnN ?_)
          refine T.region ?_
          refine R.addI rfl rfl rfl (by omega) ?_
          refine R.mvE rfl (by conv => lhs; whnf) ?_
          refine TL.nil (Post.thnN ?_)
          -- round's end, way ynn
          obtain ⟨hm', hu'⟩ := ty_snoc hy hm hu (by simpa using g15) (.inl (by omega))
          exact ⟨k + 1, s_0, ⟨by omega, hm', hu'⟩, by omega, ⟨rfl, rfl, rfl, rfl, trivial⟩⟩
    · refine T.exit (Post.thnE (Post.thnE (Post.blkX ?_)))
      refine id (Post.thnN ?_)
      refine T.seq ?_
      refine T.region ?_
      refine R.mvE rfl (by conv => lhs; whnf) ?_
      refine R.len Try.underlying22 rfl rfl ?_
      refine R.leq rfl rfl rfl ?_
      refine R.asE rfl (by conv => lhs; whnf) ?_
      refine TL.nil (Post.thnN ?_)
      refine T.ret ?_
      -- way n
      have hkx : k = xs.length := by omega
      rw [hkx, List.take_length] at hm hu
      exact fin1 rfl rfl ⟨rfl, congrArg Value.bool (ty_end hm hu)⟩


set_option maxHeartbeats 1600000 in
theorem rhas_c (H : Heap) (v : Value) (xs : List Int) (x : Int) (hr : RdS (intE .u64) H v xs) : Fv Try.prog (fnv 14) [v, .int .u64 x] H (.bool (xs.any (fun y => decide (y = x)))) := by
  refine Fc.of_body (N := 17) Try.func14 rfl (by kernel_rfl) rfl rfl ?_
  intro w0
  obtain ⟨A, c, rfl, hc1, hc2, hr⟩ := hr.shape
  refine T.seq ?_
  refine T.region ?_
  refine R.asE rfl (by conv => lhs; whnf) ?_
  refine TL.nil (Post.thnN ?_)
  refine T.seq ?_
  refine T.seq ?_
  refine T.region ?_
  refine R.mvE rfl (by conv => lhs; whnf) ?_
  refine R.len Try.underlying22 rfl rfl ?_
  refine R.mvE rfl (by conv => lhs; whnf) ?_
  refine TL.nil (Post.thnN ?_)
  refine T.block ?_
  refine T.loop (ι := Nat) (fun k H' L' ds' => k ≤ xs.length ∧ (xs.take k).any (fun y => decide (y = x)) = false) (fun k => [(0, .slice A xs.length c), (1, .int .u64 x), (7, .slice A xs.length c), (8, .int .i64 xs.length), (9, .int .i64 k)]) (fun k => xs.length - k) (0) ?_ ?_ ?_
  · exact ⟨Nat.zero_le _, rfl⟩
  · exact ⟨rfl, rfl, rfl, rfl, rfl, trivial⟩
  · intro k σ0 H_0 L_0 ds_0 s_0 hI_0
    obtain ⟨hk, hw⟩ := hI_0
    refine T.seq ?_
    refine T.region ?_
    refine R.lss rfl rfl rfl ?_
    refine TL.nil (Post.thnN ?_)
    refine T.seq ?_
    refine T.condD rfl (fun c10 => ?_) (fun c10 => ?_)
    · have hlt : k < xs.length := by omega
      obtain ⟨y, hy⟩ := getk hlt
      refine T.skip (Post.thnN ?_)
      refine T.seq ?_
      refine T.block ?_
      refine T.seq ?_
      refine T.region ?_
      obtain ⟨b11, o11, i11, e11⟩ := (hr.mono s_0).elem (hy)
      refine R.ixp Try.underlying22 Try.sizeOf28 rfl rfl rfl (by omega) i11 ?_
      refine R.ldC Try.isAgg28 rfl rfl (e11).int ?_
      refine R.asE rfl (by conv => lhs; whnf) ?_
      refine TL.nil (Post.thnN ?_)
      refine T.seq ?_
      refine T.region ?_
      refine R.mvE rfl (by conv => lhs; whnf) ?_
      refine R.mvE rfl (by conv => lhs; whnf) ?_
      refine R.eql rfl rfl rfl ?_
      refine TL.nil (Post.thnN ?_)
      refine T.condD rfl (fun c15 => ?_) (fun c15 => ?_)
      · refine T.seq ?_
        refine T.region ?_
        refine R.asE rfl (by conv => lhs; whnf) ?_
        refine TL.nil (Post.thnN ?_)
        refine T.ret (Post.blkR (Post.thnR (Post.thnR (Post.blkR (Post.thnR ?_)))))
        -- way yy
        exact fin1 rfl rfl ⟨rfl, congrArg Value.bool (List.any_eq_true.2 ⟨y, List.mem_of_getElem? hy, decide_eq_true c15⟩).symm⟩
      · refine T.skip (Post.blkN ?_)
        refine id (Post.thnN ?_)
        refine T.region ?_
        refine R.addI rfl rfl rfl (by omega) ?_
        refine R.mvE rfl (by conv => lhs; whnf) ?_
        refine TL.nil (Post.thnN ?_)
        -- round's end, way yn
        exact ⟨k + 1, s_0, ⟨by omega, by rw [take_snoc _ _ _ hy, List.any_append, hw]; simp [c15]⟩, by omega, ⟨rfl, rfl, rfl, rfl, rfl, trivial⟩⟩
    · refine T.exit (Post.thnE (Post.thnE (Post.blkX ?_)))
      refine id (Post.thnN ?_)
      refine T.seq ?_
      refine T.region ?_
      refine R.asE rfl (by conv => lhs; whnf) ?_
      refine TL.nil (Post.thnN ?_)
      refine T.ret ?_
      -- way n
      have hkx : k = xs.length := by omega
      rw [hkx, List.take_length] at hw
      exact fin1 rfl rfl ⟨rfl, congrArg Value.bool hw.symm⟩


set_option maxHeartbeats 1600000 in
theorem rtaken_c (H : Heap) (v : Value) (xs : List Int) (x : Int) (hr : RdS (intE .u64) H v xs) (hU : Us xs) (hl : xs.length ≤ 1000) (hx : U x) : Fp Try.prog (fnv 12) [v, .int .u64 x] H (fun v' H' => RdS (intE .u64) H' v' ((xs.filter (takesB x)))) := by
  refine Fc.of_body (N := 23) Try.func12 rfl (by kernel_rfl) rfl rfl ?_
  intro w0
  obtain ⟨A, c, rfl, hc1, hc2, hr⟩ := hr.shape
  refine T.seq ?_
  refine T.region ?_
  refine R.asE rfl (by conv => lhs; whnf) ?_
  refine TL.nil (Post.thnN ?_)
  refine T.seq ?_
  refine T.region ?_
  refine R.asE rfl (by conv => lhs; whnf) ?_
  refine TL.nil (Post.thnN ?_)
  refine T.seq ?_
  refine T.seq ?_
  refine T.nilc ?_
  refine T.region ?_
  refine R.mvE rfl (by conv => lhs; whnf) ?_
  refine R.len Try.underlying22 rfl rfl ?_
  refine R.mvE rfl (by conv => lhs; whnf) ?_
  refine TL.nil (Post.thnN ?_)
  refine T.block ?_
  refine T.loop (ι := Nat × Value × Chunk) (fun q H' L' ds' => q.1 ≤ xs.length ∧ L' = [q.2.2] ∧ ds' = [] ∧ OwnS (intE .u64) 28 H' q.2.1 (((xs.take q.1).filter (takesB x))) q.2.2) (fun q => [(1, .int .u64 x), (5, q.2.1), (8, .slice A xs.length c), (9, .int .i64 xs.length), (10, .int .i64 q.1)]) (fun q => xs.length - q.1) ((0, .slice none 0 0, [])) ?_ ?_ ?_
  · exact ⟨Nat.zero_le _, rfl, rfl, OwnS.nil⟩
  · exact ⟨rfl, rfl, rfl, rfl, rfl, trivial⟩
  · intro q σ0 H_0 L_0 ds_0 s_0 hI_0
    obtain ⟨hk, rfl, rfl, ho⟩ := hI_0
    refine T.seq ?_
    refine T.region ?_
    refine R.lss rfl rfl rfl ?_
    refine TL.nil (Post.thnN ?_)
    refine T.seq ?_
    refine T.condD rfl (fun c11 => ?_) (fun c11 => ?_)
    · have hlt : q.1 < xs.length := by omega
      obtain ⟨y, hy⟩ := getk hlt
      have hyU := hU y (List.mem_of_getElem? hy)
      refine T.skip (Post.thnN ?_)
      refine T.seq ?_
      refine T.block ?_
      refine T.seq ?_
      refine T.region ?_
      obtain ⟨b12, o12, i12, e12⟩ := (hr.mono s_0).elem (hy)
      refine R.ixp Try.underlying22 Try.sizeOf28 rfl rfl rfl (by omega) i12 ?_
      refine R.ldC Try.isAgg28 rfl rfl (e12).int ?_
      refine R.asE rfl (by conv => lhs; whnf) ?_
      refine TL.nil (Post.thnN ?_)
      refine T.seq ?_
      refine T.region ?_
      refine R.mvE rfl (by conv => lhs; whnf) ?_
      refine R.mvE rfl (by conv => lhs; whnf) ?_
      refine R.callv rfl rfl rfl (rtakes_c _ _ _ hx hyU) ?_
      refine TL.nil (Post.thnN ?_)
      refine T.cond rfl (fun c16 => ?_) (fun c16 => ?_)
      · refine T.region ?_
        refine R.mvE rfl (by conv => lhs; whnf) ?_
        refine R.mvE rfl (by conv => lhs; whnf) ?_
        refine R.bs rfl (run_buildSlice1 Try.underlying22 Try.sizeOf28 Try.zeroValue28 rfl rfl) ?_
        intro b19
        refine R.app (ys := [y]) Try_ty22 rfl rfl rfl ho (.tl .hd) (Src.lit (vs := [.int .u64 y]) .hd) ⟨[.int .u64 y], [], rfl, rfl, rfl⟩ (by have := List.length_filter_le (takesB x) (xs.take q.1); have : (xs.take q.1).length ≤ xs.length := (by simp; omega); simp only [List.length_cons, List.length_nil]; omega) (by have := List.length_filter_le (takesB x) (xs.take q.1); have : (xs.take q.1).length ≤ xs.length := (by simp; omega); simp only [List.length_cons, List.length_nil]; omega) ?_
        intro v20 c20 w20
        refine TL.del (.tl .hd) ?_
        refine R.asE rfl (by conv => lhs; whnf) ?_
        refine TL.nil (Post.blkN ?_)
        refine id (Post.thnN ?_)
        refine T.region ?_
        refine R.addI rfl rfl rfl (by omega) ?_
        refine R.mvE rfl (by conv => lhs; whnf) ?_
        refine TL.nil (Post.thnN ?_)
        -- round's end, way yy
        exact ⟨(q.1 + 1, v20, c20), s_0, ⟨by show q.1 + 1 ≤ xs.length; omega, rfl, rfl, by rw [filt_yes hy c16]; exact w20⟩, by show xs.length - (q.1 + 1) < xs.length - q.1; omega, ⟨rfl, rfl, rfl, rfl, rfl, trivial⟩⟩
      · refine T.skip (Post.blkN ?_)
        refine id (Post.thnN ?_)
        refine T.region ?_
        refine R.addI rfl rfl rfl (by omega) ?_
        refine R.mvE rfl (by conv => lhs; whnf) ?_
        refine TL.nil (Post.thnN ?_)
        -- round's end, way yn
        exact ⟨(q.1 + 1, q.2.1, q.2.2), s_0, ⟨by show q.1 + 1 ≤ xs.length; omega, rfl, rfl, by rw [filt_no hy c16]; exact ho⟩, by show xs.length - (q.1 + 1) < xs.length - q.1; omega, ⟨rfl, rfl, rfl, rfl, rfl, trivial⟩⟩
    · refine T.exit (Post.thnE (Post.thnE (Post.blkX ?_)))
      refine id (Post.thnN ?_)
      refine T.seq ?_
      refine T.shut .hd ?_
      intro HS sS qS
      have hkx : q.1 = xs.length := by omega
      rw [hkx, List.take_length] at ho
      have hw := ho.read sS qS
      refine T.region ?_
      refine R.mvE rfl (by conv => lhs; whnf) ?_
      refine R.asE rfl (by conv => lhs; whnf) ?_
      refine TL.nil (Post.thnN ?_)
      refine T.ret ?_
      -- way n
      exact fin1 rfl rfl ⟨rfl, hw⟩


set_option maxHeartbeats 1600000 in
theorem rtargets_c (H : Heap) (v : Value) (xs : List Int) (n : Int) (hr : RdS (intE .u64) H v xs) (hU : Us xs) (hl : xs.length ≤ 1000) : Fp Try.prog (fnv 17) [v, .int .i64 n] H (fun v' H' => RdS (intE .i64) H' v' ((xs.filter ((pairP (fun a _ => decide (a = n))))).map (fun y => (partsI y).2))) := by
  refine Fc.of_body (N := 35) Try.func17 rfl (by kernel_rfl) rfl rfl ?_
  intro w0
  obtain ⟨A, c, rfl, hc1, hc2, hr⟩ := hr.shape
  refine T.seq ?_
  refine T.region ?_
  refine R.asE rfl (by conv => lhs; whnf) ?_
  refine TL.nil (Post.thnN ?_)
  refine T.seq ?_
  refine T.region ?_
  refine R.asE rfl (by conv => lhs; whnf) ?_
  refine TL.nil (Post.thnN ?_)
  refine T.seq ?_
  refine T.seq ?_
  refine T.nilc ?_
  refine T.region ?_
  refine R.mvE rfl (by conv => lhs; whnf) ?_
  refine R.len Try.underlying22 rfl rfl ?_
  refine R.mvE rfl (by conv => lhs; whnf) ?_
  refine TL.nil (Post.thnN ?_)
  refine T.block ?_
  refine T.loop (ι := Nat × Value × Chunk) (fun q H' L' ds' => q.1 ≤ xs.length ∧ L' = [q.2.2] ∧ ds' = [] ∧ OwnS (intE .i64) 3 H' q.2.1 (((xs.take q.1).filter ((pairP (fun a _ => decide (a = n))))).map (fun y => (partsI y).2)) q.2.2) (fun q => [(1, .int .i64 n), (5, q.2.1), (10, .slice A xs.length c), (11, .int .i64 xs.length), (12, .int .i64 q.1)]) (fun q => xs.length - q.1) ((0, .slice none 0 0, [])) ?_ ?_ ?_
  · exact ⟨Nat.zero_le _, rfl, rfl, OwnS.nil⟩
  · exact ⟨rfl, rfl, rfl, rfl, rfl, trivial⟩
  · intro q σ0 H_0 L_0 ds_0 s_0 hI_0
    obtain ⟨hk, rfl, rfl, ho⟩ := hI_0
    refine T.seq ?_
    refine T.region ?_
    refine R.lss rfl rfl rfl ?_
    refine TL.nil (Post.thnN ?_)
    refine T.seq ?_
    refine T.condD rfl (fun c13 => ?_) (fun c13 => ?_)
    · have hlt : q.1 < xs.length := by omega
      obtain ⟨y, hy⟩ := getk hlt
      have hyU := hU y (List.mem_of_getElem? hy)
      refine T.skip (Post.thnN ?_)
      refine T.seq ?_
      refine T.block ?_
      refine T.seq ?_
      refine T.region ?_
      obtain ⟨b14, o14, i14, e14⟩ := (hr.mono s_0).elem (hy)
      refine R.ixp Try.underlying22 Try.sizeOf28 rfl rfl rfl (by omega) i14 ?_
      refine R.ldC Try.isAgg28 rfl rfl (e14).int ?_
      refine R.asE rfl (by conv => lhs; whnf) ?_
      refine TL.nil (Post.thnN ?_)
      refine T.seq ?_
      refine T.region ?_
      refine R.mvE rfl (by conv => lhs; whnf) ?_
      refine R.callv rfl rfl rfl (rparts_c _ _ hyU) ?_
      refine R.mvE rfl (by conv => lhs; whnf) ?_
      refine R.ext rfl rfl rfl ?_
      refine R.ext rfl rfl rfl ?_
      refine R.asE rfl (by conv => lhs; whnf) ?_
      refine R.asE rfl (by conv => lhs; whnf) ?_
      refine TL.nil (Post.thnN ?_)
      refine T.cut (ι := Unit) (fun _ H' L' ds' => L' = [q.2.2] ∧ ds' = []) (fun _ => [(1, .int .i64 n), (5, q.2.1), (7, .int .u64 y), (9, .int .i64 (partsI y).2), (10, .slice A xs.length c), (11, .int .i64 xs.length), (12, .int .i64 q.1), (28, .bool ((pairP (fun a _ => decide (a = n))) y))]) ?_ ?_
      · refine T.region ?_
        refine R.mvE rfl (by conv => lhs; whnf) ?_
        refine R.callv rfl rfl rfl (rkind_c _ _ hyU) ?_
        refine R.eql rfl rfl rfl ?_
        refine R.mvE rfl (by conv => lhs; whnf) ?_
        refine TL.gsplitD 24 rfl (fun g24 => ?_) (fun g24 => ?_)
        · refine R.mvE rfl (by conv => lhs; whnf) ?_
          refine R.mvE rfl (by conv => lhs; whnf) ?_
          refine R.eql rfl rfl rfl ?_
          refine R.pkTE rfl rfl (by conv => lhs; whnf) ?_
          refine TL.nil (Post.thnN ?_)
          -- cut r6, way y
          exact ⟨(), HLe.refl _, ⟨rfl, rfl⟩, rfl, rfl, rfl, rfl, rfl, rfl, rfl, congrArg Value.bool (by simp [pairP, *]), trivial⟩
        · refine TL.off rfl rfl rfl ?_
          refine TL.off rfl rfl rfl ?_
          refine TL.off rfl rfl rfl ?_
          refine R.pkFE rfl rfl (by conv => lhs; whnf) ?_
          refine TL.nil (Post.thnN ?_)
          -- cut r6, way n
          exact ⟨(), HLe.refl _, ⟨rfl, rfl⟩, rfl, rfl, rfl, rfl, rfl, rfl, rfl, congrArg Value.bool (by simp [pairP, *]), trivial⟩
      · intro _ σ_r6 H_r6 L_r6 ds_r6 s_r6 hI_r6
        obtain ⟨rfl, rfl⟩ := hI_r6
        replace ho := ho.mono s_r6
        replace s_0 := s_0.trans s_r6
        refine T.cond rfl (fun c28 => ?_) (fun c28 => ?_)
        · refine T.region ?_
          refine R.mvE rfl (by conv => lhs; whnf) ?_
          refine R.mvE rfl (by conv => lhs; whnf) ?_
          refine R.bs rfl (run_buildSlice1 Try.underlying23 Try.sizeOf3 Try.zeroValue3 rfl rfl) ?_
          intro b31
          refine R.app (ys := [((fun y => (partsI y).2) y)]) Try_ty23 rfl rfl rfl ho (.tl .hd) (Src.lit (vs := [.int .i64 ((fun y => (partsI y).2) y)]) .hd) ⟨[.int .i64 ((fun y => (partsI y).2) y)], [], rfl, rfl, rfl⟩ (by have := List.length_filter_le ((pairP (fun a _ => decide (a = n)))) (xs.take q.1); have : (xs.take q.1).length ≤ xs.length := (by simp; omega); simp only [List.length_map, List.length_cons, List.length_nil]; omega) (by have := List.length_filter_le ((pairP (fun a _ => decide (a = n)))) (xs.take q.1); have : (xs.take q.1).length ≤ xs.length := (by simp; omega); simp only [List.length_map, List.length_cons, List.length_nil]; omega) ?_
          intro v32 c32 w32
          refine TL.del (.tl .hd) ?_
          refine R.asE rfl (by conv => lhs; whnf) ?_
          refine TL.nil (Post.blkN ?_)
          refine id (Post.thnN ?_)
          refine T.region ?_
          refine R.addI rfl rfl rfl (by omega) ?_
          refine R.mvE rfl (by conv => lhs; whnf) ?_
          refine TL.nil (Post.thnN ?_)
          -- round's end, way yy
          exact ⟨(q.1 + 1, v32, c32), s_0, ⟨by show q.1 + 1 ≤ xs.length; omega, rfl, rfl, by rw [filt_yes hy c28]; rw [List.map_append]; exact w32⟩, by show xs.length - (q.1 + 1) < xs.length - q.1; omega, ⟨rfl, rfl, rfl, rfl, rfl, trivial⟩⟩
        · refine T.skip (Post.blkN ?_)
          refine id (Post.thnN ?_)
          refine T.region ?_
          refine R.addI rfl rfl rfl (by omega) ?_
          refine R.mvE rfl (by conv => lhs; whnf) ?_
          refine TL.nil (Post.thnN ?_)
          -- round's end, way yn
          exact ⟨(q.1 + 1, q.2.1, q.2.2), s_0, ⟨by show q.1 + 1 ≤ xs.length; omega, rfl, rfl, by rw [filt_no hy c28]; exact ho⟩, by show xs.length - (q.1 + 1) < xs.length - q.1; omega, ⟨rfl, rfl, rfl, rfl, rfl, trivial⟩⟩
    · refine T.exit (Post.thnE (Post.thnE (Post.blkX ?_)))
      refine id (Post.thnN ?_)
      refine T.seq ?_
      refine T.shut .hd ?_
      intro HS sS qS
      have hkx : q.1 = xs.length := by omega
      rw [hkx, List.take_length] at ho
      have hw := ho.read sS qS
      refine T.region ?_
      refine R.mvE rfl (by conv => lhs; whnf) ?_
      refine R.asE rfl (by conv => lhs; whnf) ?_
      refine TL.nil (Post.thnN ?_)
      refine T.ret ?_
      -- way n
      exact fin1 rfl rfl ⟨rfl, hw⟩


set_option maxHeartbeats 1600000 in
theorem rmentions_c (H : Heap) (v : Value) (xs : List Int) (n : Int) (hr : RdS (intE .u64) H v xs) (hU : Us xs) (hl : xs.length ≤ 1000) : Fp Try.prog (fnv 18) [v, .int .i64 n] H (fun v' H' => RdS (intE .u64) H' v' ((xs.filter ((pairP (fun a b => decide (a = n) || decide (b = n))))))) := by
  refine Fc.of_body (N := 40) Try.func18 rfl (by kernel_rfl) rfl rfl ?_
  intro w0
  obtain ⟨A, c, rfl, hc1, hc2, hr⟩ := hr.shape
  refine T.seq ?_
  refine T.region ?_
  refine R.asE rfl (by conv => lhs; whnf) ?_
  refine TL.nil (Post.thnN ?_)
  refine T.seq ?_
  refine T.region ?_
  refine R.asE rfl (by conv => lhs; whnf) ?_
  refine TL.nil (Post.thnN ?_)
  refine T.seq ?_
  refine T.seq ?_
  refine T.nilc ?_
  refine T.region ?_
  refine R.mvE rfl (by conv => lhs; whnf) ?_
  refine R.len Try.underlying22 rfl rfl ?_
  refine R.mvE rfl (by conv => lhs; whnf) ?_
  refine TL.nil (Post.thnN ?_)
  refine T.block ?_
  refine T.loop (ι := Nat × Value × Chunk) (fun q H' L' ds' => q.1 ≤ xs.length ∧ L' = [q.2.2] ∧ ds' = [] ∧ OwnS (intE .u64) 28 H' q.2.1 (((xs.take q.1).filter ((pairP (fun a b => decide (a = n) || decide (b = n)))))) q.2.2) (fun q => [(1, .int .i64 n), (5, q.2.1), (10, .slice A xs.length c), (11, .int .i64 xs.length), (12, .int .i64 q.1)]) (fun q => xs.length - q.1) ((0, .slice none 0 0, [])) ?_ ?_ ?_
  · exact ⟨Nat.zero_le _, rfl, rfl, OwnS.nil⟩
  · exact ⟨rfl, rfl, rfl, rfl, rfl, trivial⟩
  · intro q σ0 H_0 L_0 ds_0 s_0 hI_0
    obtain ⟨hk, rfl, rfl, ho⟩ := hI_0
    refine T.seq ?_
    refine T.region ?_
    refine R.lss rfl rfl rfl ?_
    refine TL.nil (Post.thnN ?_)
    refine T.seq ?_
    refine T.condD rfl (fun c13 => ?_) (fun c13 => ?_)
    · have hlt : q.1 < xs.length := by omega
      obtain ⟨y, hy⟩ := getk hlt
      have hyU := hU y (List.mem_of_getElem? hy)
      refine T.skip (Post.thnN ?_)
      refine T.seq ?_
      refine T.block ?_
      refine T.seq ?_
      refine T.region ?_
      obtain ⟨b14, o14, i14, e14⟩ := (hr.mono s_0).elem (hy)
      refine R.ixp Try.underlying22 Try.sizeOf28 rfl rfl rfl (by omega) i14 ?_
      refine R.ldC Try.isAgg28 rfl rfl (e14).int ?_
      refine R.asE rfl (by conv => lhs; whnf) ?_
      refine TL.nil (Post.thnN ?_)
      refine T.seq ?_
      refine T.region ?_
      refine R.mvE rfl (by conv => lhs; whnf) ?_
      refine R.callv rfl rfl rfl (rparts_c _ _ hyU) ?_
      refine R.mvE rfl (by conv => lhs; whnf) ?_
      refine R.ext rfl rfl rfl ?_
      refine R.ext rfl rfl rfl ?_
      refine R.asE rfl (by conv => lhs; whnf) ?_
      refine R.asE rfl (by conv => lhs; whnf) ?_
      refine TL.nil (Post.thnN ?_)
      refine T.cut (ι := Unit) (fun _ H' L' ds' => L' = [q.2.2] ∧ ds' = []) (fun _ => [(1, .int .i64 n), (5, q.2.1), (7, .int .u64 y), (9, .int .i64 (partsI y).2), (10, .slice A xs.length c), (11, .int .i64 xs.length), (12, .int .i64 q.1), (33, .bool ((pairP (fun a b => decide (a = n) || decide (b = n))) y))]) ?_ ?_
      · refine T.region ?_
        refine R.mvE rfl (by conv => lhs; whnf) ?_
        refine R.callv rfl rfl rfl (rkind_c _ _ hyU) ?_
        refine R.eql rfl rfl rfl ?_
        refine R.mvE rfl (by conv => lhs; whnf) ?_
        refine TL.gsplitD 24 rfl (fun g24 => ?_) (fun g24 => ?_)
        · refine R.mvE rfl (by conv => lhs; whnf) ?_
          refine R.mvE rfl (by conv => lhs; whnf) ?_
          refine R.eql rfl rfl rfl ?_
          refine R.mvE rfl (by conv => lhs; whnf) ?_
          refine TL.gsplitD 28 rfl (fun g28 => ?_) (fun g28 => ?_)
          · refine TL.off rfl rfl rfl ?_
            refine TL.off rfl rfl rfl ?_
            refine TL.off rfl rfl rfl ?_
            refine R.pkTE rfl rfl (by conv => lhs; whnf) ?_
            refine R.pkTE rfl rfl (by conv => lhs; whnf) ?_
            refine TL.nil (Post.thnN ?_)
            -- cut r6, way yy
            exact ⟨(), HLe.refl _, ⟨rfl, rfl⟩, rfl, rfl, rfl, rfl, rfl, rfl, rfl, congrArg Value.bool (by simp [pairP, *]), trivial⟩
          · refine R.mvE rfl (by conv => lhs; whnf) ?_
            refine R.mvE rfl (by conv => lhs; whnf) ?_
            refine R.eql rfl rfl rfl ?_
            refine R.pkFE rfl rfl (by conv => lhs; whnf) ?_
            refine R.pkTE rfl rfl (by conv => lhs; whnf) ?_
            refine TL.nil (Post.thnN ?_)
            -- cut r6, way yn
            exact ⟨(), HLe.refl _, ⟨rfl, rfl⟩, rfl, rfl, rfl, rfl, rfl, rfl, rfl, congrArg Value.bool (by simp [pairP, *]), trivial⟩
        · refine TL.off rfl rfl rfl ?_
          refine TL.off rfl rfl rfl ?_
          refine TL.off rfl rfl rfl ?_
          refine TL.off rfl rfl rfl ?_
          refine TL.offU rfl rfl ?_
          refine TL.offU rfl rfl ?_
          refine TL.offU rfl rfl ?_
          refine TL.off rfl rfl rfl ?_
          refine R.pkFE rfl rfl (by conv => lhs; whnf) ?_
          refine TL.nil (Post.thnN ?_)
          -- cut r6, way n
          exact ⟨(), HLe.refl _, ⟨rfl, rfl⟩, rfl, rfl, rfl, rfl, rfl, rfl, rfl, congrArg Value.bool (by simp [pairP, *]), trivial⟩
      · intro _ σ_r6 H_r6 L_r6 ds_r6 s_r6 hI_r6
        obtain ⟨rfl, rfl⟩ := hI_r6
        replace ho := ho.mono s_r6
        replace s_0 := s_0.trans s_r6
        refine T.cond rfl (fun c33 => ?_) (fun c33 => ?_)
        · refine T.region ?_
          refine R.mvE rfl (by conv => lhs; whnf) ?_
          refine R.mvE rfl (by conv => lhs; whnf) ?_
          refine R.bs rfl (run_buildSlice1 Try.underlying22 Try.sizeOf28 Try.zeroValue28 rfl rfl) ?_
          intro b36
          refine R.app (ys := [y]) Try_ty22 rfl rfl rfl ho (.tl .hd) (Src.lit (vs := [.int .u64 y]) .hd) ⟨[.int .u64 y], [], rfl, rfl, rfl⟩ (by have := List.length_filter_le ((pairP (fun a b => decide (a = n) || decide (b = n)))) (xs.take q.1); have : (xs.take q.1).length ≤ xs.length := (by simp; omega); simp only [List.length_cons, List.length_nil]; omega) (by have := List.length_filter_le ((pairP (fun a b => decide (a = n) || decide (b = n)))) (xs.take q.1); have : (xs.take q.1).length ≤ xs.length := (by simp; omega); simp only [List.length_cons, List.length_nil]; omega) ?_
          intro v37 c37 w37
          refine TL.del (.tl .hd) ?_
          refine R.asE rfl (by conv => lhs; whnf) ?_
          refine TL.nil (Post.blkN ?_)
          refine id (Post.thnN ?_)
          refine T.region ?_
          refine R.addI rfl rfl rfl (by omega) ?_
          refine R.mvE rfl (by conv => lhs; whnf) ?_
          refine TL.nil (Post.thnN ?_)
          -- round's end, way yy
          exact ⟨(q.1 + 1, v37, c37), s_0, ⟨by show q.1 + 1 ≤ xs.length; omega, rfl, rfl, by rw [filt_yes hy c33]; exact w37⟩, by show xs.length - (q.1 + 1) < xs.length - q.1; omega, ⟨rfl, rfl, rfl, rfl, rfl, trivial⟩⟩
        · refine T.skip (Post.blkN ?_)
          refine id (Post.thnN ?_)
          refine T.region ?_
          refine R.addI rfl rfl rfl (by omega) ?_
          refine R.mvE rfl (by conv => lhs; whnf) ?_
          refine TL.nil (Post.thnN ?_)
          -- round's end, way yn
          exact ⟨(q.1 + 1, q.2.1, q.2.2), s_0, ⟨by show q.1 + 1 ≤ xs.length; omega, rfl, rfl, by rw [filt_no hy c33]; exact ho⟩, by show xs.length - (q.1 + 1) < xs.length - q.1; omega, ⟨rfl, rfl, rfl, rfl, rfl, trivial⟩⟩
    · refine T.exit (Post.thnE (Post.thnE (Post.blkX ?_)))
      refine id (Post.thnN ?_)
      refine T.seq ?_
      refine T.shut .hd ?_
      intro HS sS qS
      have hkx : q.1 = xs.length := by omega
      rw [hkx, List.take_length] at ho
      have hw := ho.read sS qS
      refine T.region ?_
      refine R.mvE rfl (by conv => lhs; whnf) ?_
      refine R.asE rfl (by conv => lhs; whnf) ?_
      refine TL.nil (Post.thnN ?_)
      refine T.ret ?_
      -- way n
      exact fin1 rfl rfl ⟨rfl, hw⟩


set_option maxHeartbeats 1600000 in
theorem rwithout_c (H : Heap) (v : Value) (xs : List Int) (x : Int) (hr : RdS (intE .u64) H v xs)  (hl : xs.length ≤ 1000) : Fp Try.prog (fnv 26) [v, .int .u64 x] H (fun v' H' => RdS (intE .u64) H' v' ((xs.filter (fun y => decide (y ≠ x))))) := by
  refine Fc.of_body (N := 23) Try.func26 rfl (by kernel_rfl) rfl rfl ?_
  intro w0
  obtain ⟨A, c, rfl, hc1, hc2, hr⟩ := hr.shape
  refine T.seq ?_
  refine T.region ?_
  refine R.asE rfl (by conv => lhs; whnf) ?_
  refine TL.nil (Post.thnN ?_)
  refine T.seq ?_
  refine T.region ?_
  refine R.asE rfl (by conv => lhs; whnf) ?_
  refine TL.nil (Post.thnN ?_)
  refine T.seq ?_
  refine T.seq ?_
  refine T.nilc ?_
  refine T.region ?_
  refine R.mvE rfl (by conv => lhs; whnf) ?_
  refine R.len Try.underlying22 rfl rfl ?_
  refine R.mvE rfl (by conv => lhs; whnf) ?_
  refine TL.nil (Post.thnN ?_)
  refine T.block ?_
  refine T.loop (ι := Nat × Value × Chunk) (fun q H' L' ds' => q.1 ≤ xs.length ∧ L' = [q.2.2] ∧ ds' = [] ∧ OwnS (intE .u64) 28 H' q.2.1 (((xs.take q.1).filter (fun y => decide (y ≠ x)))) q.2.2) (fun q => [(1, .int .u64 x), (5, q.2.1), (8, .slice A xs.length c), (9, .int .i64 xs.length), (10, .int .i64 q.1)]) (fun q => xs.length - q.1) ((0, .slice none 0 0, [])) ?_ ?_ ?_
  · exact ⟨Nat.zero_le _, rfl, rfl, OwnS.nil⟩
  · exact ⟨rfl, rfl, rfl, rfl, rfl, trivial⟩
  · intro q σ0 H_0 L_0 ds_0 s_0 hI_0
    obtain ⟨hk, rfl, rfl, ho⟩ := hI_0
    refine T.seq ?_
    refine T.region ?_
    refine R.lss rfl rfl rfl ?_
    refine TL.nil (Post.thnN ?_)
    refine T.seq ?_
    refine T.condD rfl (fun c11 => ?_) (fun c11 => ?_)
    · have hlt : q.1 < xs.length := by omega
      obtain ⟨y, hy⟩ := getk hlt
      refine T.skip (Post.thnN ?_)
      refine T.seq ?_
      refine T.block ?_
      refine T.seq ?_
      refine T.region ?_
      obtain ⟨b12, o12, i12, e12⟩ := (hr.mono s_0).elem (hy)
      refine R.ixp Try.underlying22 Try.sizeOf28 rfl rfl rfl (by omega) i12 ?_
      refine R.ldC Try.isAgg28 rfl rfl (e12).int ?_
      refine R.asE rfl (by conv => lhs; whnf) ?_
      refine TL.nil (Post.thnN ?_)
      refine T.seq ?_
      refine T.region ?_
      refine R.mvE rfl (by conv => lhs; whnf) ?_
      refine R.mvE rfl (by conv => lhs; whnf) ?_
      refine R.neq rfl rfl rfl ?_
      refine TL.nil (Post.thnN ?_)
      refine T.condD rfl (fun c16 => ?_) (fun c16 => ?_)
      · refine T.region ?_
        refine R.mvE rfl (by conv => lhs; whnf) ?_
        refine R.mvE rfl (by conv => lhs; whnf) ?_
        refine R.bs rfl (run_buildSlice1 Try.underlying22 Try.sizeOf28 Try.zeroValue28 rfl rfl) ?_
        intro b19
        refine R.app (ys := [y]) Try_ty22 rfl rfl rfl ho (.tl .hd) (Src.lit (vs := [.int .u64 y]) .hd) ⟨[.int .u64 y], [], rfl, rfl, rfl⟩ (by have := List.length_filter_le (fun y => decide (y ≠ x)) (xs.take q.1); have : (xs.take q.1).length ≤ xs.length := (by simp; omega); simp only [List.length_cons, List.length_nil]; omega) (by have := List.length_filter_le (fun y => decide (y ≠ x)) (xs.take q.1); have : (xs.take q.1).length ≤ xs.length := (by simp; omega); simp only [List.length_cons, List.length_nil]; omega) ?_
        intro v20 c20 w20
        refine TL.del (.tl .hd) ?_
        refine R.asE rfl (by conv => lhs; whnf) ?_
        refine TL.nil (Post.blkN ?_)
        refine id (Post.thnN ?_)
        refine T.region ?_
        refine R.addI rfl rfl rfl (by omega) ?_
        refine R.mvE rfl (by conv => lhs; whnf) ?_
        refine TL.nil (Post.thnN ?_)
        -- round's end, way yy
        exact ⟨(q.1 + 1, v20, c20), s_0, ⟨by show q.1 + 1 ≤ xs.length; omega, rfl, rfl, by rw [filt_yes hy (decide_eq_true c16)]; exact w20⟩, by show xs.length - (q.1 + 1) < xs.length - q.1; omega, ⟨rfl, rfl, rfl, rfl, rfl, trivial⟩⟩
      · refine T.skip (Post.blkN ?_)
        refine id (Post.thnN ?_)
        refine T.region ?_
        refine R.addI rfl rfl rfl (by omega) ?_
        refine R.mvE rfl (by conv => lhs; whnf) ?_
        refine TL.nil (Post.thnN ?_)
        -- round's end, way yn
        exact ⟨(q.1 + 1, q.2.1, q.2.2), s_0, ⟨by show q.1 + 1 ≤ xs.length; omega, rfl, rfl, by rw [filt_no hy (decide_eq_false c16)]; exact ho⟩, by show xs.length - (q.1 + 1) < xs.length - q.1; omega, ⟨rfl, rfl, rfl, rfl, rfl, trivial⟩⟩
    · refine T.exit (Post.thnE (Post.thnE (Post.blkX ?_)))
      refine id (Post.thnN ?_)
      refine T.seq ?_
      refine T.shut .hd ?_
      intro HS sS qS
      have hkx : q.1 = xs.length := by omega
      rw [hkx, List.take_length] at ho
      have hw := ho.read sS qS
      refine T.region ?_
      refine R.mvE rfl (by conv => lhs; whnf) ?_
      refine R.asE rfl (by conv => lhs; whnf) ?_
      refine TL.nil (Post.thnN ?_)
      refine T.ret ?_
      -- way n
      exact fin1 rfl rfl ⟨rfl, hw⟩


set_option maxHeartbeats 1600000 in
theorem rmeet_c (H : Heap) (v : Value) (xs : List Int) (v2 : Value) (ys : List Int) (hr : RdS (intE .u64) H v xs)  (hl : xs.length ≤ 1000) (hr2 : RdS (intE .u64) H v2 ys) : Fp Try.prog (fnv 35) [v, v2] H (fun v' H' => RdS (intE .u64) H' v' ((xs.filter (fun y => ys.any (fun z => decide (z = y)))))) := by
  refine Fc.of_body (N := 23) Try.func35 rfl (by kernel_rfl) rfl rfl ?_
  intro w0
  obtain ⟨A, c, rfl, hc1, hc2, hr⟩ := hr.shape
  refine T.seq ?_
  refine T.region ?_
  refine R.asE rfl (by conv => lhs; whnf) ?_
  refine TL.nil (Post.thnN ?_)
  refine T.seq ?_
  refine T.region ?_
  refine R.asE rfl (by conv => lhs; whnf) ?_
  refine TL.nil (Post.thnN ?_)
  refine T.seq ?_
  refine T.seq ?_
  refine T.nilc ?_
  refine T.region ?_
  refine R.mvE rfl (by conv => lhs; whnf) ?_
  refine R.len Try.underlying22 rfl rfl ?_
  refine R.mvE rfl (by conv => lhs; whnf) ?_
  refine TL.nil (Post.thnN ?_)
  refine T.block ?_
  refine T.loop (ι := Nat × Value × Chunk) (fun q H' L' ds' => q.1 ≤ xs.length ∧ L' = [q.2.2] ∧ ds' = [] ∧ OwnS (intE .u64) 28 H' q.2.1 (((xs.take q.1).filter (fun y => ys.any (fun z => decide (z = y))))) q.2.2) (fun q => [(1, v2), (5, q.2.1), (8, .slice A xs.length c), (9, .int .i64 xs.length), (10, .int .i64 q.1)]) (fun q => xs.length - q.1) ((0, .slice none 0 0, [])) ?_ ?_ ?_
  · exact ⟨Nat.zero_le _, rfl, rfl, OwnS.nil⟩
  · exact ⟨rfl, rfl, rfl, rfl, rfl, trivial⟩
  · intro q σ0 H_0 L_0 ds_0 s_0 hI_0
    obtain ⟨hk, rfl, rfl, ho⟩ := hI_0
    refine T.seq ?_
    refine T.region ?_
    refine R.lss rfl rfl rfl ?_
    refine TL.nil (Post.thnN ?_)
    refine T.seq ?_
    refine T.condD rfl (fun c11 => ?_) (fun c11 => ?_)
    · have hlt : q.1 < xs.length := by omega
      obtain ⟨y, hy⟩ := getk hlt
      refine T.skip (Post.thnN ?_)
      refine T.seq ?_
      refine T.block ?_
      refine T.seq ?_
      refine T.region ?_
      obtain ⟨b12, o12, i12, e12⟩ := (hr.mono s_0).elem (hy)
      refine R.ixp Try.underlying22 Try.sizeOf28 rfl rfl rfl (by omega) i12 ?_
      refine R.ldC Try.isAgg28 rfl rfl (e12).int ?_
      refine R.asE rfl (by conv => lhs; whnf) ?_
      refine TL.nil (Post.thnN ?_)
      refine T.seq ?_
      refine T.region ?_
      refine R.mvE rfl (by conv => lhs; whnf) ?_
      refine R.mvE rfl (by conv => lhs; whnf) ?_
      refine R.callv rfl rfl rfl (rhas_c _ _ _ _ (hr2.mono s_0)) ?_
      refine TL.nil (Post.thnN ?_)
      refine T.cond rfl (fun c16 => ?_) (fun c16 => ?_)
      · refine T.region ?_
        refine R.mvE rfl (by conv => lhs; whnf) ?_
        refine R.mvE rfl (by conv => lhs; whnf) ?_
        refine R.bs rfl (run_buildSlice1 Try.underlying22 Try.sizeOf28 Try.zeroValue28 rfl rfl) ?_
        intro b19
        refine R.app (ys := [y]) Try_ty22 rfl rfl rfl ho (.tl .hd) (Src.lit (vs := [.int .u64 y]) .hd) ⟨[.int .u64 y], [], rfl, rfl, rfl⟩ (by have := List.length_filter_le (fun y => ys.any (fun z => decide (z = y))) (xs.take q.1); have : (xs.take q.1).length ≤ xs.length := (by simp; omega); simp only [List.length_cons, List.length_nil]; omega) (by have := List.length_filter_le (fun y => ys.any (fun z => decide (z = y))) (xs.take q.1); have : (xs.take q.1).length ≤ xs.length := (by simp; omega); simp only [List.length_cons, List.length_nil]; omega) ?_
        intro v20 c20 w20
        refine TL.del (.tl .hd) ?_
        refine R.asE rfl (by conv => lhs; whnf) ?_
        refine TL.nil (Post.blkN ?_)
        refine id (Post.thnN ?_)
        refine T.region ?_
        refine R.addI rfl rfl rfl (by omega) ?_
        refine R.mvE rfl (by conv => lhs; whnf) ?_
        refine TL.nil (Post.thnN ?_)
        -- round's end, way yy
        exact ⟨(q.1 + 1, v20, c20), s_0, ⟨by show q.1 + 1 ≤ xs.length; omega, rfl, rfl, by rw [filt_yes hy c16]; exact w20⟩, by show xs.length - (q.1 + 1) < xs.length - q.1; omega, ⟨rfl, rfl, rfl, rfl, rfl, trivial⟩⟩
      · refine T.skip (Post.blkN ?_)
        refine id (Post.thnN ?_)
        refine T.region ?_
        refine R.addI rfl rfl rfl (by omega) ?_
        refine R.mvE rfl (by conv => lhs; whnf) ?_
        refine TL.nil (Post.thnN ?_)
        -- round's end, way yn
        exact ⟨(q.1 + 1, q.2.1, q.2.2), s_0, ⟨by show q.1 + 1 ≤ xs.length; omega, rfl, rfl, by rw [filt_no hy c16]; exact ho⟩, by show xs.length - (q.1 + 1) < xs.length - q.1; omega, ⟨rfl, rfl, rfl, rfl, rfl, trivial⟩⟩
    · refine T.exit (Post.thnE (Post.thnE (Post.blkX ?_)))
      refine id (Post.thnN ?_)
      refine T.seq ?_
      refine T.shut .hd ?_
      intro HS sS qS
      have hkx : q.1 = xs.length := by omega
      rw [hkx, List.take_length] at ho
      have hw := ho.read sS qS
      refine T.region ?_
      refine R.mvE rfl (by conv => lhs; whnf) ?_
      refine R.asE rfl (by conv => lhs; whnf) ?_
      refine TL.nil (Post.thnN ?_)
      refine T.ret ?_
      -- way n
      exact fin1 rfl rfl ⟨rfl, hw⟩

end Go.SX
