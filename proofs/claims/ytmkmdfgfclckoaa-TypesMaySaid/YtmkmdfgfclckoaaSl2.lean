/- slices: BinarySearch, Delete, IndexFunc, CompareFunc, Reverse. -/
import Derived.Test.YtmkmdfgfclckoaaSl1
import Derived.Test.YtmkmdfgfclckoaaSxA
set_option linter.unusedVariables false
set_option linter.unusedSimpArgs false
namespace Go.SX
open Go Go.Proofs

set_option maxHeartbeats 1600000 in
theorem bsearchU22_c (H : Heap) (v : Value) (xs : List Int) (x : Int) (hr : RdS (intE .u64) H v xs) (hl : xs.length ≤ 1048576) (hup : Up xs) : Fv Try.prog (fnv 64) [v, .int .u64 x] H (.tuple #[.int .i64 (cntLt xs x), .bool (decide (x ∈ xs))]) := by
  refine Fc.of_body (N := 54) Try.func64 rfl (by kernel_rfl) rfl rfl ?_
  intro w0
  obtain ⟨A, c, rfl, hc1, hc2, hr⟩ := hr.shape
  refine T.seq ?_
  refine T.region ?_
  refine R.asE rfl (by conv => lhs; whnf) ?_
  refine R.asE rfl (by conv => lhs; whnf) ?_
  refine TL.nil (Post.thnN ?_)
  refine T.seq ?_
  refine T.region ?_
  refine R.mvE rfl (by conv => lhs; whnf) ?_
  refine R.len Try.underlying22 rfl rfl ?_
  refine R.asE rfl (by conv => lhs; whnf) ?_
  refine TL.nil (Post.thnN ?_)
  refine T.seq ?_
  refine T.region ?_
  refine R.mvE rfl (by conv => lhs; whnf) ?_
  refine R.asE rfl (by conv => lhs; whnf) ?_
  refine R.asE rfl (by conv => lhs; whnf) ?_
  refine TL.nil (Post.thnN ?_)
  refine T.seq ?_
  refine T.block ?_
  refine T.loop (ι := Nat × Nat) (fun q H' L' ds' => (q.1 ≤ q.2 ∧ q.2 ≤ xs.length) ∧ (∀ (j : Nat) y, j < q.1 → xs[j]? = some y → y < x) ∧ (∀ (j : Nat) y, q.2 ≤ j → xs[j]? = some y → x ≤ y)) (fun q => [(0, .slice A xs.length c), (1, .int .u64 x), (6, .int .i64 xs.length), (7, .int .i64 q.1), (8, .int .i64 q.2)]) (fun q => q.2 - q.1) ((0, xs.length)) ?_ ?_ ?_
  · exact ⟨⟨Nat.zero_le _, Nat.le_refl _⟩, fun j y h => absurd h (Nat.not_lt_zero _), fun j y h1 h2 => absurd (List.getElem?_eq_some_iff.1 h2).1 (by show ¬ j < xs.length; have : xs.length ≤ j := h1; omega)⟩
  · exact ⟨rfl, rfl, rfl, rfl, rfl, trivial⟩
  · intro q σ0 H_0 L_0 ds_0 s_0 hI_0
    obtain ⟨hq, hlo, hhi⟩ := hI_0
    refine T.seq ?_
    refine T.seq ?_
    refine T.region ?_
    refine R.mvE rfl (by conv => lhs; whnf) ?_
    refine R.mvE rfl (by conv => lhs; whnf) ?_
    refine R.lss rfl rfl rfl ?_
    refine TL.nil (Post.thnN ?_)
    refine T.condD rfl (fun c15 => ?_) (fun c15 => ?_)
    · have hlt : (q.1 + q.2) / 2 < xs.length := by omega
      obtain ⟨y, hy⟩ := getk hlt
      refine T.skip (Post.thnN ?_)
      refine T.block ?_
      refine T.seq ?_
      refine T.region ?_
      refine R.mvE rfl (by conv => lhs; whnf) ?_
      refine R.mvE rfl (by conv => lhs; whnf) ?_
      refine R.addI rfl rfl rfl (by omega) ?_
      refine R.conv Try.underlying3 Try.underlying80 rfl rfl ?_
      refine R.shr rfl rfl rfl (by omega) ?_
      refine R.conv Try.underlying80 Try.underlying3 rfl rfl ?_
      refine TL.set 21 (.int .i64 (((q.1 + q.2) / 2 : Nat) : Int)) (congrArg _ (mid_eq _ _ (by omega))) ?_
      refine R.asE rfl (by conv => lhs; whnf) ?_
      refine TL.nil (Post.thnN ?_)
      refine T.seq ?_
      refine T.region ?_
      refine R.mvE rfl (by conv => lhs; whnf) ?_
      refine R.mvE rfl (by conv => lhs; whnf) ?_
      obtain ⟨b24, o24, i24, e24⟩ := (hr.mono s_0).elem (hy)
      refine R.ixp Try.underlying22 Try.sizeOf28 rfl rfl rfl (by omega) i24 ?_
      refine R.ldC Try.isAgg28 rfl rfl (e24).int ?_
      refine R.mvE rfl (by conv => lhs; whnf) ?_
      refine R.callv rfl rfl rfl (lessU28_c _ _ _) ?_
      refine TL.nil (Post.thnN ?_)
      refine T.condD rfl (fun c27 => ?_) (fun c27 => ?_)
      · refine T.region ?_
        refine R.mvE rfl (by conv => lhs; whnf) ?_
        refine R.addI rfl rfl rfl (by omega) ?_
        refine R.asE rfl (by conv => lhs; whnf) ?_
        refine TL.nil (Post.blkN ?_)
        refine id (Post.thnN ?_)
        -- round's end, way yy
        exact ⟨((q.1 + q.2) / 2 + 1, q.2), s_0, ⟨⟨by show (q.1 + q.2) / 2 + 1 ≤ q.2; omega, hq.2⟩, fun j z h1 h2 => bs_lo hup hy c27 (by have : j < (q.1 + q.2) / 2 + 1 := h1; omega) h2, hhi⟩, by show q.2 - ((q.1 + q.2) / 2 + 1) < q.2 - q.1; omega, ⟨rfl, rfl, rfl, rfl, rfl, trivial⟩⟩
      · refine T.region ?_
        refine R.mvE rfl (by conv => lhs; whnf) ?_
        refine R.asE rfl (by conv => lhs; whnf) ?_
        refine TL.nil (Post.blkN ?_)
        refine id (Post.thnN ?_)
        -- round's end, way yn
        exact ⟨(q.1, (q.1 + q.2) / 2), s_0, ⟨⟨by show q.1 ≤ (q.1 + q.2) / 2; omega, by show (q.1 + q.2) / 2 ≤ xs.length; omega⟩, hlo, fun j z h1 h2 => bs_hi hup hy c27 (by have : (q.1 + q.2) / 2 ≤ j := h1; omega) h2⟩, by show (q.1 + q.2) / 2 - q.1 < q.2 - q.1; omega, ⟨rfl, rfl, rfl, rfl, rfl, trivial⟩⟩
    · have hqq : q.2 = q.1 := by omega
      rw [hqq] at hhi
      refine T.exit (Post.thnE (Post.thnE (Post.blkX ?_)))
      refine id (Post.thnN ?_)
      refine T.seq ?_
      refine T.region ?_
      refine R.mvE rfl (by conv => lhs; whnf) ?_
      refine R.mvE rfl (by conv => lhs; whnf) ?_
      refine R.mvE rfl (by conv => lhs; whnf) ?_
      refine R.lss rfl rfl rfl ?_
      refine R.mvE rfl (by conv => lhs; whnf) ?_
      refine TL.gsplitD 35 rfl (fun g35 => ?_) (fun g35 => ?_)
      · have hlt : q.1 < xs.length := by omega
        obtain ⟨y0, hy0⟩ := getk hlt
        refine R.mvE rfl (by conv => lhs; whnf) ?_
        refine R.mvE rfl (by conv => lhs; whnf) ?_
        obtain ⟨b38, o38, i38, e38⟩ := (hr.mono s_0).elem (hy0)
        refine R.ixp Try.underlying22 Try.sizeOf28 rfl rfl rfl (by omega) i38 ?_
        refine R.ldC Try.isAgg28 rfl rfl (e38).int ?_
        refine R.mvE rfl (by conv => lhs; whnf) ?_
        refine R.eql rfl rfl rfl ?_
        refine R.mvE rfl (by conv => lhs; whnf) ?_
        refine TL.gsplitD 42 rfl (fun g42 => ?_) (fun g42 => ?_)
        · refine TL.off rfl rfl rfl ?_
          refine TL.off rfl rfl rfl ?_
          refine TL.off rfl rfl rfl ?_
          refine TL.off rfl rfl rfl ?_
          refine TL.off rfl rfl rfl ?_
          refine TL.off rfl rfl rfl ?_
          refine TL.offU rfl rfl ?_
          refine TL.offU rfl rfl ?_
          refine TL.off rfl rfl rfl ?_
          refine R.pkTE rfl rfl (by conv => lhs; whnf) ?_
          refine R.pkTE rfl rfl (by conv => lhs; whnf) ?_
          refine R.asE rfl (by conv => lhs; whnf) ?_
          refine R.asE rfl (by conv => lhs; whnf) ?_
          refine TL.nil (Post.thnN ?_)
          refine T.ret ?_
          -- way nyy
          exact fin2 rfl rfl rfl ⟨rfl, tupIB (congrArg _ (cntLt_eq (by omega) hlo hhi)).symm (decide_eq_true ((cnt_mem hlo hhi hup).2 (by rw [hy0, g42]))).symm⟩
        · refine R.mvE rfl (by conv => lhs; whnf) ?_
          refine R.mvE rfl (by conv => lhs; whnf) ?_
          obtain ⟨b45, o45, i45, e45⟩ := (hr.mono s_0).elem (hy0)
          refine R.ixp Try.underlying22 Try.sizeOf28 rfl rfl rfl (by omega) i45 ?_
          refine R.ldC Try.isAgg28 rfl rfl (e45).int ?_
          refine R.callv rfl rfl rfl (isNaNsU28_c _ _) ?_
          refine R.mvE rfl (by conv => lhs; whnf) ?_
          refine TL.off rfl rfl rfl ?_
          refine TL.off rfl rfl rfl ?_
          refine R.pkFE rfl rfl (by conv => lhs; whnf) ?_
          refine R.pkFE rfl rfl (by conv => lhs; whnf) ?_
          refine R.pkTE rfl rfl (by conv => lhs; whnf) ?_
          refine R.asE rfl (by conv => lhs; whnf) ?_
          refine R.asE rfl (by conv => lhs; whnf) ?_
          refine TL.nil (Post.thnN ?_)
          refine T.ret ?_
          -- way nyn
          exact fin2 rfl rfl rfl ⟨rfl, tupIB (congrArg _ (cntLt_eq (by omega) hlo hhi)).symm (decide_eq_false (fun h => g42 (by have := (cnt_mem hlo hhi hup).1 h; rw [hy0] at this; injection this))).symm⟩
      · refine TL.off rfl rfl rfl ?_
        refine TL.off rfl rfl rfl ?_
        refine TL.off rfl rfl rfl ?_
        refine TL.off rfl rfl rfl ?_
        refine TL.off rfl rfl rfl ?_
        refine TL.off rfl rfl rfl ?_
        refine TL.off rfl rfl rfl ?_
        refine TL.offU rfl rfl ?_
        refine TL.offU rfl rfl ?_
        refine TL.offU rfl rfl ?_
        refine TL.offU rfl rfl ?_
        refine TL.offU rfl rfl ?_
        refine TL.offU rfl rfl ?_
        refine TL.offU rfl rfl ?_
        refine TL.offU rfl rfl ?_
        refine TL.offU rfl rfl ?_
        refine TL.off rfl rfl rfl ?_
        refine R.pkFE rfl rfl (by conv => lhs; whnf) ?_
        refine R.asE rfl (by conv => lhs; whnf) ?_
        refine R.asE rfl (by conv => lhs; whnf) ?_
        refine TL.nil (Post.thnN ?_)
        refine T.ret ?_
        -- way nn
        exact fin2 rfl rfl rfl ⟨rfl, tupIB (congrArg _ (cntLt_eq (by omega) hlo hhi)).symm (decide_eq_false (fun h => by have := (cnt_mem hlo hhi hup).1 h; have := (List.getElem?_eq_some_iff.1 this).1; omega)).symm⟩


set_option maxHeartbeats 1600000 in
theorem deleteU22_c (H : Heap) (v : Value) (xs : List Int) (i j : Nat) (ch : Chunk) (ho : OwnS (intE .u64) 28 H v xs ch) (hij : i < j) (hj : j ≤ xs.length) : Fc Try.prog (fnv 65) [v, .int .i64 i, .int .i64 j] H [ch] (fun v' H' L' => ∃ c, L' = [c] ∧ OwnS (intE .u64) 28 H' v' (xs.take i ++ xs.drop j) c) := by
  refine Fc.of_body (N := 33) Try.func65 rfl (by kernel_rfl) rfl rfl ?_
  intro w0
  obtain ⟨A, cap, rfl, hc1, hc2⟩ := ho.shape
  have hln : (xs.take i).length = i := by simp; omega
  have hln2 : (xs.take i ++ xs.drop j).length = i + (xs.length - j) := by simp; omega
  refine T.seq ?_
  refine T.region ?_
  refine R.asE rfl (by conv => lhs; whnf) ?_
  refine TL.nil (Post.thnN ?_)
  refine T.seq ?_
  refine T.region ?_
  refine R.mvE rfl (by conv => lhs; whnf) ?_
  refine R.mvE rfl (by conv => lhs; whnf) ?_
  refine R.mvE rfl (by conv => lhs; whnf) ?_
  refine R.mvE rfl (by conv => lhs; whnf) ?_
  refine R.len Try.underlying22 rfl rfl ?_
  refine R.sLHM Try.underlying22 Try.sizeOf28 rfl rfl rfl rfl rfl  (by omega) (by omega) (by omega) (by omega)  ?_
  refine TL.nil (Post.thnN ?_)
  refine T.seq ?_
  refine T.seq ?_
  refine T.region ?_
  refine R.mvE rfl (by conv => lhs; whnf) ?_
  refine R.mvE rfl (by conv => lhs; whnf) ?_
  refine R.eql rfl rfl rfl ?_
  refine TL.nil (Post.thnN ?_)
  refine T.set 16 (.bool false) (congrArg Value.bool (decide_eq_false (by omega))) ?_
  refine T.condN rfl ?_
  refine T.skip (Post.thnN ?_)
  refine T.seq ?_
  refine T.region ?_
  refine R.mvE rfl (by conv => lhs; whnf) ?_
  refine R.len Try.underlying22 rfl rfl ?_
  refine R.asE rfl (by conv => lhs; whnf) ?_
  refine TL.nil (Post.thnN ?_)
  refine T.seq ?_
  refine T.draw Try_mixed (by kernel_rfl) ?_
  refine Plan.v 0 [1, 2, 3, 4, 5, 6, 7] (by kernel_rfl) (by kernel_rfl) (by kernel_rfl) (by kernel_rfl) rfl (fun _ _ h_ => R.mvE rfl (by conv => lhs; whnf) (TL.nil h_)) ?_
  refine Plan.v 1 [2, 3, 4, 5, 6, 7] (by kernel_rfl) (by kernel_rfl) (by kernel_rfl) (by kernel_rfl) rfl (fun _ _ h_ => R.mvE rfl (by conv => lhs; whnf) (TL.nil h_)) ?_
  refine Plan.v 2 [3, 4, 5, 6, 7] (by kernel_rfl) (by kernel_rfl) (by kernel_rfl) (by kernel_rfl) rfl (fun _ _ h_ => R.sH Try.underlying22 Try.sizeOf28 rfl rfl rfl (by omega) (by omega) (TL.nil h_)) ?_
  refine Plan.set 22 (.slice A i cap) (slc_take0 (n := xs.length) (i := i)) ?_
  refine Plan.v 3 [4, 5, 6, 7] (by kernel_rfl) (by kernel_rfl) (by kernel_rfl) (by kernel_rfl) rfl (fun _ _ h_ => R.mvE rfl (by conv => lhs; whnf) (TL.nil h_)) ?_
  refine Plan.v 4 [5, 6, 7] (by kernel_rfl) (by kernel_rfl) (by kernel_rfl) (by kernel_rfl) rfl (fun _ _ h_ => R.mvE rfl (by conv => lhs; whnf) (TL.nil h_)) ?_
  refine Plan.v 5 [6, 7] (by kernel_rfl) (by kernel_rfl) (by kernel_rfl) (by kernel_rfl) rfl (fun _ _ h_ => R.sL Try.underlying22 Try.sizeOf28 rfl rfl rfl  (by omega) (by omega)  (TL.nil h_)) ?_
  refine Plan.s1 6 [7] (by kernel_rfl) (by kernel_rfl) rfl ?_
  obtain ⟨cs26, y26, r26⟩ := Src.ownDrop (L := [ch]) (m := cap) ho .hd hj hc1
  refine R.appR (xs := xs.take i) (ys := xs.drop j) Try_ty22 rfl (by rw [hln]; rfl) rfl (by rw [hln]; exact own_take0 ho (by omega)) .hd r26 y26 (by simp; omega) ?_
  intro c26 w26
  refine TL.nil (Plan.e1 (HLe.refl _) ?_)
  refine Plan.s1 7 [] (by kernel_rfl) (by kernel_rfl) rfl ?_
  refine R.asE rfl (by conv => lhs; whnf) ?_
  refine TL.nil (Plan.e1 (HLe.refl _) ?_)
  refine Plan.done (Post.thnN ?_)
  refine T.seq ?_
  refine T.region ?_
  refine R.mvE rfl (by conv => lhs; whnf) ?_
  refine R.mvE rfl (by conv => lhs; whnf) ?_
  refine R.len Try.underlying22 rfl rfl ?_
  refine R.mvE rfl (by conv => lhs; whnf) ?_
  refine R.sLH Try.underlying22 Try.sizeOf28 rfl rfl rfl rfl  (by omega) (by omega) (by omega)  ?_
  refine R.clr (dd := none) Try_ty22 (zone_of (z := .int .u64 0) (by kernel_rfl) (by intro v hv; have e0 : v = .int .u64 0 := (by simpa [Value.cells] using hv); subst e0; rfl)) rfl (fun q h => by cases h) (m := xs.length) rfl w26 .hd (by omega) (by omega) ?_
  intro c27 w27
  refine TL.nil (Post.thnN ?_)
  refine T.seq ?_
  refine T.region ?_
  refine R.mvE rfl (by conv => lhs; whnf) ?_
  refine R.asE rfl (by conv => lhs; whnf) ?_
  refine TL.nil (Post.thnN ?_)
  refine T.ret ?_
  exact fin1L [c27] rfl rfl (List.Sublist.refl _) ⟨_, rfl, w27⟩

end Go.SX
