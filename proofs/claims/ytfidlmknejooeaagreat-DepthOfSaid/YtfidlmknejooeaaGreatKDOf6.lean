/- 'DepthOf' answers true, whatever it is handed, and what it is handed reads behind it as it did. -/
import Derived.RangeFuncNested
import Derived.RangeFuncBound
import Derived.RangeFuncCalls
import Derived.RangeFuncLeaves
import Derived.Shelf.Abstract
import Derived.Laws.AppendOwn
import Derived.Laws.OwnMore
import Derived.KernelRfl
import Derived.IntWalk
import Derived.Laws.Append
import Derived.WideLaws
import Derived.Laws.Slices
import Derived.Laws.MakeOwn
import Derived.OrdersIn
import Derived.Laws.Cover3
import Derived.Test.YtfidlmknejooeaaGreatProg
import Derived.Sort.OwnSortedInts
import Derived.Shelf.Sort.Plain
import Derived.Laws.StructEq
import Derived.Maps.RangeRun
import Derived.Shelf.SlSortCmp.NoneTotal
import Derived.Deep.Draws
import Derived.Shelf.Slices.In.SortNone
import Derived.ProofKit
import Derived.ChangeSlices
import Derived.Carry
import Derived.Deep.Slices
import Derived.OpenShut
import Derived.Test.YtfidlmknejooeaaGreatRows
import Derived.Test.YtfidlmknejooeaaGreatKDOf5
set_option linter.unusedVariables false
set_option linter.unusedSimpArgs false
namespace Go.SX
open Go Go.Proofs

set_option maxHeartbeats 1600000 in
theorem dcheck_c (H : Heap) (v : Value) (d : List Lk) (hr : RdS pairE H v d) : Fv Tryz.prog (fnv 18) [v] H (.int .i64 (if rightD d then 0 else 271)) := by
  refine Fc.of_body (N := 46) Tryz.func18 rfl (by kernel_rfl) rfl rfl ?_
  intro w0
  obtain ⟨A, c, rfl, hc1, hc2, hr⟩ := hr.shape
  refine T.seq ?_
  refine T.region ?_
  refine R.asE rfl (by conv => lhs; whnf) ?_
  refine TL.nil (Post.thnN ?_)
  refine T.scope ?_
  refine T.seq ?_
  refine T.region ?_
  refine R.asE rfl (by conv => lhs; whnf) ?_
  refine TL.nil (Post.thnN ?_)
  refine T.seq ?_
  refine T.label (Post.thnN ?_)
  refine T.seq ?_
  refine T.seq ?_
  refine T.region ?_
  refine R.mvE rfl (by conv => lhs; whnf) ?_
  refine R.len Tryz.underlying23 rfl rfl ?_
  refine R.mvE rfl (by conv => lhs; whnf) ?_
  refine TL.nil (Post.thnN ?_)
  refine T.block ?_
  refine T.loop (ι := Nat) (fun k H' L' ds' => k ≤ d.length ∧ L' = [] ∧ ds' = [] ∧ rightD (d.take k) = true) (fun k => [(0, .slice A d.length c), (3, .bool true), (6, .slice A d.length c), (7, .int .i64 d.length), (8, .int .i64 k)]) (fun k => d.length - k) (0) ?_ ?_ ?_
  · exact ⟨Nat.zero_le _, rfl, rfl, rightD_nil⟩
  · exact ⟨rfl, rfl, rfl, rfl, rfl, trivial⟩
  · intro k σ0 H_0 L_0 ds_0 s_0 hI_0
    obtain ⟨hk, rfl, rfl, hg⟩ := hI_0
    refine T.seq ?_
    refine T.region ?_
    refine R.lss rfl rfl rfl ?_
    refine TL.nil (Post.thnN ?_)
    refine T.seq ?_
    refine T.condD rfl (fun c9 => ?_) (fun c9 => ?_)
    · have hlt : k < d.length := by omega
      obtain ⟨y, hy⟩ := getk hlt
      refine T.skip (Post.thnN ?_)
      refine T.seq ?_
      refine T.block ?_
      refine T.seq ?_
      refine T.region ?_
      refine R.mvE rfl (by conv => lhs; whnf) ?_
      obtain ⟨b11, o11, i11, e11⟩ := (hr.mono s_0).elem (hy)
      refine R.ixp Tryz.underlying23 Tryz.sizeOf29 rfl rfl rfl (by omega) i11 ?_
      refine R.ldP Tryz.isAgg29 Tryz.sizeOf29 rfl rfl (e11) ?_
      refine R.alloc Tryz.zeroValue29 rfl ?_
      intro b5
      refine R.asE rfl (by conv => lhs; whnf) ?_
      refine R.stA (old := [.int .i64 0, .int .i64 0]) Tryz.sizeOf29 rfl rfl rfl rfl rfl (by intro v hv; simp at hv; rcases hv with rfl | rfl <;> rfl) .hd ?_
      refine TL.nil (Post.thnN ?_)
      refine T.cut (ι := Unit) (fun _ H' L' ds' => L' = [] ∧ ds' = []) (fun _ => [(0, .slice A d.length c), (3, .bool (goodB d k y)), (6, .slice A d.length c), (7, .int .i64 d.length), (8, .int .i64 k)]) ?_ ?_
      · refine T.shut .hd ?_
        intro H5 s5 q5
        have h5 : H5 b5 = some (.cells #[.int .i64 y.1, .int .i64 y.2] 29) := shut1 q5
        refine T.draw Tryz_mixed (by kernel_rfl) ?_
        refine Plan.v 0 [1, 2, 3, 4, 5, 6, 7, 8, 9, 10, 11, 12, 13, 14, 15, 16, 17, 18, 19, 20, 21, 22, 23, 24, 25, 26, 27, 28] (by kernel_rfl) (by kernel_rfl) (by kernel_rfl) (by kernel_rfl) rfl (fun _ _ h_ => R.fldA Tryz.underlying29 rfl Tryz.sizeOf3 (by decide) rfl rfl (TL.nil h_)) ?_
        refine Plan.v 1 [2, 3, 4, 5, 6, 7, 8, 9, 10, 11, 12, 13, 14, 15, 16, 17, 18, 19, 20, 21, 22, 23, 24, 25, 26, 27, 28] (by kernel_rfl) (by kernel_rfl) (by kernel_rfl) (by kernel_rfl) rfl (fun _ _ h_ => R.ldH Tryz.isAgg3 rfl rfl (h5) rfl (TL.nil h_)) ?_
        refine Plan.v 2 [3, 4, 5, 6, 7, 8, 9, 10, 11, 12, 13, 14, 15, 16, 17, 18, 19, 20, 21, 22, 23, 24, 25, 26, 27, 28] (by kernel_rfl) (by kernel_rfl) (by kernel_rfl) (by kernel_rfl) rfl (fun _ _ h_ => R.geq rfl rfl rfl (TL.nil h_)) ?_
        refine Plan.v 3 [4, 5, 6, 7, 8, 9, 10, 11, 12, 13, 14, 15, 16, 17, 18, 19, 20, 21, 22, 23, 24, 25, 26, 27, 28] (by kernel_rfl) (by kernel_rfl) (by kernel_rfl) (by kernel_rfl) rfl (fun _ _ h_ => R.mvE rfl (by conv => lhs; whnf) (TL.nil h_)) ?_
        refine Plan.gsplitD 16 rfl (fun g16 => ?_) (fun g16 => ?_)
        · refine Plan.v 4 [5, 6, 7, 8, 9, 10, 11, 12, 13, 14, 15, 16, 17, 18, 19, 20, 21, 22, 23, 24, 25, 26, 27, 28] (by kernel_rfl) (by kernel_rfl) (by kernel_rfl) (by kernel_rfl) rfl (fun _ _ h_ => R.fldA Tryz.underlying29 rfl Tryz.sizeOf3 (by decide) rfl rfl (TL.nil h_)) ?_
          refine Plan.v 5 [6, 7, 8, 9, 10, 11, 12, 13, 14, 15, 16, 17, 18, 19, 20, 21, 22, 23, 24, 25, 26, 27, 28] (by kernel_rfl) (by kernel_rfl) (by kernel_rfl) (by kernel_rfl) rfl (fun _ _ h_ => R.ldH Tryz.isAgg3 rfl rfl (h5) rfl (TL.nil h_)) ?_
          refine Plan.v 6 [7, 8, 9, 10, 11, 12, 13, 14, 15, 16, 17, 18, 19, 20, 21, 22, 23, 24, 25, 26, 27, 28] (by kernel_rfl) (by kernel_rfl) (by kernel_rfl) (by kernel_rfl) rfl (fun _ _ h_ => R.leq rfl rfl rfl (TL.nil h_)) ?_
          refine Plan.v 7 [8, 9, 10, 11, 12, 13, 14, 15, 16, 17, 18, 19, 20, 21, 22, 23, 24, 25, 26, 27, 28] (by kernel_rfl) (by kernel_rfl) (by kernel_rfl) (by kernel_rfl) rfl (fun _ _ h_ => R.pkTE rfl rfl (by conv => lhs; whnf) (TL.nil h_)) ?_
          refine Plan.v 8 [9, 10, 11, 12, 13, 14, 15, 16, 17, 18, 19, 20, 21, 22, 23, 24, 25, 26, 27, 28] (by kernel_rfl) (by kernel_rfl) (by kernel_rfl) (by kernel_rfl) rfl (fun _ _ h_ => R.mvE rfl (by conv => lhs; whnf) (TL.nil h_)) ?_
          refine Plan.gsplitD 21 rfl (fun g21 => ?_) (fun g21 => ?_)
          · refine Plan.v 9 [10, 11, 12, 13, 14, 15, 16, 17, 18, 19, 20, 21, 22, 23, 24, 25, 26, 27, 28] (by kernel_rfl) (by kernel_rfl) (by kernel_rfl) (by kernel_rfl) rfl (fun _ _ h_ => R.fldA Tryz.underlying29 rfl Tryz.sizeOf3 (by decide) rfl rfl (TL.nil h_)) ?_
            refine Plan.v 10 [11, 12, 13, 14, 15, 16, 17, 18, 19, 20, 21, 22, 23, 24, 25, 26, 27, 28] (by kernel_rfl) (by kernel_rfl) (by kernel_rfl) (by kernel_rfl) rfl (fun _ _ h_ => R.ldH Tryz.isAgg3 rfl rfl (h5) rfl (TL.nil h_)) ?_
            refine Plan.v 11 [12, 13, 14, 15, 16, 17, 18, 19, 20, 21, 22, 23, 24, 25, 26, 27, 28] (by kernel_rfl) (by kernel_rfl) (by kernel_rfl) (by kernel_rfl) rfl (fun _ _ h_ => R.geq rfl rfl rfl (TL.nil h_)) ?_
            refine Plan.v 12 [13, 14, 15, 16, 17, 18, 19, 20, 21, 22, 23, 24, 25, 26, 27, 28] (by kernel_rfl) (by kernel_rfl) (by kernel_rfl) (by kernel_rfl) rfl (fun _ _ h_ => R.pkTE rfl rfl (by conv => lhs; whnf) (TL.nil h_)) ?_
            refine Plan.v 13 [14, 15, 16, 17, 18, 19, 20, 21, 22, 23, 24, 25, 26, 27, 28] (by kernel_rfl) (by kernel_rfl) (by kernel_rfl) (by kernel_rfl) rfl (fun _ _ h_ => R.mvE rfl (by conv => lhs; whnf) (TL.nil h_)) ?_
            refine Plan.gsplitD 26 rfl (fun g26 => ?_) (fun g26 => ?_)
            · refine Plan.v 14 [15, 16, 17, 18, 19, 20, 21, 22, 23, 24, 25, 26, 27, 28] (by kernel_rfl) (by kernel_rfl) (by kernel_rfl) (by kernel_rfl) rfl (fun _ _ h_ => R.mvE rfl (by conv => lhs; whnf) (TL.nil h_)) ?_
              refine Plan.v 15 [16, 17, 18, 19, 20, 21, 22, 23, 24, 25, 26, 27, 28] (by kernel_rfl) (by kernel_rfl) (by kernel_rfl) (by kernel_rfl) rfl (fun _ _ h_ => R.eql rfl rfl rfl (TL.nil h_)) ?_
              refine Plan.v 16 [17, 18, 19, 20, 21, 22, 23, 24, 25, 26, 27, 28] (by kernel_rfl) (by kernel_rfl) (by kernel_rfl) (by kernel_rfl) rfl (fun _ _ h_ => R.mvE rfl (by conv => lhs; whnf) (TL.nil h_)) ?_
              refine Plan.gsplitD 29 rfl (fun g29 => ?_) (fun g29 => ?_)
              · refine Plan.v 17 [18, 19, 20, 21, 22, 23, 24, 25, 26, 27, 28] (by kernel_rfl) (by kernel_rfl) (by kernel_rfl) (by kernel_rfl) rfl (fun _ _ h_ => TL.off rfl rfl rfl (TL.nil h_)) ?_
                refine Plan.v 18 [19, 20, 21, 22, 23, 24, 25, 26, 27, 28] (by kernel_rfl) (by kernel_rfl) (by kernel_rfl) (by kernel_rfl) rfl (fun _ _ h_ => TL.off rfl rfl rfl (TL.nil h_)) ?_
                refine Plan.v 19 [20, 21, 22, 23, 24, 25, 26, 27, 28] (by kernel_rfl) (by kernel_rfl) (by kernel_rfl) (by kernel_rfl) rfl (fun _ _ h_ => TL.off rfl rfl rfl (TL.nil h_)) ?_
                refine Plan.v 20 [21, 22, 23, 24, 25, 26, 27, 28] (by kernel_rfl) (by kernel_rfl) (by kernel_rfl) (by kernel_rfl) rfl (fun _ _ h_ => TL.off rfl rfl rfl (TL.nil h_)) ?_
                refine Plan.v 21 [22, 23, 24, 25, 26, 27, 28] (by kernel_rfl) (by kernel_rfl) (by kernel_rfl) (by kernel_rfl) rfl (fun _ _ h_ => TL.off rfl rfl rfl (TL.nil h_)) ?_
                refine Plan.v 22 [23, 24, 25, 26, 27, 28] (by kernel_rfl) (by kernel_rfl) (by kernel_rfl) (by kernel_rfl) rfl (fun _ _ h_ => TL.off rfl rfl rfl (TL.nil h_)) ?_
                refine Plan.v 23 [24, 25, 26, 27, 28] (by kernel_rfl) (by kernel_rfl) (by kernel_rfl) (by kernel_rfl) rfl (fun _ _ h_ => TL.off rfl rfl rfl (TL.nil h_)) ?_
                refine Plan.v 24 [25, 26, 27, 28] (by kernel_rfl) (by kernel_rfl) (by kernel_rfl) (by kernel_rfl) rfl (fun _ _ h_ => TL.off rfl rfl rfl (TL.nil h_)) ?_
                refine Plan.v 25 [26, 27, 28] (by kernel_rfl) (by kernel_rfl) (by kernel_rfl) (by kernel_rfl) rfl (fun _ _ h_ => TL.off rfl rfl rfl (TL.nil h_)) ?_
                refine Plan.v 26 [27, 28] (by kernel_rfl) (by kernel_rfl) (by kernel_rfl) (by kernel_rfl) rfl (fun _ _ h_ => R.pkTE rfl rfl (by conv => lhs; whnf) (TL.nil h_)) ?_
                refine Plan.v 27 [28] (by kernel_rfl) (by kernel_rfl) (by kernel_rfl) (by kernel_rfl) rfl (fun _ _ h_ => R.pkTE rfl rfl (by conv => lhs; whnf) (TL.nil h_)) ?_
                refine Plan.v 28 [] (by kernel_rfl) (by kernel_rfl) (by kernel_rfl) (by kernel_rfl) rfl (fun _ _ h_ => R.asE rfl (by conv => lhs; whnf) (TL.nil h_)) ?_
                refine Plan.done (Post.thnN ?_)
                -- cut r5, way yyyy
                exact ⟨(), s5, ⟨rfl, rfl⟩, rfl, congrArg Value.bool (by rw [Bool.eq_iff_iff]; unfold goodB; simp only [decide_eq_true_eq, Bool.false_eq_true, false_iff, true_iff]; omega), rfl, rfl, rfl, trivial⟩
              · obtain ⟨y', hy'⟩ := getk (xs := d) (k := ((k : Int) - 1).toNat) (by omega)
                have hpv : prevF d k = y'.1 := prevF_at (by rw [← hy']; congr 1; omega)
                refine Plan.v 17 [18, 19, 20, 21, 22, 23, 24, 25, 26, 27, 28] (by kernel_rfl) (by kernel_rfl) (by kernel_rfl) (by kernel_rfl) rfl (fun _ _ h_ => R.mvE rfl (by conv => lhs; whnf) (TL.nil h_)) ?_
                refine Plan.v 18 [19, 20, 21, 22, 23, 24, 25, 26, 27, 28] (by kernel_rfl) (by kernel_rfl) (by kernel_rfl) (by kernel_rfl) rfl (fun _ _ h_ => R.mvE rfl (by conv => lhs; whnf) (TL.nil h_)) ?_
                refine Plan.v 19 [20, 21, 22, 23, 24, 25, 26, 27, 28] (by kernel_rfl) (by kernel_rfl) (by kernel_rfl) (by kernel_rfl) rfl (fun _ _ h_ => R.subI rfl rfl rfl (by omega) (TL.nil h_)) ?_
                obtain ⟨b33, o33, i33, e33⟩ := (hr.mono (s_0.trans s5)).elem (hy')
                refine Plan.v 20 [21, 22, 23, 24, 25, 26, 27, 28] (by kernel_rfl) (by kernel_rfl) (by kernel_rfl) (by kernel_rfl) rfl (fun _ _ h_ => R.ixp Tryz.underlying23 Tryz.sizeOf29 rfl rfl rfl (by omega) i33 (TL.nil h_)) ?_
                refine Plan.v 21 [22, 23, 24, 25, 26, 27, 28] (by kernel_rfl) (by kernel_rfl) (by kernel_rfl) (by kernel_rfl) rfl (fun _ _ h_ => R.fldA Tryz.underlying29 rfl Tryz.sizeOf3 (by decide) rfl rfl (TL.nil h_)) ?_
                refine Plan.v 22 [23, 24, 25, 26, 27, 28] (by kernel_rfl) (by kernel_rfl) (by kernel_rfl) (by kernel_rfl) rfl (fun _ _ h_ => R.ldC Tryz.isAgg3 rfl rfl (ElemAt.fst e33) (TL.nil h_)) ?_
                refine Plan.v 23 [24, 25, 26, 27, 28] (by kernel_rfl) (by kernel_rfl) (by kernel_rfl) (by kernel_rfl) rfl (fun _ _ h_ => R.fldA Tryz.underlying29 rfl Tryz.sizeOf3 (by decide) rfl rfl (TL.nil h_)) ?_
                refine Plan.v 24 [25, 26, 27, 28] (by kernel_rfl) (by kernel_rfl) (by kernel_rfl) (by kernel_rfl) rfl (fun _ _ h_ => R.ldH Tryz.isAgg3 rfl rfl (h5) rfl (TL.nil h_)) ?_
                refine Plan.v 25 [26, 27, 28] (by kernel_rfl) (by kernel_rfl) (by kernel_rfl) (by kernel_rfl) rfl (fun _ _ h_ => R.lss rfl rfl rfl (TL.nil h_)) ?_
                refine Plan.v 26 [27, 28] (by kernel_rfl) (by kernel_rfl) (by kernel_rfl) (by kernel_rfl) rfl (fun _ _ h_ => R.pkFE rfl rfl (by conv => lhs; whnf) (TL.nil h_)) ?_
                refine Plan.v 27 [28] (by kernel_rfl) (by kernel_rfl) (by kernel_rfl) (by kernel_rfl) rfl (fun _ _ h_ => R.pkTE rfl rfl (by conv => lhs; whnf) (TL.nil h_)) ?_
                refine Plan.v 28 [] (by kernel_rfl) (by kernel_rfl) (by kernel_rfl) (by kernel_rfl) rfl (fun _ _ h_ => R.asE rfl (by conv => lhs; whnf) (TL.nil h_)) ?_
                refine Plan.done (Post.thnN ?_)
                -- cut r5, way yyyn
                exact ⟨(), s5, ⟨rfl, rfl⟩, rfl, congrArg Value.bool (by rw [Bool.eq_iff_iff]; unfold goodB; simp only [decide_eq_true_eq, Bool.false_eq_true, false_iff, true_iff]; omega), rfl, rfl, rfl, trivial⟩
            · refine Plan.v 14 [15, 16, 17, 18, 19, 20, 21, 22, 23, 24, 25, 26, 27, 28] (by kernel_rfl) (by kernel_rfl) (by kernel_rfl) (by kernel_rfl) rfl (fun _ _ h_ => TL.off rfl rfl rfl (TL.nil h_)) ?_
              refine Plan.v 15 [16, 17, 18, 19, 20, 21, 22, 23, 24, 25, 26, 27, 28] (by kernel_rfl) (by kernel_rfl) (by kernel_rfl) (by kernel_rfl) rfl (fun _ _ h_ => TL.off rfl rfl rfl (TL.nil h_)) ?_
              refine Plan.v 16 [17, 18, 19, 20, 21, 22, 23, 24, 25, 26, 27, 28] (by kernel_rfl) (by kernel_rfl) (by kernel_rfl) (by kernel_rfl) rfl (fun _ _ h_ => TL.off rfl rfl rfl (TL.nil h_)) ?_
              refine Plan.v 17 [18, 19, 20, 21, 22, 23, 24, 25, 26, 27, 28] (by kernel_rfl) (by kernel_rfl) (by kernel_rfl) (by kernel_rfl) rfl (fun _ _ h_ => TL.offU rfl rfl (TL.nil h_)) ?_
              refine Plan.v 18 [19, 20, 21, 22, 23, 24, 25, 26, 27, 28] (by kernel_rfl) (by kernel_rfl) (by kernel_rfl) (by kernel_rfl) rfl (fun _ _ h_ => TL.offU rfl rfl (TL.nil h_)) ?_
              refine Plan.v 19 [20, 21, 22, 23, 24, 25, 26, 27, 28] (by kernel_rfl) (by kernel_rfl) (by kernel_rfl) (by kernel_rfl) rfl (fun _ _ h_ => TL.offU rfl rfl (TL.nil h_)) ?_
              refine Plan.v 20 [21, 22, 23, 24, 25, 26, 27, 28] (by kernel_rfl) (by kernel_rfl) (by kernel_rfl) (by kernel_rfl) rfl (fun _ _ h_ => TL.offU rfl rfl (TL.nil h_)) ?_
              refine Plan.v 21 [22, 23, 24, 25, 26, 27, 28] (by kernel_rfl) (by kernel_rfl) (by kernel_rfl) (by kernel_rfl) rfl (fun _ _ h_ => TL.offU rfl rfl (TL.nil h_)) ?_
              refine Plan.v 22 [23, 24, 25, 26, 27, 28] (by kernel_rfl) (by kernel_rfl) (by kernel_rfl) (by kernel_rfl) rfl (fun _ _ h_ => TL.offU rfl rfl (TL.nil h_)) ?_
              refine Plan.v 23 [24, 25, 26, 27, 28] (by kernel_rfl) (by kernel_rfl) (by kernel_rfl) (by kernel_rfl) rfl (fun _ _ h_ => TL.offU rfl rfl (TL.nil h_)) ?_
              refine Plan.v 24 [25, 26, 27, 28] (by kernel_rfl) (by kernel_rfl) (by kernel_rfl) (by kernel_rfl) rfl (fun _ _ h_ => TL.offU rfl rfl (TL.nil h_)) ?_
              refine Plan.v 25 [26, 27, 28] (by kernel_rfl) (by kernel_rfl) (by kernel_rfl) (by kernel_rfl) rfl (fun _ _ h_ => TL.offU rfl rfl (TL.nil h_)) ?_
              refine Plan.v 26 [27, 28] (by kernel_rfl) (by kernel_rfl) (by kernel_rfl) (by kernel_rfl) rfl (fun _ _ h_ => TL.off rfl rfl rfl (TL.nil h_)) ?_
              refine Plan.v 27 [28] (by kernel_rfl) (by kernel_rfl) (by kernel_rfl) (by kernel_rfl) rfl (fun _ _ h_ => R.pkFE rfl rfl (by conv => lhs; whnf) (TL.nil h_)) ?_
              refine Plan.v 28 [] (by kernel_rfl) (by kernel_rfl) (by kernel_rfl) (by kernel_rfl) rfl (fun _ _ h_ => R.asE rfl (by conv => lhs; whnf) (TL.nil h_)) ?_
              refine Plan.done (Post.thnN ?_)
              -- cut r5, way yyn
              exact ⟨(), s5, ⟨rfl, rfl⟩, rfl, congrArg Value.bool (by rw [Bool.eq_iff_iff]; unfold goodB; simp only [decide_eq_true_eq, Bool.false_eq_true, false_iff, true_iff]; omega), rfl, rfl, rfl, trivial⟩
          · refine Plan.v 9 [10, 11, 12, 13, 14, 15, 16, 17, 18, 19, 20, 21, 22, 23, 24, 25, 26, 27, 28] (by kernel_rfl) (by kernel_rfl) (by kernel_rfl) (by kernel_rfl) rfl (fun _ _ h_ => TL.off rfl rfl rfl (TL.nil h_)) ?_
            refine Plan.v 10 [11, 12, 13, 14, 15, 16, 17, 18, 19, 20, 21, 22, 23, 24, 25, 26, 27, 28] (by kernel_rfl) (by kernel_rfl) (by kernel_rfl) (by kernel_rfl) rfl (fun _ _ h_ => TL.off rfl rfl rfl (TL.nil h_)) ?_
            refine Plan.v 11 [12, 13, 14, 15, 16, 17, 18, 19, 20, 21, 22, 23, 24, 25, 26, 27, 28] (by kernel_rfl) (by kernel_rfl) (by kernel_rfl) (by kernel_rfl) rfl (fun _ _ h_ => TL.off rfl rfl rfl (TL.nil h_)) ?_
            refine Plan.v 12 [13, 14, 15, 16, 17, 18, 19, 20, 21, 22, 23, 24, 25, 26, 27, 28] (by kernel_rfl) (by kernel_rfl) (by kernel_rfl) (by kernel_rfl) rfl (fun _ _ h_ => R.pkFE rfl rfl (by conv => lhs; whnf) (TL.nil h_)) ?_
            refine Plan.v 13 [14, 15, 16, 17, 18, 19, 20, 21, 22, 23, 24, 25, 26, 27, 28] (by kernel_rfl) (by kernel_rfl) (by kernel_rfl) (by kernel_rfl) rfl (fun _ _ h_ => R.mvE rfl (by conv => lhs; whnf) (TL.nil h_)) ?_
            refine Plan.v 14 [15, 16, 17, 18, 19, 20, 21, 22, 23, 24, 25, 26, 27, 28] (by kernel_rfl) (by kernel_rfl) (by kernel_rfl) (by kernel_rfl) rfl (fun _ _ h_ => TL.off rfl rfl rfl (TL.nil h_)) ?_
            refine Plan.v 15 [16, 17, 18, 19, 20, 21, 22, 23, 24, 25, 26, 27, 28] (by kernel_rfl) (by kernel_rfl) (by kernel_rfl) (by kernel_rfl) rfl (fun _ _ h_ => TL.off rfl rfl rfl (TL.nil h_)) ?_
            refine Plan.v 16 [17, 18, 19, 20, 21, 22, 23, 24, 25, 26, 27, 28] (by kernel_rfl) (by kernel_rfl) (by kernel_rfl) (by kernel_rfl) rfl (fun _ _ h_ => TL.off rfl rfl rfl (TL.nil h_)) ?_
            refine Plan.v 17 [18, 19, 20, 21, 22, 23, 24, 25, 26, 27, 28] (by kernel_rfl) (by kernel_rfl) (by kernel_rfl) (by kernel_rfl) rfl (fun _ _ h_ => TL.offU rfl rfl (TL.nil h_)) ?_
            refine Plan.v 18 [19, 20, 21, 22, 23, 24, 25, 26, 27, 28] (by kernel_rfl) (by kernel_rfl) (by kernel_rfl) (by kernel_rfl) rfl (fun _ _ h_ => TL.offU rfl rfl (TL.nil h_)) ?_
            refine Plan.v 19 [20, 21, 22, 23, 24, 25, 26, 27, 28] (by kernel_rfl) (by kernel_rfl) (by kernel_rfl) (by kernel_rfl) rfl (fun _ _ h_ => TL.offU rfl rfl (TL.nil h_)) ?_
            refine Plan.v 20 [21, 22, 23, 24, 25, 26, 27, 28] (by kernel_rfl) (by kernel_rfl) (by kernel_rfl) (by kernel_rfl) rfl (fun _ _ h_ => TL.offU rfl rfl (TL.nil h_)) ?_
            refine Plan.v 21 [22, 23, 24, 25, 26, 27, 28] (by kernel_rfl) (by kernel_rfl) (by kernel_rfl) (by kernel_rfl) rfl (fun _ _ h_ => TL.offU rfl rfl (TL.nil h_)) ?_
            refine Plan.v 22 [23, 24, 25, 26, 27, 28] (by kernel_rfl) (by kernel_rfl) (by kernel_rfl) (by kernel_rfl) rfl (fun _ _ h_ => TL.offU rfl rfl (TL.nil h_)) ?_
            refine Plan.v 23 [24, 25, 26, 27, 28] (by kernel_rfl) (by kernel_rfl) (by kernel_rfl) (by kernel_rfl) rfl (fun _ _ h_ => TL.offU rfl rfl (TL.nil h_)) ?_
            refine Plan.v 24 [25, 26, 27, 28] (by kernel_rfl) (by kernel_rfl) (by kernel_rfl) (by kernel_rfl) rfl (fun _ _ h_ => TL.offU rfl rfl (TL.nil h_)) ?_
            refine Plan.v 25 [26, 27, 28] (by kernel_rfl) (by kernel_rfl) (by kernel_rfl) (by kernel_rfl) rfl (fun _ _ h_ => TL.offU rfl rfl (TL.nil h_)) ?_
            refine Plan.v 26 [27, 28] (by kernel_rfl) (by kernel_rfl) (by kernel_rfl) (by kernel_rfl) rfl (fun _ _ h_ => TL.off rfl rfl rfl (TL.nil h_)) ?_
            refine Plan.v 27 [28] (by kernel_rfl) (by kernel_rfl) (by kernel_rfl) (by kernel_rfl) rfl (fun _ _ h_ => R.pkFE rfl rfl (by conv => lhs; whnf) (TL.nil h_)) ?_
            refine Plan.v 28 [] (by kernel_rfl) (by kernel_rfl) (by kernel_rfl) (by kernel_rfl) rfl (fun _ _ h_ => R.asE rfl (by conv => lhs; whnf) (TL.nil h_)) ?_
            refine Plan.done (Post.thnN ?_)
            -- cut r5, way yn
            exact ⟨(), s5, ⟨rfl, rfl⟩, rfl, congrArg Value.bool (by rw [Bool.eq_iff_iff]; unfold goodB; simp only [decide_eq_true_eq, Bool.false_eq_true, false_iff, true_iff]; omega), rfl, rfl, rfl, trivial⟩
        · refine Plan.v 4 [5, 6, 7, 8, 9, 10, 11, 12, 13, 14, 15, 16, 17, 18, 19, 20, 21, 22, 23, 24, 25, 26, 27, 28] (by kernel_rfl) (by kernel_rfl) (by kernel_rfl) (by kernel_rfl) rfl (fun _ _ h_ => TL.off rfl rfl rfl (TL.nil h_)) ?_
          refine Plan.v 5 [6, 7, 8, 9, 10, 11, 12, 13, 14, 15, 16, 17, 18, 19, 20, 21, 22, 23, 24, 25, 26, 27, 28] (by kernel_rfl) (by kernel_rfl) (by kernel_rfl) (by kernel_rfl) rfl (fun _ _ h_ => TL.off rfl rfl rfl (TL.nil h_)) ?_
          refine Plan.v 6 [7, 8, 9, 10, 11, 12, 13, 14, 15, 16, 17, 18, 19, 20, 21, 22, 23, 24, 25, 26, 27, 28] (by kernel_rfl) (by kernel_rfl) (by kernel_rfl) (by kernel_rfl) rfl (fun _ _ h_ => TL.off rfl rfl rfl (TL.nil h_)) ?_
          refine Plan.v 7 [8, 9, 10, 11, 12, 13, 14, 15, 16, 17, 18, 19, 20, 21, 22, 23, 24, 25, 26, 27, 28] (by kernel_rfl) (by kernel_rfl) (by kernel_rfl) (by kernel_rfl) rfl (fun _ _ h_ => R.pkFE rfl rfl (by conv => lhs; whnf) (TL.nil h_)) ?_
          refine Plan.v 8 [9, 10, 11, 12, 13, 14, 15, 16, 17, 18, 19, 20, 21, 22, 23, 24, 25, 26, 27, 28] (by kernel_rfl) (by kernel_rfl) (by kernel_rfl) (by kernel_rfl) rfl (fun _ _ h_ => R.mvE rfl (by conv => lhs; whnf) (TL.nil h_)) ?_
          refine Plan.v 9 [10, 11, 12, 13, 14, 15, 16, 17, 18, 19, 20, 21, 22, 23, 24, 25, 26, 27, 28] (by kernel_rfl) (by kernel_rfl) (by kernel_rfl) (by kernel_rfl) rfl (fun _ _ h_ => TL.off rfl rfl rfl (TL.nil h_)) ?_
          refine Plan.v 10 [11, 12, 13, 14, 15, 16, 17, 18, 19, 20, 21, 22, 23, 24, 25, 26, 27, 28] (by kernel_rfl) (by kernel_rfl) (by kernel_rfl) (by kernel_rfl) rfl (fun _ _ h_ => TL.off rfl rfl rfl (TL.nil h_)) ?_
          refine Plan.v 11 [12, 13, 14, 15, 16, 17, 18, 19, 20, 21, 22, 23, 24, 25, 26, 27, 28] (by kernel_rfl) (by kernel_rfl) (by kernel_rfl) (by kernel_rfl) rfl (fun _ _ h_ => TL.off rfl rfl rfl (TL.nil h_)) ?_
          refine Plan.v 12 [13, 14, 15, 16, 17, 18, 19, 20, 21, 22, 23, 24, 25, 26, 27, 28] (by kernel_rfl) (by kernel_rfl) (by kernel_rfl) (by kernel_rfl) rfl (fun _ _ h_ => R.pkFE rfl rfl (by conv => lhs; whnf) (TL.nil h_)) ?_
          refine Plan.v 13 [14, 15, 16, 17, 18, 19, 20, 21, 22, 23, 24, 25, 26, 27, 28] (by kernel_rfl) (by kernel_rfl) (by kernel_rfl) (by kernel_rfl) rfl (fun _ _ h_ => R.mvE rfl (by conv => lhs; whnf) (TL.nil h_)) ?_
          refine Plan.v 14 [15, 16, 17, 18, 19, 20, 21, 22, 23, 24, 25, 26, 27, 28] (by kernel_rfl) (by kernel_rfl) (by kernel_rfl) (by kernel_rfl) rfl (fun _ _ h_ => TL.off rfl rfl rfl (TL.nil h_)) ?_
          refine Plan.v 15 [16, 17, 18, 19, 20, 21, 22, 23, 24, 25, 26, 27, 28] (by kernel_rfl) (by kernel_rfl) (by kernel_rfl) (by kernel_rfl) rfl (fun _ _ h_ => TL.off rfl rfl rfl (TL.nil h_)) ?_
          refine Plan.v 16 [17, 18, 19, 20, 21, 22, 23, 24, 25, 26, 27, 28] (by kernel_rfl) (by kernel_rfl) (by kernel_rfl) (by kernel_rfl) rfl (fun _ _ h_ => TL.off rfl rfl rfl (TL.nil h_)) ?_
          refine Plan.v 17 [18, 19, 20, 21, 22, 23, 24, 25, 26, 27, 28] (by kernel_rfl) (by kernel_rfl) (by kernel_rfl) (by kernel_rfl) rfl (fun _ _ h_ => TL.offU rfl rfl (TL.nil h_)) ?_
          refine Plan.v 18 [19, 20, 21, 22, 23, 24, 25, 26, 27, 28] (by kernel_rfl) (by kernel_rfl) (by kernel_rfl) (by kernel_rfl) rfl (fun _ _ h_ => TL.offU rfl rfl (TL.nil h_)) ?_
          refine Plan.v 19 [20, 21, 22, 23, 24, 25, 26, 27, 28] (by kernel_rfl) (by kernel_rfl) (by kernel_rfl) (by kernel_rfl) rfl (fun _ _ h_ => TL.offU rfl rfl (TL.nil h_)) ?_
          refine Plan.v 20 [21, 22, 23, 24, 25, 26, 27, 28] (by kernel_rfl) (by kernel_rfl) (by kernel_rfl) (by kernel_rfl) rfl (fun _ _ h_ => TL.offU rfl rfl (TL.nil h_)) ?_
          refine Plan.v 21 [22, 23, 24, 25, 26, 27, 28] (by kernel_rfl) (by kernel_rfl) (by kernel_rfl) (by kernel_rfl) rfl (fun _ _ h_ => TL.offU rfl rfl (TL.nil h_)) ?_
          refine Plan.v 22 [23, 24, 25, 26, 27, 28] (by kernel_rfl) (by kernel_rfl) (by kernel_rfl) (by kernel_rfl) rfl (fun _ _ h_ => TL.offU rfl rfl (TL.nil h_)) ?_
          refine Plan.v 23 [24, 25, 26, 27, 28] (by kernel_rfl) (by kernel_rfl) (by kernel_rfl) (by kernel_rfl) rfl (fun _ _ h_ => TL.offU rfl rfl (TL.nil h_)) ?_
          refine Plan.v 24 [25, 26, 27, 28] (by kernel_rfl) (by kernel_rfl) (by kernel_rfl) (by kernel_rfl) rfl (fun _ _ h_ => TL.offU rfl rfl (TL.nil h_)) ?_
          refine Plan.v 25 [26, 27, 28] (by kernel_rfl) (by kernel_rfl) (by kernel_rfl) (by kernel_rfl) rfl (fun _ _ h_ => TL.offU rfl rfl (TL.nil h_)) ?_
          refine Plan.v 26 [27, 28] (by kernel_rfl) (by kernel_rfl) (by kernel_rfl) (by kernel_rfl) rfl (fun _ _ h_ => TL.off rfl rfl rfl (TL.nil h_)) ?_
          refine Plan.v 27 [28] (by kernel_rfl) (by kernel_rfl) (by kernel_rfl) (by kernel_rfl) rfl (fun _ _ h_ => R.pkFE rfl rfl (by conv => lhs; whnf) (TL.nil h_)) ?_
          refine Plan.v 28 [] (by kernel_rfl) (by kernel_rfl) (by kernel_rfl) (by kernel_rfl) rfl (fun _ _ h_ => R.asE rfl (by conv => lhs; whnf) (TL.nil h_)) ?_
          refine Plan.done (Post.thnN ?_)
          -- cut r5, way n
          exact ⟨(), s5, ⟨rfl, rfl⟩, rfl, congrArg Value.bool (by rw [Bool.eq_iff_iff]; unfold goodB; simp only [decide_eq_true_eq, Bool.false_eq_true, false_iff, true_iff]; omega), rfl, rfl, rfl, trivial⟩
      · intro _ σ_r5 H_r5 L_r5 ds_r5 s_r5 hI_r5
        obtain ⟨rfl, rfl⟩ := hI_r5
        refine T.seq ?_
        refine T.region ?_
        refine R.mvE rfl (by conv => lhs; whnf) ?_
        refine R.not rfl rfl ?_
        refine TL.nil (Post.thnN ?_)
        refine T.cond rfl (fun c42 => ?_) (fun c42 => ?_)
        · have hbad : rightD d = false := right_fail hy (by simpa using c42)
          refine T.exit (Post.blkE rfl (Post.thnE (Post.thnE (Post.blkX ?_))))
          refine id (Post.thnN ?_)
          refine T.seq ?_
          refine T.seq ?_
          refine T.region ?_
          refine R.mvE rfl (by conv => lhs; whnf) ?_
          refine R.not rfl rfl ?_
          refine TL.nil (Post.thnN ?_)
          refine T.set 45 (.bool true) (congrArg Value.bool (by simpa using c42)) ?_
          refine T.condY rfl ?_
          refine T.seq ?_
          refine T.region ?_
          refine R.asE rfl (by conv => lhs; whnf) ?_
          refine TL.nil (Post.thnN ?_)
          refine T.ret (Post.thnR (Post.ngR ?_))
          -- way yy
          exact fin1 rfl rfl ⟨rfl, congrArg (Value.int .i64) (by rw [hbad]; rfl)⟩
        · refine T.skip (Post.blkN ?_)
          refine id (Post.thnN ?_)
          refine T.region ?_
          refine R.addI rfl rfl rfl (by omega) ?_
          refine R.mvE rfl (by conv => lhs; whnf) ?_
          refine TL.nil (Post.thnN ?_)
          -- round's end, way yn
          have hgd : goodB d k y = true := by simpa using c42
          exact ⟨k + 1, s_0.trans s_r5, ⟨by omega, rfl, rfl, right_step hg hy hgd⟩, by omega, rfl, congrArg Value.bool hgd, rfl, rfl, rfl, trivial⟩
    · have hall : rightD d = true := by rw [show k = d.length by omega, List.take_length] at hg; exact hg
      refine T.exit (Post.thnE (Post.thnE (Post.blkX ?_)))
      refine id (Post.thnN ?_)
      refine T.seq ?_
      refine T.seq ?_
      refine T.region ?_
      refine R.mvE rfl (by conv => lhs; whnf) ?_
      refine R.not rfl rfl ?_
      refine TL.nil (Post.thnN ?_)
      refine T.condN rfl ?_
      refine T.skip (Post.thnN ?_)
      refine T.seq ?_
      refine T.region ?_
      refine R.asE rfl (by conv => lhs; whnf) ?_
      refine TL.nil (Post.thnN ?_)
      refine T.ret (Post.ngR ?_)
      -- way n
      exact fin1 rfl rfl ⟨rfl, congrArg (Value.int .i64) (by rw [hall]; rfl)⟩


set_option maxHeartbeats 1600000 in
theorem dat1_c (H : Heap) (y : Lk) (n : Int) : Fv Tryz.prog (fnv 135) [.agg #[.int .i64 y.1, .int .i64 y.2], .int .i64 n] H (.int .i64 (cmpI y.1 n)) := by
  refine Fc.of_body (N := 9) Tryz.func135 rfl (by kernel_rfl) rfl rfl ?_
  intro w0
  refine T.seq ?_
  refine T.region ?_
  refine R.box rfl (by conv => lhs; whnf) ?_
  intro b2
  refine R.asE rfl (by conv => lhs; whnf) ?_
  refine TL.nil (Post.thnN ?_)
  refine T.seq ?_
  refine T.shut .hd ?_
  intro H2 s2 q2
  have h2 : H2 b2 = some (.cells #[.int .i64 y.1, .int .i64 y.2] 29) := shut1 q2
  refine T.region ?_
  refine R.fldA Tryz.underlying29 rfl Tryz.sizeOf3 (by decide) rfl rfl ?_
  refine R.ldH Tryz.isAgg3 rfl rfl (h2) rfl ?_
  refine R.mvE rfl (by conv => lhs; whnf) ?_
  refine R.callv rfl rfl rfl (compareI3_c _ _ _) ?_
  refine R.asE rfl (by conv => lhs; whnf) ?_
  refine TL.nil (Post.thnN ?_)
  refine T.ret ?_
  exact fin1 rfl rfl ⟨rfl, rfl⟩


set_option maxHeartbeats 1600000 in
theorem dbs_c (H : Heap) (v : Value) (d : List Lk) (n : Int) (hr : RdS pairE H v d) (hl : d.length ≤ 1048576) (hd : rightD d = true) : Fp Tryz.prog (fnv 134) [v, .int .i64 n, fnv 135] H (fun v' _ => ∃ i : Nat, v' = .tuple #[.int .i64 i, .bool (match d[i]? with | some y => decide (y.1 = n) | none => false)] ∧ BSI d n i) := by
  refine Fc.of_body (N := 49) Tryz.func134 rfl (by kernel_rfl) rfl rfl ?_
  intro w0
  obtain ⟨A, c, rfl, hc1, hc2, hr⟩ := hr.shape
  have hup := up_fst hd
  have hml : (d.map (·.1)).length = d.length := List.length_map _
  refine T.seq ?_
  refine T.region ?_
  refine R.asE rfl (by conv => lhs; whnf) ?_
  refine R.asE rfl (by conv => lhs; whnf) ?_
  refine TL.nil (Post.thnN ?_)
  refine T.seq ?_
  refine T.region ?_
  refine R.mvE rfl (by conv => lhs; whnf) ?_
  refine R.len Tryz.underlying23 rfl rfl ?_
  refine R.asE rfl (by conv => lhs; whnf) ?_
  refine TL.nil (Post.thnN ?_)
  refine T.seq ?_
  refine T.region ?_
  refine R.mvE rfl (by conv => lhs; whnf) ?_
  refine R.asE rfl (by conv => lhs; whnf) ?_
  refine R.asE rfl (by conv => lhs; whnf) ?_
  refine TL.nil (Post.thnN ?_)
  refine T.seq ?_
  refine T.block ?_
  refine T.loop (ι := Nat × Nat) (fun q H' L' ds' => (q.1 ≤ q.2 ∧ q.2 ≤ d.length) ∧ (∀ (j : Nat) y, j < q.1 → (d.map (·.1))[j]? = some y → y < n) ∧ (∀ (j : Nat) y, q.2 ≤ j → (d.map (·.1))[j]? = some y → n ≤ y)) (fun q => [(0, .slice A d.length c), (1, .int .i64 n), (2, fnv 135), (8, .int .i64 d.length), (9, .int .i64 q.1), (10, .int .i64 q.2)]) (fun q => q.2 - q.1) ((0, d.length)) ?_ ?_ ?_
  · exact ⟨⟨Nat.zero_le _, Nat.le_refl _⟩, fun j y h => absurd h (Nat.not_lt_zero _), fun j y h1 h2 => absurd (List.getElem?_eq_some_iff.1 h2).1 (by have : d.length ≤ j := h1; omega)⟩
  · exact ⟨rfl, rfl, rfl, rfl, rfl, rfl, trivial⟩
  · intro q σ0 H_0 L_0 ds_0 s_0 hI_0
    obtain ⟨hq, hlo, hhi⟩ := hI_0
    refine T.seq ?_
    refine T.seq ?_
    refine T.region ?_
    refine R.mvE rfl (by conv => lhs; whnf) ?_
    refine R.mvE rfl (by conv => lhs; whnf) ?_
    refine R.lss rfl rfl rfl ?_
    refine TL.nil (Post.thnN ?_)
    refine T.condD rfl (fun c17 => ?_) (fun c17 => ?_)
    · have hlt : (q.1 + q.2) / 2 < d.length := by omega
      obtain ⟨y, hy⟩ := getk hlt
      have hy1 := get_fst hy
      refine T.skip (Post.thnN ?_)
      refine T.block ?_
      refine T.seq ?_
      refine T.region ?_
      refine R.mvE rfl (by conv => lhs; whnf) ?_
      refine R.mvE rfl (by conv => lhs; whnf) ?_
      refine R.addI rfl rfl rfl (by omega) ?_
      refine R.conv Tryz.underlying3 Tryz.underlying109 rfl rfl ?_
      refine R.shr rfl rfl rfl (by omega) ?_
      refine R.conv Tryz.underlying109 Tryz.underlying3 rfl rfl ?_
      refine TL.set 23 (.int .i64 (((q.1 + q.2) / 2 : Nat) : Int)) (congrArg _ (mid_eq _ _ (by omega))) ?_
      refine R.asE rfl (by conv => lhs; whnf) ?_
      refine TL.nil (Post.thnN ?_)
      refine T.seq ?_
      refine T.region ?_
      refine R.mvE rfl (by conv => lhs; whnf) ?_
      refine R.mvE rfl (by conv => lhs; whnf) ?_
      refine R.mvE rfl (by conv => lhs; whnf) ?_
      obtain ⟨b27, o27, i27, e27⟩ := (hr.mono s_0).elem (hy)
      refine R.ixp Tryz.underlying23 Tryz.sizeOf29 rfl rfl rfl (by omega) i27 ?_
      refine R.ldP Tryz.isAgg29 Tryz.sizeOf29 rfl rfl (e27) ?_
      refine R.mvE rfl (by conv => lhs; whnf) ?_
      refine R.callv rfl rfl rfl (dat1_c _ y n) ?_
      refine R.lss rfl rfl rfl ?_
      refine TL.nil (Post.thnN ?_)
      refine T.condD rfl (fun c31 => ?_) (fun c31 => ?_)
      · have hlt1 : y.1 < n := cmpI_lt0.1 c31
        refine T.region ?_
        refine R.mvE rfl (by conv => lhs; whnf) ?_
        refine R.addI rfl rfl rfl (by omega) ?_
        refine R.asE rfl (by conv => lhs; whnf) ?_
        refine TL.nil (Post.blkN ?_)
        refine id (Post.thnN ?_)
        -- round's end, way yy
        exact ⟨((q.1 + q.2) / 2 + 1, q.2), s_0, ⟨⟨by show (q.1 + q.2) / 2 + 1 ≤ q.2; omega, hq.2⟩, fun j z h1 h2 => bs_lo hup hy1 hlt1 (by have : j < (q.1 + q.2) / 2 + 1 := h1; omega) h2, hhi⟩, by show q.2 - ((q.1 + q.2) / 2 + 1) < q.2 - q.1; omega, ⟨rfl, rfl, rfl, rfl, rfl, rfl, trivial⟩⟩
      · have hlt1 : ¬ y.1 < n := fun h => c31 (cmpI_lt0.2 h)
        refine T.region ?_
        refine R.mvE rfl (by conv => lhs; whnf) ?_
        refine R.asE rfl (by conv => lhs; whnf) ?_
        refine TL.nil (Post.blkN ?_)
        refine id (Post.thnN ?_)
        -- round's end, way yn
        exact ⟨(q.1, (q.1 + q.2) / 2), s_0, ⟨⟨by show q.1 ≤ (q.1 + q.2) / 2; omega, by show (q.1 + q.2) / 2 ≤ d.length; omega⟩, hlo, fun j z h1 h2 => bs_hi hup hy1 hlt1 (by have : (q.1 + q.2) / 2 ≤ j := h1; omega) h2⟩, by show (q.1 + q.2) / 2 - q.1 < q.2 - q.1; omega, ⟨rfl, rfl, rfl, rfl, rfl, rfl, trivial⟩⟩
    · have hqq : q.2 = q.1 := by omega
      rw [hqq] at hhi
      have hB := at_pos hd (show q.1 ≤ d.length by omega) hlo hhi
      refine T.exit (Post.thnE (Post.thnE (Post.blkX ?_)))
      refine id (Post.thnN ?_)
      refine T.seq ?_
      refine T.region ?_
      refine R.mvE rfl (by conv => lhs; whnf) ?_
      refine R.mvE rfl (by conv => lhs; whnf) ?_
      refine R.mvE rfl (by conv => lhs; whnf) ?_
      refine R.lss rfl rfl rfl ?_
      refine R.mvE rfl (by conv => lhs; whnf) ?_
      refine TL.gsplitD 39 rfl (fun g39 => ?_) (fun g39 => ?_)
      · have hlt : q.1 < d.length := by omega
        obtain ⟨y0, hy0⟩ := getk hlt
        refine R.mvE rfl (by conv => lhs; whnf) ?_
        refine R.mvE rfl (by conv => lhs; whnf) ?_
        refine R.mvE rfl (by conv => lhs; whnf) ?_
        obtain ⟨b43, o43, i43, e43⟩ := (hr.mono s_0).elem (hy0)
        refine R.ixp Tryz.underlying23 Tryz.sizeOf29 rfl rfl rfl (by omega) i43 ?_
        refine R.ldP Tryz.isAgg29 Tryz.sizeOf29 rfl rfl (e43) ?_
        refine R.mvE rfl (by conv => lhs; whnf) ?_
        refine R.callv rfl rfl rfl (dat1_c _ y0 n) ?_
        refine R.eql rfl rfl rfl ?_
        refine R.pkTE rfl rfl (by conv => lhs; whnf) ?_
        refine R.asE rfl (by conv => lhs; whnf) ?_
        refine R.asE rfl (by conv => lhs; whnf) ?_
        refine TL.nil (Post.thnN ?_)
        refine T.ret ?_
        -- way ny
        exact fin2 rfl rfl rfl ⟨rfl, q.1, by rw [hy0]; exact congrArg (fun b => Value.tuple #[.int .i64 (q.1 : Int), .bool b]) (decide_eq_decide.2 cmpI_zero0), hB⟩
      · have hno : d[q.1]? = none := List.getElem?_eq_none (by omega)
        refine TL.off rfl rfl rfl ?_
        refine TL.off rfl rfl rfl ?_
        refine TL.off rfl rfl rfl ?_
        refine TL.off rfl rfl rfl ?_
        refine TL.off rfl rfl rfl ?_
        refine TL.off rfl rfl rfl ?_
        refine TL.off rfl rfl rfl ?_
        refine TL.off rfl rfl rfl ?_
        refine R.pkFE rfl rfl (by conv => lhs; whnf) ?_
        refine R.asE rfl (by conv => lhs; whnf) ?_
        refine R.asE rfl (by conv => lhs; whnf) ?_
        refine TL.nil (Post.thnN ?_)
        refine T.ret ?_
        -- way nn
        exact fin2 rfl rfl rfl ⟨rfl, q.1, by rw [hno]; rfl, hB⟩


set_option maxHeartbeats 1600000 in
theorem dat_c (H : Heap) (v : Value) (d : List Lk) (n : Int) (hr : RdS pairE H v d) (hl : d.length ≤ 1048576) (hd : rightD d = true) : Fv Tryz.prog (fnv 67) [v, .int .i64 n] H (.int .i64 (atD d n)) := by
  refine Fc.of_body (N := 20) Tryz.func67 rfl (by kernel_rfl) rfl rfl ?_
  intro w0
  obtain ⟨A, c, rfl, hc1, hc2, hr⟩ := hr.shape
  refine T.seq ?_
  refine T.region ?_
  refine R.asE rfl (by conv => lhs; whnf) ?_
  refine TL.nil (Post.thnN ?_)
  refine T.seq ?_
  refine T.region ?_
  refine R.mvE rfl (by conv => lhs; whnf) ?_
  refine R.mvE rfl (by conv => lhs; whnf) ?_
  refine R.callp rfl rfl rfl (dbs_c _ _ d n hr hl hd) ?_
  intro v10 H10 s10 q10
  obtain ⟨i, rfl, hB⟩ := q10
  have hat := bs_at hd hB
  refine R.mvE rfl (by conv => lhs; whnf) ?_
  refine R.ext rfl rfl rfl ?_
  refine R.ext rfl rfl rfl ?_
  refine R.asE rfl (by conv => lhs; whnf) ?_
  refine R.asE rfl (by conv => lhs; whnf) ?_
  refine TL.nil (Post.thnN ?_)
  refine T.seq ?_
  refine T.seq ?_
  refine T.region ?_
  refine R.mvE rfl (by conv => lhs; whnf) ?_
  refine R.not rfl rfl ?_
  refine TL.nil (Post.thnN ?_)
  refine T.cond rfl (fun c14 => ?_) (fun c14 => ?_)
  · refine T.seq ?_
    refine T.region ?_
    refine R.asE rfl (by conv => lhs; whnf) ?_
    refine TL.nil (Post.thnN ?_)
    refine T.ret (Post.thnR ?_)
    -- way y
    exact fin1 rfl rfl ⟨rfl, congrArg (Value.int .i64) (by
      rw [hat]
      cases e : d[i]? with
      | none => rfl
      | some y =>
        rw [e] at c14
        have : y.1 ≠ n := by simpa using c14
        simp [this])⟩
  · obtain ⟨y, hy⟩ : ∃ y, d[i]? = some y := by
      cases e : d[i]? with
      | some y => exact ⟨y, rfl⟩
      | none => rw [e] at c14; cases c14
    rw [hy] at c14 hat
    have hyn : y.1 = n := by simpa using c14
    refine T.skip (Post.thnN ?_)
    refine T.seq ?_
    refine T.region ?_
    refine R.mvE rfl (by conv => lhs; whnf) ?_
    refine R.mvE rfl (by conv => lhs; whnf) ?_
    obtain ⟨b17, o17, i17, e17⟩ := (hr.mono s10).elem (hy)
    refine R.ixp Tryz.underlying23 Tryz.sizeOf29 rfl rfl rfl (by omega) i17 ?_
    refine R.fldA Tryz.underlying29 rfl Tryz.sizeOf3 (by decide) rfl rfl ?_
    refine R.ldC Tryz.isAgg3 rfl rfl (ElemAt.snd1 e17) ?_
    refine R.asE rfl (by conv => lhs; whnf) ?_
    refine TL.nil (Post.thnN ?_)
    refine T.ret ?_
    -- way n
    exact fin1 rfl rfl ⟨rfl, congrArg (Value.int .i64) (by rw [hat]; simp [hyn])⟩


set_option maxHeartbeats 1600000 in
theorem dAt_c (H : Heap) (v : Value) (d : List Lk) (n : Int) (hr : RdS pairE H v d) (hl : d.length ≤ 1048576) : Fv Tryz.prog (fnv 20) [v, .int .i64 n] H (.int .i64 (if rightD d then atD d n else 0)) := by
  refine Fc.of_body (N := 11) Tryz.func20 rfl (by kernel_rfl) rfl rfl ?_
  intro w0
  obtain ⟨A, c, rfl, hc1, hc2, hr⟩ := hr.shape
  refine T.seq ?_
  refine T.region ?_
  refine R.asE rfl (by conv => lhs; whnf) ?_
  refine TL.nil (Post.thnN ?_)
  refine T.seq ?_
  refine T.seq ?_
  refine T.region ?_
  refine R.mvE rfl (by conv => lhs; whnf) ?_
  refine R.callv rfl rfl rfl (dcheck_c _ _ d hr) ?_
  refine R.neq rfl rfl rfl ?_
  refine TL.nil (Post.thnN ?_)
  refine T.condD rfl (fun c7 => ?_) (fun c7 => ?_)
  · have hd : rightD d = false := by
      cases h : rightD d with
      | false => rfl
      | true => rw [h] at c7; exact absurd rfl c7
    refine T.seq ?_
    refine T.region ?_
    refine R.asE rfl (by conv => lhs; whnf) ?_
    refine TL.nil (Post.thnN ?_)
    refine T.ret (Post.thnR ?_)
    -- way y
    exact fin1 rfl rfl ⟨rfl, congrArg (Value.int .i64) (by rw [hd]; rfl)⟩
  · have hd : rightD d = true := by
      cases h : rightD d with
      | true => rfl
      | false => rw [h] at c7; exact absurd c7 (by decide)
    refine T.skip (Post.thnN ?_)
    refine T.seq ?_
    refine T.region ?_
    refine R.mvE rfl (by conv => lhs; whnf) ?_
    refine R.mvE rfl (by conv => lhs; whnf) ?_
    refine R.callv rfl rfl rfl (dat_c _ _ d n hr hl hd) ?_
    refine R.asE rfl (by conv => lhs; whnf) ?_
    refine TL.nil (Post.thnN ?_)
    refine T.ret ?_
    -- way n
    exact fin1 rfl rfl ⟨rfl, congrArg (Value.int .i64) (by rw [hd]; rfl)⟩


set_option maxHeartbeats 1600000 in
theorem dord1_c (H : Heap) (b2 : Nat) (u : Value) (d : List Lk) (h2 : H b2 = some (.cells #[u] 23)) (hr : RdS pairE H u d) (hl : d.length ≤ 1048576) (hd : rightD d = true) (a b : Int) : Fv Tryz.prog (.func (.func 69) #[] ([.pointer (some ⟨b2, 0, none⟩)] : List Value).toArray) [.int .i64 a, .int .i64 b] H (.int .i64 (cmpO d a b)) := by
  refine Fc.of_body (N := 18) Tryz.func69 rfl (by kernel_rfl) rfl rfl ?_
  intro w0
  refine T.seq ?_
  refine T.region ?_
  refine R.asE rfl (by conv => lhs; whnf) ?_
  refine TL.nil (Post.thnN ?_)
  refine T.seq ?_
  refine T.draw Tryz_mixed (by kernel_rfl) ?_
  refine Plan.v 0 [1, 2, 3, 4, 5, 6, 7, 8, 9, 10, 11, 12] (by kernel_rfl) (by kernel_rfl) (by kernel_rfl) (by kernel_rfl) rfl (fun _ _ h_ => R.ldH Tryz.isAgg23 rfl rfl (h2) rfl (TL.nil h_)) ?_
  refine Plan.v 1 [2, 3, 4, 5, 6, 7, 8, 9, 10, 11, 12] (by kernel_rfl) (by kernel_rfl) (by kernel_rfl) (by kernel_rfl) rfl (fun _ _ h_ => R.mvE rfl (by conv => lhs; whnf) (TL.nil h_)) ?_
  refine Plan.v 2 [3, 4, 5, 6, 7, 8, 9, 10, 11, 12] (by kernel_rfl) (by kernel_rfl) (by kernel_rfl) (by kernel_rfl) rfl (fun _ _ h_ => R.callv rfl rfl rfl (dat_c _ _ d a hr hl hd) (TL.nil h_)) ?_
  refine Plan.v 3 [4, 5, 6, 7, 8, 9, 10, 11, 12] (by kernel_rfl) (by kernel_rfl) (by kernel_rfl) (by kernel_rfl) rfl (fun _ _ h_ => R.ldH Tryz.isAgg23 rfl rfl (h2) rfl (TL.nil h_)) ?_
  refine Plan.v 4 [5, 6, 7, 8, 9, 10, 11, 12] (by kernel_rfl) (by kernel_rfl) (by kernel_rfl) (by kernel_rfl) rfl (fun _ _ h_ => R.mvE rfl (by conv => lhs; whnf) (TL.nil h_)) ?_
  refine Plan.v 5 [6, 7, 8, 9, 10, 11, 12] (by kernel_rfl) (by kernel_rfl) (by kernel_rfl) (by kernel_rfl) rfl (fun _ _ h_ => R.callv rfl rfl rfl (dat_c _ _ d b hr hl hd) (TL.nil h_)) ?_
  refine Plan.v 6 [7, 8, 9, 10, 11, 12] (by kernel_rfl) (by kernel_rfl) (by kernel_rfl) (by kernel_rfl) rfl (fun _ _ h_ => R.callv rfl rfl rfl (compareI3_c _ _ _) (TL.nil h_)) ?_
  refine Plan.v 7 [8, 9, 10, 11, 12] (by kernel_rfl) (by kernel_rfl) (by kernel_rfl) (by kernel_rfl) rfl (fun _ _ h_ => R.mvE rfl (by conv => lhs; whnf) (TL.nil h_)) ?_
  refine Plan.v 8 [9, 10, 11, 12] (by kernel_rfl) (by kernel_rfl) (by kernel_rfl) (by kernel_rfl) rfl (fun _ _ h_ => R.mvE rfl (by conv => lhs; whnf) (TL.nil h_)) ?_
  refine Plan.v 9 [10, 11, 12] (by kernel_rfl) (by kernel_rfl) (by kernel_rfl) (by kernel_rfl) rfl (fun _ _ h_ => R.callv rfl rfl rfl (compareI3_c _ _ _) (TL.nil h_)) ?_
  refine Plan.s1 10 [11, 12] (by kernel_rfl) (by kernel_rfl) rfl ?_
  refine R.bsN [_, _] rfl Tryz.underlying24 Tryz.sizeOf3 Tryz.zeroValue3 rfl rfl rfl rfl rfl rfl ?_
  intro b16
  refine TL.shut .hd ?_
  intro H16 s16 q16
  refine TL.nil (Plan.e1 (s16) ?_)
  refine Plan.v 11 [12] (by kernel_rfl) (by kernel_rfl) (by kernel_rfl) (by kernel_rfl) rfl (fun _ _ h_ => R.callv rfl rfl rfl (or_c _ _ _ (RdS.lit2 q16)) (TL.nil h_)) ?_
  refine Plan.v 12 [] (by kernel_rfl) (by kernel_rfl) (by kernel_rfl) (by kernel_rfl) rfl (fun _ _ h_ => R.asE rfl (by conv => lhs; whnf) (TL.nil h_)) ?_
  refine Plan.done (Post.thnN ?_)
  refine T.ret ?_
  exact fin1 rfl rfl ⟨rfl, congrArg (Value.int .i64) (cmpP_or (atD d a, a) (atD d b, b))⟩


theorem dsort_c (H : Heap) (b2 : Nat) (u : Value) (d : List Lk) (h2 : H b2 = some (.cells #[u] 23)) (hr : RdS pairE H u d) (hl : d.length ≤ 1048576) (hd : rightD d = true) (v : Value) (xs : List Int) (ch : Chunk) (ho : OwnS (intE .i64) 3 H v xs ch) (hx : xs.length ≤ 1099511627776) :
    Fc Tryz.prog (fnv 68) [v, (.func (.func 69) #[] ([.pointer (some ⟨b2, 0, none⟩)] : List Value).toArray)] H [ch] (fun _ H' L' => H' = H ∧ ∃ c', L' = [c'] ∧ OwnS (intE .i64) 3 H v (refO d xs) c') := by
  rw [← sortO_eq]
  exact sortF1_fc Tryz.func68 rfl (by kernel_rfl) (fun blk off size w h1 h3 => cmp_lays1 Tryz.func69 rfl (by kernel_rfl) (fun a b => dord1_c H b2 u d h2 hr hl hd a b) blk off size w h1 h3)
    (fun blk off cap da w hlay hH hblk hsz => Any.slices_SortFunc_total Tryz.sortF1 (Value.int .i64) (fun _ => rfl) (cmpO d) (swo_cmpO d) 69 _ blk off cap da w (enters_of Tryz.func69 (by kernel_rfl) rfl) hlay hH hblk hsz (tot_cmpO d))
    (fun p cap fv w => AnyF.slices_SortFunc_none { Tryz.sortF1 with } p cap fv w) ho hx

set_option maxHeartbeats 1600000 in
theorem dOrder_c (H : Heap) (v u : Value) (d : List Lk) (xs : List Int) (hr : RdS pairE H v d) (hl : d.length ≤ 1048576) (hr2 : RdS (intE .i64) H u xs) (hx : xs.length ≤ 1048576) : Fc Tryz.prog (fnv 22) [v, u] H [] (fun v' H' L' => ∃ c, L' = [c] ∧ OwnS (intE .i64) 3 H' v' (refO (okD d) xs) c) := by
  refine Fc.of_body (N := 19) Tryz.func22 rfl (by kernel_rfl) rfl rfl ?_
  intro w0
  obtain ⟨A, c, rfl, hc1, hc2, hr⟩ := hr.shape
  obtain ⟨A2, c2, rfl, hc3, hc4, hr2⟩ := hr2.shape
  refine T.seq ?_
  refine T.region ?_
  refine R.box rfl (by conv => lhs; whnf) ?_
  intro b2
  refine R.asE rfl (by conv => lhs; whnf) ?_
  refine TL.nil (Post.thnN ?_)
  refine T.seq ?_
  refine T.region ?_
  refine R.mvE rfl (by conv => lhs; whnf) ?_
  refine R.len Tryz.underlying24 rfl rfl ?_
  refine R.mks (z0 := 0) (zc := [.int .i64 0]) Tryz_ty24 (zcells_of (z := .int .i64 0) (by kernel_rfl)) (fun _ => rfl) rfl rfl rfl (by omega) (by omega) ?_
  intro v8 c8 w8
  refine R.asE rfl (by conv => lhs; whnf) ?_
  refine TL.nil (Post.thnN ?_)
  refine T.seq ?_
  refine T.region ?_
  refine R.mvE rfl (by conv => lhs; whnf) ?_
  refine R.mvE rfl (by conv => lhs; whnf) ?_
  obtain ⟨cs11, y11, r11⟩ := Src.rdA hr2
  refine R.copy (dd := some 11) Tryz_ty24 rfl (fun q h => by cases h; rfl) rfl rfl w8 .hd (r11 _) y11 (by simp) ?_
  intro c11 w11
  refine TL.nil (Post.thnN ?_)
  refine T.cut (ι := Value) (fun w H' L' ds' => L' = [c11, [(b2, .cells #[w] 23)]] ∧ ds' = [] ∧ RdS pairE H' w (okD d)) (fun w => [(2, .pointer (some ⟨b2, 0, none⟩)), (5, v8)]) ?_ ?_
  · refine T.seq ?_
    refine T.region ?_
    refine R.ld Tryz.isAgg23 rfl rfl (by repeat (first | exact .hd | refine .tl ?_)) rfl ?_
    refine R.callv rfl rfl rfl (dcheck_c _ _ d hr) ?_
    refine R.neq rfl rfl rfl ?_
    refine TL.nil (Post.thnN ?_)
    refine T.condD rfl (fun c14 => ?_) (fun c14 => ?_)
    · have hd : rightD d = false := by
        cases h : rightD d with
        | false => rfl
        | true => rw [h] at c14; exact absurd rfl c14
      refine T.region ?_
      refine R.st Tryz.sizeOf23 rfl rfl (by conv => lhs; whnf) rfl (by first | exact .hd | exact .tl .hd | exact .tl (.tl .hd) | exact .tl (.tl (.tl .hd)) | exact .tl (.tl (.tl (.tl .hd))) | exact .tl (.tl (.tl (.tl (.tl .hd)))) | exact .tl (.tl (.tl (.tl (.tl (.tl .hd))))) | exact .tl (.tl (.tl (.tl (.tl (.tl (.tl .hd)))))) | exact .tl (.tl (.tl (.tl (.tl (.tl (.tl (.tl .hd))))))) | exact .tl (.tl (.tl (.tl (.tl (.tl (.tl (.tl (.tl .hd))))))))) ?_
      refine TL.nil (Post.thnN ?_)
      -- cut c14, way y
      exact ⟨.slice none 0 0, HLe.refl _, ⟨rfl, rfl, by unfold okD; rw [hd]; exact RdS.nil⟩, rfl, rfl, trivial⟩
    · have hd : rightD d = true := by
        cases h : rightD d with
        | true => rfl
        | false => rw [h] at c14; exact absurd c14 (by decide)
      refine T.skip (Post.thnN ?_)
      -- cut c14, way n
      exact ⟨.slice A d.length c, HLe.refl _, ⟨rfl, rfl, by unfold okD; rw [hd]; exact hr⟩, rfl, rfl, trivial⟩
  · intro w σ_c14 H_c14 L_c14 ds_c14 s_c14 hI_c14
    obtain ⟨rfl, rfl, hw⟩ := hI_c14
    have hokl : (okD d).length ≤ 1048576 := by unfold okD; split <;> first | omega | simp
    refine T.seq ?_
    refine T.shut (.tl .hd) ?_
    intro H2 s2 q2
    have h2 : H2 b2 = some (.cells #[w] 23) := shut1 q2
    refine T.region ?_
    refine R.mvE rfl (by conv => lhs; whnf) ?_
    refine R.mkf (cs := [_]) rfl rfl ?_
    refine TL.call [true] rfl rfl rfl (dsort_c _ b2 w (okD d) h2 (hw.mono s2) hokl (okD_right d) _ xs c11 (w11.mono (s_c14.trans s2)) (by omega)) ?_
    intro v17 H17 L17 s17 q17
    obtain ⟨rfl, c17, rfl, w17⟩ := q17
    refine TL.nil (Post.thnN ?_)
    refine T.seq ?_
    refine T.region ?_
    refine R.mvE rfl (by conv => lhs; whnf) ?_
    refine R.asE rfl (by conv => lhs; whnf) ?_
    refine TL.nil (Post.thnN ?_)
    refine T.ret ?_
    exact fin1L [c17] rfl rfl (List.Sublist.refl _) ⟨_, rfl, w17⟩

end Go.SX

set_option linter.unusedVariables false
set_option linter.unusedSimpArgs false
namespace Go.SX
open Go Go.Proofs

set_option maxHeartbeats 1600000 in
theorem is01_c (H : Heap) (n a b : Int) : Fv Tryz.prog (fnv 66) [.int .i64 n, .int .i64 a, .int .i64 b] H (.bool (decide (a ≤ n) && decide (n ≤ b))) := by
  refine Fc.of_body (N := 15) Tryz.func66 rfl (by kernel_rfl) rfl rfl ?_
  intro w0
  refine T.seq ?_
  refine T.region ?_
  refine R.asE rfl (by conv => lhs; whnf) ?_
  refine TL.nil (Post.thnN ?_)
  refine T.seq ?_
  refine T.region ?_
  refine R.mvE rfl (by conv => lhs; whnf) ?_
  refine R.mvE rfl (by conv => lhs; whnf) ?_
  refine R.geq rfl rfl rfl ?_
  refine R.mvE rfl (by conv => lhs; whnf) ?_
  refine TL.gsplitD 10 rfl (fun g10 => ?_) (fun g10 => ?_)
  · refine R.mvE rfl (by conv => lhs; whnf) ?_
    refine R.mvE rfl (by conv => lhs; whnf) ?_
    refine R.leq rfl rfl rfl ?_
    refine R.pkTE rfl rfl (by conv => lhs; whnf) ?_
    refine R.asE rfl (by conv => lhs; whnf) ?_
    refine TL.nil (Post.thnN ?_)
    refine T.ret ?_
    -- way y
    exact fin1 rfl rfl ⟨rfl, congrArg Value.bool (by rw [decide_eq_true (show a ≤ n from g10), Bool.true_and])⟩
  · refine TL.off rfl rfl rfl ?_
    refine TL.off rfl rfl rfl ?_
    refine TL.off rfl rfl rfl ?_
    refine R.pkFE rfl rfl (by conv => lhs; whnf) ?_
    refine R.asE rfl (by conv => lhs; whnf) ?_
    refine TL.nil (Post.thnN ?_)
    refine T.ret ?_
    -- way n
    exact fin1 rfl rfl ⟨rfl, congrArg Value.bool (by rw [decide_eq_false (show ¬ a ≤ n from g10), Bool.false_and])⟩


set_option maxHeartbeats 1600000 in
theorem rright17_c (H : Heap) (v : Value) (d : List Lk) (hr : RdS pairE H v d) : Fv Tryz.prog (fnv 17) [v] H (.bool (rightD d)) := by
  refine Fc.of_body (N := 37) Tryz.func17 rfl (by kernel_rfl) rfl rfl ?_
  intro w0
  obtain ⟨A, c, rfl, hc1, hc2, hr⟩ := hr.shape
  refine T.seq ?_
  refine T.region ?_
  refine R.asE rfl (by conv => lhs; whnf) ?_
  refine TL.nil (Post.thnN ?_)
  refine T.seq ?_
  refine T.seq ?_
  refine T.region ?_
  refine R.mvE rfl (by conv => lhs; whnf) ?_
  refine R.len Tryz.underlying23 rfl rfl ?_
  refine R.mvE rfl (by conv => lhs; whnf) ?_
  refine TL.nil (Post.thnN ?_)
  refine T.block ?_
  refine T.loop (ι := Nat) (fun k H' L' ds' => k ≤ d.length ∧ L' = [] ∧ ds' = [] ∧ rightD (d.take k) = true) (fun k => [(0, .slice A d.length c), (5, .slice A d.length c), (6, .int .i64 d.length), (7, .int .i64 k)]) (fun k => d.length - k) (0) ?_ ?_ ?_
  · exact ⟨Nat.zero_le _, rfl, rfl, rightD_nil⟩
  · exact ⟨rfl, rfl, rfl, rfl, trivial⟩
  · intro k σ0 H_0 L_0 ds_0 s_0 hI_0
    obtain ⟨hk, rfl, rfl, hg⟩ := hI_0
    refine T.seq ?_
    refine T.region ?_
    refine R.lss rfl rfl rfl ?_
    refine TL.nil (Post.thnN ?_)
    refine T.seq ?_
    refine T.condD rfl (fun c8 => ?_) (fun c8 => ?_)
    · have hlt : k < d.length := by omega
      obtain ⟨y, hy⟩ := getk hlt
      refine T.skip (Post.thnN ?_)
      refine T.seq ?_
      refine T.block ?_
      refine T.seq ?_
      refine T.region ?_
      refine R.mvE rfl (by conv => lhs; whnf) ?_
      obtain ⟨b10, o10, i10, e10⟩ := (hr.mono s_0).elem (hy)
      refine R.ixp Tryz.underlying23 Tryz.sizeOf29 rfl rfl rfl (by omega) i10 ?_
      refine R.ldP Tryz.isAgg29 Tryz.sizeOf29 rfl rfl (e10) ?_
      refine R.alloc Tryz.zeroValue29 rfl ?_
      intro b4
      refine R.asE rfl (by conv => lhs; whnf) ?_
      refine R.stA (old := [.int .i64 0, .int .i64 0]) Tryz.sizeOf29 rfl rfl rfl rfl rfl (by intro v hv; simp at hv; rcases hv with rfl | rfl <;> rfl) .hd ?_
      refine TL.nil (Post.thnN ?_)
      refine T.cut (ι := Unit) (fun _ H' L' ds' => L' = [] ∧ ds' = []) (fun _ => [(0, .slice A d.length c), (5, .slice A d.length c), (6, .int .i64 d.length), (7, .int .i64 k), (35, .bool (!goodB d k y))]) ?_ ?_
      · refine T.shut .hd ?_
        intro H4 s4 q4
        have h4 : H4 b4 = some (.cells #[.int .i64 y.1, .int .i64 y.2] 29) := shut1 q4
        refine T.draw Tryz_mixed (by kernel_rfl) ?_
        refine Plan.v 0 [1, 2, 3, 4, 5, 6, 7, 8, 9, 10, 11, 12, 13, 14, 15, 16, 17, 18, 19, 20, 21, 22, 23] (by kernel_rfl) (by kernel_rfl) (by kernel_rfl) (by kernel_rfl) rfl (fun _ _ h_ => R.fldA Tryz.underlying29 rfl Tryz.sizeOf3 (by decide) rfl rfl (TL.nil h_)) ?_
        refine Plan.v 1 [2, 3, 4, 5, 6, 7, 8, 9, 10, 11, 12, 13, 14, 15, 16, 17, 18, 19, 20, 21, 22, 23] (by kernel_rfl) (by kernel_rfl) (by kernel_rfl) (by kernel_rfl) rfl (fun _ _ h_ => R.ldH Tryz.isAgg3 rfl rfl (h4) rfl (TL.nil h_)) ?_
        refine Plan.v 2 [3, 4, 5, 6, 7, 8, 9, 10, 11, 12, 13, 14, 15, 16, 17, 18, 19, 20, 21, 22, 23] (by kernel_rfl) (by kernel_rfl) (by kernel_rfl) (by kernel_rfl) rfl (fun _ _ h_ => R.callv rfl rfl rfl (is01_c _ _ _ _) (TL.nil h_)) ?_
        refine Plan.v 3 [4, 5, 6, 7, 8, 9, 10, 11, 12, 13, 14, 15, 16, 17, 18, 19, 20, 21, 22, 23] (by kernel_rfl) (by kernel_rfl) (by kernel_rfl) (by kernel_rfl) rfl (fun _ _ h_ => R.not rfl rfl (TL.nil h_)) ?_
        refine Plan.v 4 [5, 6, 7, 8, 9, 10, 11, 12, 13, 14, 15, 16, 17, 18, 19, 20, 21, 22, 23] (by kernel_rfl) (by kernel_rfl) (by kernel_rfl) (by kernel_rfl) rfl (fun _ _ h_ => R.mvE rfl (by conv => lhs; whnf) (TL.nil h_)) ?_
        refine Plan.gsplit 16 rfl (fun g16 => ?_) (fun g16 => ?_)
        · refine Plan.v 5 [6, 7, 8, 9, 10, 11, 12, 13, 14, 15, 16, 17, 18, 19, 20, 21, 22, 23] (by kernel_rfl) (by kernel_rfl) (by kernel_rfl) (by kernel_rfl) rfl (fun _ _ h_ => TL.off rfl rfl rfl (TL.nil h_)) ?_
          refine Plan.v 6 [7, 8, 9, 10, 11, 12, 13, 14, 15, 16, 17, 18, 19, 20, 21, 22, 23] (by kernel_rfl) (by kernel_rfl) (by kernel_rfl) (by kernel_rfl) rfl (fun _ _ h_ => TL.off rfl rfl rfl (TL.nil h_)) ?_
          refine Plan.v 7 [8, 9, 10, 11, 12, 13, 14, 15, 16, 17, 18, 19, 20, 21, 22, 23] (by kernel_rfl) (by kernel_rfl) (by kernel_rfl) (by kernel_rfl) rfl (fun _ _ h_ => TL.off rfl rfl rfl (TL.nil h_)) ?_
          refine Plan.v 8 [9, 10, 11, 12, 13, 14, 15, 16, 17, 18, 19, 20, 21, 22, 23] (by kernel_rfl) (by kernel_rfl) (by kernel_rfl) (by kernel_rfl) rfl (fun _ _ h_ => R.pkTE rfl rfl (by conv => lhs; whnf) (TL.nil h_)) ?_
          refine Plan.v 9 [10, 11, 12, 13, 14, 15, 16, 17, 18, 19, 20, 21, 22, 23] (by kernel_rfl) (by kernel_rfl) (by kernel_rfl) (by kernel_rfl) rfl (fun _ _ h_ => R.mvE rfl (by conv => lhs; whnf) (TL.nil h_)) ?_
          refine Plan.v 10 [11, 12, 13, 14, 15, 16, 17, 18, 19, 20, 21, 22, 23] (by kernel_rfl) (by kernel_rfl) (by kernel_rfl) (by kernel_rfl) rfl (fun _ _ h_ => TL.off rfl rfl rfl (TL.nil h_)) ?_
          refine Plan.v 11 [12, 13, 14, 15, 16, 17, 18, 19, 20, 21, 22, 23] (by kernel_rfl) (by kernel_rfl) (by kernel_rfl) (by kernel_rfl) rfl (fun _ _ h_ => TL.off rfl rfl rfl (TL.nil h_)) ?_
          refine Plan.v 12 [13, 14, 15, 16, 17, 18, 19, 20, 21, 22, 23] (by kernel_rfl) (by kernel_rfl) (by kernel_rfl) (by kernel_rfl) rfl (fun _ _ h_ => TL.off rfl rfl rfl (TL.nil h_)) ?_
          refine Plan.v 13 [14, 15, 16, 17, 18, 19, 20, 21, 22, 23] (by kernel_rfl) (by kernel_rfl) (by kernel_rfl) (by kernel_rfl) rfl (fun _ _ h_ => TL.offU rfl rfl (TL.nil h_)) ?_
          refine Plan.v 14 [15, 16, 17, 18, 19, 20, 21, 22, 23] (by kernel_rfl) (by kernel_rfl) (by kernel_rfl) (by kernel_rfl) rfl (fun _ _ h_ => TL.offU rfl rfl (TL.nil h_)) ?_
          refine Plan.v 15 [16, 17, 18, 19, 20, 21, 22, 23] (by kernel_rfl) (by kernel_rfl) (by kernel_rfl) (by kernel_rfl) rfl (fun _ _ h_ => TL.offU rfl rfl (TL.nil h_)) ?_
          refine Plan.v 16 [17, 18, 19, 20, 21, 22, 23] (by kernel_rfl) (by kernel_rfl) (by kernel_rfl) (by kernel_rfl) rfl (fun _ _ h_ => TL.offU rfl rfl (TL.nil h_)) ?_
          refine Plan.v 17 [18, 19, 20, 21, 22, 23] (by kernel_rfl) (by kernel_rfl) (by kernel_rfl) (by kernel_rfl) rfl (fun _ _ h_ => TL.offU rfl rfl (TL.nil h_)) ?_
          refine Plan.v 18 [19, 20, 21, 22, 23] (by kernel_rfl) (by kernel_rfl) (by kernel_rfl) (by kernel_rfl) rfl (fun _ _ h_ => TL.offU rfl rfl (TL.nil h_)) ?_
          refine Plan.v 19 [20, 21, 22, 23] (by kernel_rfl) (by kernel_rfl) (by kernel_rfl) (by kernel_rfl) rfl (fun _ _ h_ => TL.offU rfl rfl (TL.nil h_)) ?_
          refine Plan.v 20 [21, 22, 23] (by kernel_rfl) (by kernel_rfl) (by kernel_rfl) (by kernel_rfl) rfl (fun _ _ h_ => TL.offU rfl rfl (TL.nil h_)) ?_
          refine Plan.v 21 [22, 23] (by kernel_rfl) (by kernel_rfl) (by kernel_rfl) (by kernel_rfl) rfl (fun _ _ h_ => TL.offU rfl rfl (TL.nil h_)) ?_
          refine Plan.v 22 [23] (by kernel_rfl) (by kernel_rfl) (by kernel_rfl) (by kernel_rfl) rfl (fun _ _ h_ => TL.off rfl rfl rfl (TL.nil h_)) ?_
          refine Plan.v 23 [] (by kernel_rfl) (by kernel_rfl) (by kernel_rfl) (by kernel_rfl) rfl (fun _ _ h_ => R.pkTE rfl rfl (by conv => lhs; whnf) (TL.nil h_)) ?_
          refine Plan.done (Post.thnN ?_)
          -- cut r4, way y
          exact ⟨(), s4, ⟨rfl, rfl⟩, rfl, rfl, rfl, rfl, congrArg Value.bool (by rw [Bool.eq_iff_iff]; unfold goodB; simp only [Bool.not_eq_true', Bool.not_eq_false', Bool.and_eq_false_imp, Bool.and_eq_true, decide_eq_true_eq, decide_eq_false_iff_not, Bool.false_eq_true, false_iff, true_iff] at *; omega), trivial⟩
        · refine Plan.v 5 [6, 7, 8, 9, 10, 11, 12, 13, 14, 15, 16, 17, 18, 19, 20, 21, 22, 23] (by kernel_rfl) (by kernel_rfl) (by kernel_rfl) (by kernel_rfl) rfl (fun _ _ h_ => R.fldA Tryz.underlying29 rfl Tryz.sizeOf3 (by decide) rfl rfl (TL.nil h_)) ?_
          refine Plan.v 6 [7, 8, 9, 10, 11, 12, 13, 14, 15, 16, 17, 18, 19, 20, 21, 22, 23] (by kernel_rfl) (by kernel_rfl) (by kernel_rfl) (by kernel_rfl) rfl (fun _ _ h_ => R.ldH Tryz.isAgg3 rfl rfl (h4) rfl (TL.nil h_)) ?_
          refine Plan.v 7 [8, 9, 10, 11, 12, 13, 14, 15, 16, 17, 18, 19, 20, 21, 22, 23] (by kernel_rfl) (by kernel_rfl) (by kernel_rfl) (by kernel_rfl) rfl (fun _ _ h_ => R.lss rfl rfl rfl (TL.nil h_)) ?_
          refine Plan.v 8 [9, 10, 11, 12, 13, 14, 15, 16, 17, 18, 19, 20, 21, 22, 23] (by kernel_rfl) (by kernel_rfl) (by kernel_rfl) (by kernel_rfl) rfl (fun _ _ h_ => R.pkFE rfl rfl (by conv => lhs; whnf) (TL.nil h_)) ?_
          refine Plan.v 9 [10, 11, 12, 13, 14, 15, 16, 17, 18, 19, 20, 21, 22, 23] (by kernel_rfl) (by kernel_rfl) (by kernel_rfl) (by kernel_rfl) rfl (fun _ _ h_ => R.mvE rfl (by conv => lhs; whnf) (TL.nil h_)) ?_
          refine Plan.gsplitD 21 rfl (fun g21 => ?_) (fun g21 => ?_)
          · refine Plan.v 10 [11, 12, 13, 14, 15, 16, 17, 18, 19, 20, 21, 22, 23] (by kernel_rfl) (by kernel_rfl) (by kernel_rfl) (by kernel_rfl) rfl (fun _ _ h_ => TL.off rfl rfl rfl (TL.nil h_)) ?_
            refine Plan.v 11 [12, 13, 14, 15, 16, 17, 18, 19, 20, 21, 22, 23] (by kernel_rfl) (by kernel_rfl) (by kernel_rfl) (by kernel_rfl) rfl (fun _ _ h_ => TL.off rfl rfl rfl (TL.nil h_)) ?_
            refine Plan.v 12 [13, 14, 15, 16, 17, 18, 19, 20, 21, 22, 23] (by kernel_rfl) (by kernel_rfl) (by kernel_rfl) (by kernel_rfl) rfl (fun _ _ h_ => TL.off rfl rfl rfl (TL.nil h_)) ?_
            refine Plan.v 13 [14, 15, 16, 17, 18, 19, 20, 21, 22, 23] (by kernel_rfl) (by kernel_rfl) (by kernel_rfl) (by kernel_rfl) rfl (fun _ _ h_ => TL.offU rfl rfl (TL.nil h_)) ?_
            refine Plan.v 14 [15, 16, 17, 18, 19, 20, 21, 22, 23] (by kernel_rfl) (by kernel_rfl) (by kernel_rfl) (by kernel_rfl) rfl (fun _ _ h_ => TL.offU rfl rfl (TL.nil h_)) ?_
            refine Plan.v 15 [16, 17, 18, 19, 20, 21, 22, 23] (by kernel_rfl) (by kernel_rfl) (by kernel_rfl) (by kernel_rfl) rfl (fun _ _ h_ => TL.offU rfl rfl (TL.nil h_)) ?_
            refine Plan.v 16 [17, 18, 19, 20, 21, 22, 23] (by kernel_rfl) (by kernel_rfl) (by kernel_rfl) (by kernel_rfl) rfl (fun _ _ h_ => TL.offU rfl rfl (TL.nil h_)) ?_
            refine Plan.v 17 [18, 19, 20, 21, 22, 23] (by kernel_rfl) (by kernel_rfl) (by kernel_rfl) (by kernel_rfl) rfl (fun _ _ h_ => TL.offU rfl rfl (TL.nil h_)) ?_
            refine Plan.v 18 [19, 20, 21, 22, 23] (by kernel_rfl) (by kernel_rfl) (by kernel_rfl) (by kernel_rfl) rfl (fun _ _ h_ => TL.offU rfl rfl (TL.nil h_)) ?_
            refine Plan.v 19 [20, 21, 22, 23] (by kernel_rfl) (by kernel_rfl) (by kernel_rfl) (by kernel_rfl) rfl (fun _ _ h_ => TL.offU rfl rfl (TL.nil h_)) ?_
            refine Plan.v 20 [21, 22, 23] (by kernel_rfl) (by kernel_rfl) (by kernel_rfl) (by kernel_rfl) rfl (fun _ _ h_ => TL.offU rfl rfl (TL.nil h_)) ?_
            refine Plan.v 21 [22, 23] (by kernel_rfl) (by kernel_rfl) (by kernel_rfl) (by kernel_rfl) rfl (fun _ _ h_ => TL.offU rfl rfl (TL.nil h_)) ?_
            refine Plan.v 22 [23] (by kernel_rfl) (by kernel_rfl) (by kernel_rfl) (by kernel_rfl) rfl (fun _ _ h_ => TL.off rfl rfl rfl (TL.nil h_)) ?_
            refine Plan.v 23 [] (by kernel_rfl) (by kernel_rfl) (by kernel_rfl) (by kernel_rfl) rfl (fun _ _ h_ => R.pkTE rfl rfl (by conv => lhs; whnf) (TL.nil h_)) ?_
            refine Plan.done (Post.thnN ?_)
            -- cut r4, way ny
            exact ⟨(), s4, ⟨rfl, rfl⟩, rfl, rfl, rfl, rfl, congrArg Value.bool (by rw [Bool.eq_iff_iff]; unfold goodB; simp only [Bool.not_eq_true', Bool.not_eq_false', Bool.and_eq_false_imp, Bool.and_eq_true, decide_eq_true_eq, decide_eq_false_iff_not, Bool.false_eq_true, false_iff, true_iff] at *; omega), trivial⟩
          · refine Plan.v 10 [11, 12, 13, 14, 15, 16, 17, 18, 19, 20, 21, 22, 23] (by kernel_rfl) (by kernel_rfl) (by kernel_rfl) (by kernel_rfl) rfl (fun _ _ h_ => R.mvE rfl (by conv => lhs; whnf) (TL.nil h_)) ?_
            refine Plan.v 11 [12, 13, 14, 15, 16, 17, 18, 19, 20, 21, 22, 23] (by kernel_rfl) (by kernel_rfl) (by kernel_rfl) (by kernel_rfl) rfl (fun _ _ h_ => R.gtr rfl rfl rfl (TL.nil h_)) ?_
            refine Plan.v 12 [13, 14, 15, 16, 17, 18, 19, 20, 21, 22, 23] (by kernel_rfl) (by kernel_rfl) (by kernel_rfl) (by kernel_rfl) rfl (fun _ _ h_ => R.mvE rfl (by conv => lhs; whnf) (TL.nil h_)) ?_
            refine Plan.gsplitD 24 rfl (fun g24 => ?_) (fun g24 => ?_)
            · obtain ⟨y', hy'⟩ := getk (xs := d) (k := ((k : Int) - 1).toNat) (by omega)
              have hpv : prevF d k = y'.1 := prevF_at (by rw [← hy']; congr 1; omega)
              refine Plan.v 13 [14, 15, 16, 17, 18, 19, 20, 21, 22, 23] (by kernel_rfl) (by kernel_rfl) (by kernel_rfl) (by kernel_rfl) rfl (fun _ _ h_ => R.mvE rfl (by conv => lhs; whnf) (TL.nil h_)) ?_
              refine Plan.v 14 [15, 16, 17, 18, 19, 20, 21, 22, 23] (by kernel_rfl) (by kernel_rfl) (by kernel_rfl) (by kernel_rfl) rfl (fun _ _ h_ => R.mvE rfl (by conv => lhs; whnf) (TL.nil h_)) ?_
              refine Plan.v 15 [16, 17, 18, 19, 20, 21, 22, 23] (by kernel_rfl) (by kernel_rfl) (by kernel_rfl) (by kernel_rfl) rfl (fun _ _ h_ => R.subI rfl rfl rfl (by omega) (TL.nil h_)) ?_
              obtain ⟨b28, o28, i28, e28⟩ := (hr.mono (s_0.trans s4)).elem (hy')
              refine Plan.v 16 [17, 18, 19, 20, 21, 22, 23] (by kernel_rfl) (by kernel_rfl) (by kernel_rfl) (by kernel_rfl) rfl (fun _ _ h_ => R.ixp Tryz.underlying23 Tryz.sizeOf29 rfl rfl rfl (by omega) i28 (TL.nil h_)) ?_
              refine Plan.v 17 [18, 19, 20, 21, 22, 23] (by kernel_rfl) (by kernel_rfl) (by kernel_rfl) (by kernel_rfl) rfl (fun _ _ h_ => R.fldA Tryz.underlying29 rfl Tryz.sizeOf3 (by decide) rfl rfl (TL.nil h_)) ?_
              refine Plan.v 18 [19, 20, 21, 22, 23] (by kernel_rfl) (by kernel_rfl) (by kernel_rfl) (by kernel_rfl) rfl (fun _ _ h_ => R.ldC Tryz.isAgg3 rfl rfl (ElemAt.fst e28) (TL.nil h_)) ?_
              refine Plan.v 19 [20, 21, 22, 23] (by kernel_rfl) (by kernel_rfl) (by kernel_rfl) (by kernel_rfl) rfl (fun _ _ h_ => R.fldA Tryz.underlying29 rfl Tryz.sizeOf3 (by decide) rfl rfl (TL.nil h_)) ?_
              refine Plan.v 20 [21, 22, 23] (by kernel_rfl) (by kernel_rfl) (by kernel_rfl) (by kernel_rfl) rfl (fun _ _ h_ => R.ldH Tryz.isAgg3 rfl rfl (h4) rfl (TL.nil h_)) ?_
              refine Plan.v 21 [22, 23] (by kernel_rfl) (by kernel_rfl) (by kernel_rfl) (by kernel_rfl) rfl (fun _ _ h_ => R.geq rfl rfl rfl (TL.nil h_)) ?_
              refine Plan.v 22 [23] (by kernel_rfl) (by kernel_rfl) (by kernel_rfl) (by kernel_rfl) rfl (fun _ _ h_ => R.pkTE rfl rfl (by conv => lhs; whnf) (TL.nil h_)) ?_
              refine Plan.v 23 [] (by kernel_rfl) (by kernel_rfl) (by kernel_rfl) (by kernel_rfl) rfl (fun _ _ h_ => R.pkFE rfl rfl (by conv => lhs; whnf) (TL.nil h_)) ?_
              refine Plan.done (Post.thnN ?_)
              -- cut r4, way nny
              exact ⟨(), s4, ⟨rfl, rfl⟩, rfl, rfl, rfl, rfl, congrArg Value.bool (by rw [Bool.eq_iff_iff]; unfold goodB; simp only [Bool.not_eq_true', Bool.not_eq_false', Bool.and_eq_false_imp, Bool.and_eq_true, decide_eq_true_eq, decide_eq_false_iff_not, Bool.false_eq_true, false_iff, true_iff] at *; omega), trivial⟩
            · refine Plan.v 13 [14, 15, 16, 17, 18, 19, 20, 21, 22, 23] (by kernel_rfl) (by kernel_rfl) (by kernel_rfl) (by kernel_rfl) rfl (fun _ _ h_ => TL.off rfl rfl rfl (TL.nil h_)) ?_
              refine Plan.v 14 [15, 16, 17, 18, 19, 20, 21, 22, 23] (by kernel_rfl) (by kernel_rfl) (by kernel_rfl) (by kernel_rfl) rfl (fun _ _ h_ => TL.off rfl rfl rfl (TL.nil h_)) ?_
              refine Plan.v 15 [16, 17, 18, 19, 20, 21, 22, 23] (by kernel_rfl) (by kernel_rfl) (by kernel_rfl) (by kernel_rfl) rfl (fun _ _ h_ => TL.off rfl rfl rfl (TL.nil h_)) ?_
              refine Plan.v 16 [17, 18, 19, 20, 21, 22, 23] (by kernel_rfl) (by kernel_rfl) (by kernel_rfl) (by kernel_rfl) rfl (fun _ _ h_ => TL.off rfl rfl rfl (TL.nil h_)) ?_
              refine Plan.v 17 [18, 19, 20, 21, 22, 23] (by kernel_rfl) (by kernel_rfl) (by kernel_rfl) (by kernel_rfl) rfl (fun _ _ h_ => TL.off rfl rfl rfl (TL.nil h_)) ?_
              refine Plan.v 18 [19, 20, 21, 22, 23] (by kernel_rfl) (by kernel_rfl) (by kernel_rfl) (by kernel_rfl) rfl (fun _ _ h_ => TL.off rfl rfl rfl (TL.nil h_)) ?_
              refine Plan.v 19 [20, 21, 22, 23] (by kernel_rfl) (by kernel_rfl) (by kernel_rfl) (by kernel_rfl) rfl (fun _ _ h_ => TL.off rfl rfl rfl (TL.nil h_)) ?_
              refine Plan.v 20 [21, 22, 23] (by kernel_rfl) (by kernel_rfl) (by kernel_rfl) (by kernel_rfl) rfl (fun _ _ h_ => TL.off rfl rfl rfl (TL.nil h_)) ?_
              refine Plan.v 21 [22, 23] (by kernel_rfl) (by kernel_rfl) (by kernel_rfl) (by kernel_rfl) rfl (fun _ _ h_ => TL.off rfl rfl rfl (TL.nil h_)) ?_
              refine Plan.v 22 [23] (by kernel_rfl) (by kernel_rfl) (by kernel_rfl) (by kernel_rfl) rfl (fun _ _ h_ => R.pkFE rfl rfl (by conv => lhs; whnf) (TL.nil h_)) ?_
              refine Plan.v 23 [] (by kernel_rfl) (by kernel_rfl) (by kernel_rfl) (by kernel_rfl) rfl (fun _ _ h_ => R.pkFE rfl rfl (by conv => lhs; whnf) (TL.nil h_)) ?_
              refine Plan.done (Post.thnN ?_)
              -- cut r4, way nnn
              exact ⟨(), s4, ⟨rfl, rfl⟩, rfl, rfl, rfl, rfl, congrArg Value.bool (by rw [Bool.eq_iff_iff]; unfold goodB; simp only [Bool.not_eq_true', Bool.not_eq_false', Bool.and_eq_false_imp, Bool.and_eq_true, decide_eq_true_eq, decide_eq_false_iff_not, Bool.false_eq_true, false_iff, true_iff] at *; omega), trivial⟩
      · intro _ σ_r4 H_r4 L_r4 ds_r4 s_r4 hI_r4
        obtain ⟨rfl, rfl⟩ := hI_r4
        refine T.cond rfl (fun c35 => ?_) (fun c35 => ?_)
        · have hbad : rightD d = false := right_fail hy (by simpa using c35)
          refine T.seq ?_
          refine T.region ?_
          refine R.asE rfl (by conv => lhs; whnf) ?_
          refine TL.nil (Post.thnN ?_)
          refine T.ret (Post.blkR (Post.thnR (Post.thnR (Post.blkR (Post.thnR ?_)))))
          -- way yy
          exact fin1 rfl rfl ⟨rfl, congrArg Value.bool (by rw [hbad])⟩
        · refine T.skip (Post.blkN ?_)
          refine id (Post.thnN ?_)
          refine T.region ?_
          refine R.addI rfl rfl rfl (by omega) ?_
          refine R.mvE rfl (by conv => lhs; whnf) ?_
          refine TL.nil (Post.thnN ?_)
          -- round's end, way yn
          exact ⟨k + 1, s_0.trans s_r4, ⟨by omega, rfl, rfl, right_step hg hy (by simpa using c35)⟩, by omega, ⟨rfl, rfl, rfl, rfl, trivial⟩⟩
    · have hall : rightD d = true := by rw [show k = d.length by omega, List.take_length] at hg; exact hg
      refine T.exit (Post.thnE (Post.thnE (Post.blkX ?_)))
      refine id (Post.thnN ?_)
      refine T.seq ?_
      refine T.region ?_
      refine R.asE rfl (by conv => lhs; whnf) ?_
      refine TL.nil (Post.thnN ?_)
      refine T.ret ?_
      -- way n
      exact fin1 rfl rfl ⟨rfl, congrArg Value.bool (by rw [hall])⟩


set_option maxHeartbeats 1600000 in
theorem rAt17_c (H : Heap) (v : Value) (d : List Lk) (n : Int) (hr : RdS pairE H v d) : Fv Tryz.prog (fnv 21) [v, .int .i64 n] H (.int .i64 (atD d n)) := by
  refine Fc.of_body (N := 20) Tryz.func21 rfl (by kernel_rfl) rfl rfl ?_
  intro w0
  obtain ⟨A, c, rfl, hc1, hc2, hr⟩ := hr.shape
  refine T.seq ?_
  refine T.region ?_
  refine R.asE rfl (by conv => lhs; whnf) ?_
  refine TL.nil (Post.thnN ?_)
  refine T.seq ?_
  refine T.seq ?_
  refine T.region ?_
  refine R.mvE rfl (by conv => lhs; whnf) ?_
  refine R.len Tryz.underlying23 rfl rfl ?_
  refine R.mvE rfl (by conv => lhs; whnf) ?_
  refine TL.nil (Post.thnN ?_)
  refine T.block ?_
  refine T.loop (ι := Nat) (fun k H' L' ds' => k ≤ d.length ∧ L' = [] ∧ ds' = [] ∧ ∀ (j : Nat) z, j < k → d[j]? = some z → z.1 ≠ n) (fun k => [(1, .int .i64 n), (7, .slice A d.length c), (8, .int .i64 d.length), (9, .int .i64 k)]) (fun k => d.length - k) (0) ?_ ?_ ?_
  · exact ⟨Nat.zero_le _, rfl, rfl, fun j z h => absurd h (Nat.not_lt_zero _)⟩
  · exact ⟨rfl, rfl, rfl, rfl, trivial⟩
  · intro k σ0 H_0 L_0 ds_0 s_0 hI_0
    obtain ⟨hk, rfl, rfl, hn⟩ := hI_0
    refine T.seq ?_
    refine T.region ?_
    refine R.lss rfl rfl rfl ?_
    refine TL.nil (Post.thnN ?_)
    refine T.seq ?_
    refine T.condD rfl (fun c10 => ?_) (fun c10 => ?_)
    · have hlt : k < d.length := by omega
      obtain ⟨y, hy⟩ := getk hlt
      refine T.skip (Post.thnN ?_)
      refine T.seq ?_
      refine T.block ?_
      refine T.seq ?_
      refine T.region ?_
      obtain ⟨b11, o11, i11, e11⟩ := (hr.mono s_0).elem (hy)
      refine R.ixp Tryz.underlying23 Tryz.sizeOf29 rfl rfl rfl (by omega) i11 ?_
      refine R.ldP Tryz.isAgg29 Tryz.sizeOf29 rfl rfl (e11) ?_
      refine R.alloc Tryz.zeroValue29 rfl ?_
      intro b6
      refine R.stA (old := [.int .i64 0, .int .i64 0]) Tryz.sizeOf29 rfl rfl rfl rfl rfl (by intro v hv; simp at hv; rcases hv with rfl | rfl <;> rfl) .hd ?_
      refine TL.nil (Post.thnN ?_)
      refine T.seq ?_
      refine T.shut .hd ?_
      intro H6 s6 q6
      have h6 : H6 b6 = some (.cells #[.int .i64 y.1, .int .i64 y.2] 29) := shut1 q6
      refine T.region ?_
      refine R.fldA Tryz.underlying29 rfl Tryz.sizeOf3 (by decide) rfl rfl ?_
      refine R.ldH Tryz.isAgg3 rfl rfl (h6) rfl ?_
      refine R.mvE rfl (by conv => lhs; whnf) ?_
      refine R.eql rfl rfl rfl ?_
      refine TL.nil (Post.thnN ?_)
      refine T.condD rfl (fun c16 => ?_) (fun c16 => ?_)
      · refine T.seq ?_
        refine T.region ?_
        refine R.fldA Tryz.underlying29 rfl Tryz.sizeOf3 (by decide) rfl rfl ?_
        refine R.ldH Tryz.isAgg3 rfl rfl (h6) rfl ?_
        refine R.asE rfl (by conv => lhs; whnf) ?_
        refine TL.nil (Post.thnN ?_)
        refine T.ret (Post.blkR (Post.thnR (Post.thnR (Post.blkR (Post.thnR ?_)))))
        -- way yy
        exact fin1 rfl rfl ⟨rfl, congrArg (Value.int .i64) (at_find hn hy c16).symm⟩
      · refine T.skip (Post.blkN ?_)
        refine id (Post.thnN ?_)
        refine T.region ?_
        refine R.addI rfl rfl rfl (by omega) ?_
        refine R.mvE rfl (by conv => lhs; whnf) ?_
        refine TL.nil (Post.thnN ?_)
        -- round's end, way yn
        exact ⟨k + 1, s_0.trans s6, ⟨by omega, rfl, rfl, fun j z h1 h2 => if e : j = k then by subst e; rw [hy] at h2; injection h2 with h2; subst h2; exact c16 else hn j z (by omega) h2⟩, by omega, ⟨rfl, rfl, rfl, rfl, trivial⟩⟩
    · refine T.exit (Post.thnE (Post.thnE (Post.blkX ?_)))
      refine id (Post.thnN ?_)
      refine T.seq ?_
      refine T.region ?_
      refine R.asE rfl (by conv => lhs; whnf) ?_
      refine TL.nil (Post.thnN ?_)
      refine T.ret ?_
      -- way n
      exact fin1 rfl rfl ⟨rfl, congrArg (Value.int .i64) (at_none (fun j z h => hn j z (by have := (List.getElem?_eq_some_iff.1 h).1; omega) h)).symm⟩


theorem Tryzc_eqD (a b : Int × Int) (w : World) : (Op.equalIn 10000 29 (.agg #[.int .i64 a.1, .int .i64 a.2]) (.agg #[.int .i64 b.1, .int .i64 b.2])).run Tryz.prog w = .ok (decide (a = b)) w :=
  run_eq_pair Tryz.underlying29 (by kernel_rfl) (by decide) (by decide) rfl rfl rfl rfl Tryz.underlying3 Tryz.isAgg3 a b w
theorem Tryzc_eqE : Tryz.prog.eqGuardType Tryz.prog.depth 29 = false := by kernel_rfl

set_option maxHeartbeats 1600000 in
theorem equalD_c (H : Heap) (v u : Value) (xs ys : List Lk) (hr : RdS pairE H v xs) (hr2 : RdS pairE H u ys) : Fv Tryz.prog (fnv 16) [v, u] H (.bool (decide (xs = ys))) := by
  refine Fc.of_body (N := 26) Tryz.func16 rfl (by kernel_rfl) rfl rfl ?_
  intro w0
  obtain ⟨A, c, rfl, hc1, hc2, hr⟩ := hr.shape
  obtain ⟨A2, c2, rfl, hc3, hc4, hr2⟩ := hr2.shape
  refine T.seq ?_
  refine T.region ?_
  refine R.asE rfl (by conv => lhs; whnf) ?_
  refine TL.nil (Post.thnN ?_)
  refine T.seq ?_
  refine T.seq ?_
  refine T.region ?_
  refine R.mvE rfl (by conv => lhs; whnf) ?_
  refine R.len Tryz.underlying23 rfl rfl ?_
  refine R.mvE rfl (by conv => lhs; whnf) ?_
  refine R.len Tryz.underlying23 rfl rfl ?_
  refine R.neq rfl rfl rfl ?_
  refine TL.nil (Post.thnN ?_)
  refine T.condD rfl (fun c10 => ?_) (fun c10 => ?_)
  · refine T.seq ?_
    refine T.region ?_
    refine R.asE rfl (by conv => lhs; whnf) ?_
    refine TL.nil (Post.thnN ?_)
    refine T.ret (Post.thnR ?_)
    -- way y
    exact fin1 rfl rfl ⟨rfl, congrArg Value.bool (decide_eq_false (fun e => c10 (by rw [e]))).symm⟩
  · refine T.skip (Post.thnN ?_)
    refine T.seq ?_
    refine T.seq ?_
    refine T.region ?_
    refine R.mvE rfl (by conv => lhs; whnf) ?_
    refine R.len Tryz.underlying23 rfl rfl ?_
    refine R.mvE rfl (by conv => lhs; whnf) ?_
    refine TL.nil (Post.thnN ?_)
    refine T.block ?_
    refine T.loop (ι := Nat) (fun k H' L' ds' => k ≤ xs.length ∧ xs.take k = ys.take k) (fun k => [(0, .slice A xs.length c), (1, .slice A2 ys.length c2), (12, .int .i64 xs.length), (13, .int .i64 k)]) (fun k => xs.length - k) (0) ?_ ?_ ?_
    · exact ⟨Nat.zero_le _, rfl⟩
    · exact ⟨rfl, rfl, rfl, rfl, trivial⟩
    · intro k σ0 H_0 L_0 ds_0 s_0 hI_0
      obtain ⟨hk, hw⟩ := hI_0
      refine T.seq ?_
      refine T.region ?_
      refine R.lss rfl rfl rfl ?_
      refine TL.nil (Post.thnN ?_)
      refine T.seq ?_
      refine T.condD rfl (fun c14 => ?_) (fun c14 => ?_)
      · have hlt : k < xs.length := by omega
        obtain ⟨a, hx⟩ := getk hlt
        obtain ⟨b, hy⟩ := getk (xs := ys) (k := k) (by omega)
        refine T.skip (Post.thnN ?_)
        refine T.seq ?_
        refine T.block ?_
        refine T.seq ?_
        refine T.region ?_
        refine R.mvE rfl (by conv => lhs; whnf) ?_
        refine R.asE rfl (by conv => lhs; whnf) ?_
        refine TL.nil (Post.thnN ?_)
        refine T.seq ?_
        refine T.draw Tryz_mixed (by kernel_rfl) ?_
        refine Plan.v 0 [1, 2, 3, 4, 5, 6, 7, 8] (by kernel_rfl) (by kernel_rfl) (by kernel_rfl) (by kernel_rfl) rfl (fun _ _ h_ => R.mvE rfl (by conv => lhs; whnf) (TL.nil h_)) ?_
        refine Plan.v 1 [2, 3, 4, 5, 6, 7, 8] (by kernel_rfl) (by kernel_rfl) (by kernel_rfl) (by kernel_rfl) rfl (fun _ _ h_ => R.mvE rfl (by conv => lhs; whnf) (TL.nil h_)) ?_
        obtain ⟨b18, o18, i18, e18⟩ := (hr.mono s_0).elem (hx)
        refine Plan.v 2 [3, 4, 5, 6, 7, 8] (by kernel_rfl) (by kernel_rfl) (by kernel_rfl) (by kernel_rfl) rfl (fun _ _ h_ => R.ixp Tryz.underlying23 Tryz.sizeOf29 rfl rfl rfl (by omega) i18 (TL.nil h_)) ?_
        refine Plan.v 3 [4, 5, 6, 7, 8] (by kernel_rfl) (by kernel_rfl) (by kernel_rfl) (by kernel_rfl) rfl (fun _ _ h_ => R.ldP Tryz.isAgg29 Tryz.sizeOf29 rfl rfl (e18) (TL.nil h_)) ?_
        refine Plan.v 4 [5, 6, 7, 8] (by kernel_rfl) (by kernel_rfl) (by kernel_rfl) (by kernel_rfl) rfl (fun _ _ h_ => R.mvE rfl (by conv => lhs; whnf) (TL.nil h_)) ?_
        refine Plan.v 5 [6, 7, 8] (by kernel_rfl) (by kernel_rfl) (by kernel_rfl) (by kernel_rfl) rfl (fun _ _ h_ => R.mvE rfl (by conv => lhs; whnf) (TL.nil h_)) ?_
        obtain ⟨b22, o22, i22, e22⟩ := (hr2.mono s_0).elem (hy)
        refine Plan.v 6 [7, 8] (by kernel_rfl) (by kernel_rfl) (by kernel_rfl) (by kernel_rfl) rfl (fun _ _ h_ => R.ixp Tryz.underlying23 Tryz.sizeOf29 rfl rfl rfl (by omega) i22 (TL.nil h_)) ?_
        refine Plan.v 7 [8] (by kernel_rfl) (by kernel_rfl) (by kernel_rfl) (by kernel_rfl) rfl (fun _ _ h_ => R.ldP Tryz.isAgg29 Tryz.sizeOf29 rfl rfl (e22) (TL.nil h_)) ?_
        refine Plan.v 8 [] (by kernel_rfl) (by kernel_rfl) (by kernel_rfl) (by kernel_rfl) rfl (fun _ _ h_ => R.neP (a := a) (b := b) Tryzc_eqD Tryzc_eqE rfl rfl rfl (TL.nil h_)) ?_
        refine Plan.done (Post.thnN ?_)
        refine T.condD rfl (fun c24 => ?_) (fun c24 => ?_)
        · refine T.seq ?_
          refine T.region ?_
          refine R.asE rfl (by conv => lhs; whnf) ?_
          refine TL.nil (Post.thnN ?_)
          refine T.ret (Post.blkR (Post.thnR (Post.thnR (Post.blkR (Post.thnR ?_)))))
          -- way nyy
          exact fin1 rfl rfl ⟨rfl, congrArg Value.bool (decide_eq_false (ne_of_get hx hy c24)).symm⟩
        · refine T.skip (Post.blkN ?_)
          refine id (Post.thnN ?_)
          refine T.region ?_
          refine R.addI rfl rfl rfl (by omega) ?_
          refine R.mvE rfl (by conv => lhs; whnf) ?_
          refine TL.nil (Post.thnN ?_)
          -- round's end, way nyn
          exact ⟨k + 1, s_0, ⟨by omega, take_eq_of hw hx (by rw [hy]; exact congrArg some (Decidable.of_not_not c24).symm)⟩, by omega, ⟨rfl, rfl, rfl, rfl, trivial⟩⟩
      · refine T.exit (Post.thnE (Post.thnE (Post.blkX ?_)))
        refine id (Post.thnN ?_)
        refine T.seq ?_
        refine T.region ?_
        refine R.asE rfl (by conv => lhs; whnf) ?_
        refine TL.nil (Post.thnN ?_)
        refine T.ret ?_
        -- way nn
        obtain rfl : k = xs.length := by omega
        have e1 : xs = ys := by
          rw [List.take_length, show xs.length = ys.length by omega, List.take_length] at hw; exact hw
        exact fin1 rfl rfl ⟨rfl, congrArg Value.bool (decide_eq_true e1).symm⟩


set_option maxHeartbeats 1600000 in
theorem longS_c (H : Heap) (v : Value) (xs : List Lk) (hr : RdS pairE H v xs) (hA : Acyc xs) (hl : xs.length ≤ 1000) (n : Int) (ih : ∀ t, t ∈ toL xs n → ∀ H', HLe H H' → Fv Tryz.prog (fnv 65) [v, .int .i64 t] H' (.int .i64 (depL xs t))) : Fv Tryz.prog (fnv 65) [v, .int .i64 n] H (.int .i64 (depL xs n)) := by
  refine Fc.of_body (N := 30) Tryz.func65 rfl (by kernel_rfl) rfl rfl ?_
  intro w0
  obtain ⟨A, c, rfl, hc1, hc2, hr⟩ := hr.shape
  refine T.seq ?_
  refine T.region ?_
  refine R.asE rfl (by conv => lhs; whnf) ?_
  refine TL.nil (Post.thnN ?_)
  refine T.seq ?_
  refine T.region ?_
  refine R.asE rfl (by conv => lhs; whnf) ?_
  refine TL.nil (Post.thnN ?_)
  refine T.seq ?_
  refine T.seq ?_
  refine T.region ?_
  refine R.mvE rfl (by conv => lhs; whnf) ?_
  refine R.len Tryz.underlying22 rfl rfl ?_
  refine R.mvE rfl (by conv => lhs; whnf) ?_
  refine TL.nil (Post.thnN ?_)
  refine T.block ?_
  refine T.loop (ι := Nat) (fun k H' L' ds' => k ≤ xs.length ∧ L' = [] ∧ ds' = []) (fun k => [(0, .slice A xs.length c), (1, .int .i64 n), (5, .int .i64 (mostL xs n k)), (9, .slice A xs.length c), (10, .int .i64 xs.length), (11, .int .i64 k)]) (fun k => xs.length - k) (0) ?_ ?_ ?_
  · exact ⟨Nat.zero_le _, rfl, rfl⟩
  · exact ⟨rfl, rfl, congrArg (Value.int .i64) (mostL_zero xs n).symm, rfl, rfl, rfl, trivial⟩
  · intro k σ0 H_0 L_0 ds_0 s_0 hI_0
    obtain ⟨hk, rfl, rfl⟩ := hI_0
    refine T.seq ?_
    refine T.region ?_
    refine R.lss rfl rfl rfl ?_
    refine TL.nil (Post.thnN ?_)
    refine T.seq ?_
    refine T.condD rfl (fun c12 => ?_) (fun c12 => ?_)
    · have hlt : k < xs.length := by omega
      obtain ⟨y, hy⟩ := getk hlt
      have hbd := dep_bd xs y.2
      refine T.skip (Post.thnN ?_)
      refine T.seq ?_
      refine T.block ?_
      refine T.seq ?_
      refine T.region ?_
      obtain ⟨b13, o13, i13, e13⟩ := (hr.mono s_0).elem (hy)
      refine R.ixp Tryz.underlying22 Tryz.sizeOf45 rfl rfl rfl (by omega) i13 ?_
      refine R.ldP Tryz.isAgg45 Tryz.sizeOf45 rfl rfl (e13) ?_
      refine R.alloc Tryz.zeroValue45 rfl ?_
      intro b7
      refine R.stA (old := [.int .i64 0, .int .i64 0]) Tryz.sizeOf45 rfl rfl rfl rfl rfl (by intro v hv; simp at hv; rcases hv with rfl | rfl <;> rfl) .hd ?_
      refine TL.nil (Post.thnN ?_)
      refine T.seq ?_
      refine T.shut .hd ?_
      intro H7 s7 q7
      have h7 : H7 b7 = some (.cells #[.int .i64 y.1, .int .i64 y.2] 45) := shut1 q7
      refine T.region ?_
      refine R.fldA Tryz.underlying45 rfl Tryz.sizeOf3 (by decide) rfl rfl ?_
      refine R.ldH Tryz.isAgg3 rfl rfl (h7) rfl ?_
      refine R.mvE rfl (by conv => lhs; whnf) ?_
      refine R.eql rfl rfl rfl ?_
      refine TL.nil (Post.thnN ?_)
      refine T.condD rfl (fun c18 => ?_) (fun c18 => ?_)
      · have hty : y.2 ∈ toL xs n := (mem_toL hA.1).2 (by rw [← c18]; exact List.mem_of_getElem? hy)
        refine T.seq ?_
        refine T.region ?_
        refine R.mvE rfl (by conv => lhs; whnf) ?_
        refine R.fldA Tryz.underlying45 rfl Tryz.sizeOf3 (by decide) rfl rfl ?_
        refine R.ldH Tryz.isAgg3 rfl rfl (h7) rfl ?_
        refine R.callv rfl rfl rfl (ih y.2 hty _ (s_0.trans s7)) ?_
        refine R.addI rfl rfl rfl (by omega) ?_
        refine R.asE rfl (by conv => lhs; whnf) ?_
        refine TL.nil (Post.thnN ?_)
        refine T.seq ?_
        refine T.region ?_
        refine R.mvE rfl (by conv => lhs; whnf) ?_
        refine R.mvE rfl (by conv => lhs; whnf) ?_
        refine R.gtr rfl rfl rfl ?_
        refine TL.nil (Post.thnN ?_)
        refine T.condD rfl (fun c26 => ?_) (fun c26 => ?_)
        · refine T.region ?_
          refine R.mvE rfl (by conv => lhs; whnf) ?_
          refine R.asE rfl (by conv => lhs; whnf) ?_
          refine TL.nil (Post.blkN ?_)
          refine id (Post.thnN ?_)
          refine T.region ?_
          refine R.addI rfl rfl rfl (by omega) ?_
          refine R.mvE rfl (by conv => lhs; whnf) ?_
          refine TL.nil (Post.thnN ?_)
          -- round's end, way yyy
          exact ⟨k + 1, s_0.trans s7, ⟨by omega, rfl, rfl⟩, by omega, rfl, rfl, congrArg (Value.int .i64) (by rw [mostL_snoc hy, if_pos c18, Int.max_eq_right (by omega)]), rfl, rfl, rfl, trivial⟩
        · refine T.skip (Post.blkN ?_)
          refine id (Post.thnN ?_)
          refine T.region ?_
          refine R.addI rfl rfl rfl (by omega) ?_
          refine R.mvE rfl (by conv => lhs; whnf) ?_
          refine TL.nil (Post.thnN ?_)
          -- round's end, way yyn
          exact ⟨k + 1, s_0.trans s7, ⟨by omega, rfl, rfl⟩, by omega, rfl, rfl, congrArg (Value.int .i64) (by rw [mostL_snoc hy, if_pos c18, Int.max_eq_left (by omega)]), rfl, rfl, rfl, trivial⟩
      · refine T.skip (Post.blkN ?_)
        refine id (Post.thnN ?_)
        refine T.region ?_
        refine R.addI rfl rfl rfl (by omega) ?_
        refine R.mvE rfl (by conv => lhs; whnf) ?_
        refine TL.nil (Post.thnN ?_)
        -- round's end, way yn
        exact ⟨k + 1, s_0.trans s7, ⟨by omega, rfl, rfl⟩, by omega, rfl, rfl, congrArg (Value.int .i64) (by rw [mostL_snoc hy, if_neg c18]), rfl, rfl, rfl, trivial⟩
    · refine T.exit (Post.thnE (Post.thnE (Post.blkX ?_)))
      refine id (Post.thnN ?_)
      refine T.seq ?_
      refine T.region ?_
      refine R.mvE rfl (by conv => lhs; whnf) ?_
      refine R.asE rfl (by conv => lhs; whnf) ?_
      refine TL.nil (Post.thnN ?_)
      refine T.ret ?_
      -- way n
      exact fin1 rfl rfl ⟨rfl, congrArg (Value.int .i64) (by rw [show k = xs.length by omega, mostL_all hA])⟩


theorem long_c (v : Value) (xs : List Lk) (hA : Acyc xs) (hl : xs.length ≤ 1000) : ∀ (r : Nat) (n : Int), rankL xs n ≤ r → ∀ H, RdS pairE H v xs → Fv Tryz.prog (fnv 65) [v, .int .i64 n] H (.int .i64 (depL xs n)) := fun r => by
  induction r with
  | zero => exact fun n hn H hr => longS_c H v xs hr hA hl n (fun t ht => absurd (rank_lt hA ht) (by omega))
  | succ r ih => exact fun n hn H hr => longS_c H v xs hr hA hl n (fun t ht H' hle => ih t (by have := rank_lt hA ht; omega) H' (hr.mono hle))

set_option maxHeartbeats 1600000 in
theorem rof17_c (H : Heap) (v : Value) (xs : List Lk) (hr : RdS pairE H v xs) (hA : Acyc xs) (hl : xs.length ≤ 1000) : Fp Tryz.prog (fnv 15) [v] H (fun v' H' => RdS pairE H' v' (ofD xs)) := by
  refine Fc.of_body (N := 38) Tryz.func15 rfl (by kernel_rfl) rfl rfl ?_
  intro w0
  obtain ⟨A, c, rfl, hc1, hc2, hr⟩ := hr.shape
  refine T.seq ?_
  refine T.region ?_
  refine R.asE rfl (by conv => lhs; whnf) ?_
  refine TL.nil (Post.thnN ?_)
  refine T.seq ?_
  refine T.region ?_
  refine R.asE rfl (by conv => lhs; whnf) ?_
  refine TL.nil (Post.thnN ?_)
  refine T.seq ?_
  refine T.seq ?_
  refine T.nilc ?_
  refine T.region ?_
  refine R.mvE rfl (by conv => lhs; whnf) ?_
  refine R.len Tryz.underlying22 rfl rfl ?_
  refine R.mvE rfl (by conv => lhs; whnf) ?_
  refine TL.nil (Post.thnN ?_)
  refine T.block ?_
  refine T.loop (ι := Nat × Value × Chunk) (fun ⟨k, vw, cw⟩ H' L' ds' => k ≤ xs.length ∧ L' = [cw] ∧ ds' = [] ∧ OwnS pairE 29 H' vw ((allK xs k).map (fun n => (n, depL xs n))) cw) (fun ⟨k, vw, cw⟩ => [(0, .slice A xs.length c), (3, vw), (6, .slice A xs.length c), (7, .int .i64 xs.length), (8, .int .i64 k)]) (fun ⟨k, vw, cw⟩ => xs.length - k) ((0, .slice none 0 0, [])) ?_ ?_ ?_
  · exact ⟨Nat.zero_le _, rfl, rfl, OwnS.nil⟩
  · exact ⟨rfl, rfl, rfl, rfl, rfl, trivial⟩
  · intro ⟨k, vw, cw⟩ σ0 H_0 L_0 ds_0 s_0 hI_0
    obtain ⟨hk, rfl, rfl, ho⟩ := hI_0
    have hkl := allK_len xs k
    refine T.seq ?_
    refine T.region ?_
    refine R.lss rfl rfl rfl ?_
    refine TL.nil (Post.thnN ?_)
    refine T.seq ?_
    refine T.condD rfl (fun c9 => ?_) (fun c9 => ?_)
    · have hlt : k < xs.length := by omega
      obtain ⟨y, hy⟩ := getk hlt
      refine T.skip (Post.thnN ?_)
      refine T.seq ?_
      refine T.block ?_
      refine T.seq ?_
      refine T.region ?_
      refine R.mvE rfl (by conv => lhs; whnf) ?_
      obtain ⟨b11, o11, i11, e11⟩ := (hr.mono s_0).elem (hy)
      refine R.ixp Tryz.underlying22 Tryz.sizeOf45 rfl rfl rfl (by omega) i11 ?_
      refine R.ldP Tryz.isAgg45 Tryz.sizeOf45 rfl rfl (e11) ?_
      refine R.alloc Tryz.zeroValue45 rfl ?_
      intro b5
      refine R.asE rfl (by conv => lhs; whnf) ?_
      refine R.stA (old := [.int .i64 0, .int .i64 0]) Tryz.sizeOf45 rfl rfl rfl rfl rfl (by intro v hv; simp at hv; rcases hv with rfl | rfl <;> rfl) .hd ?_
      refine TL.shut .hd ?_
      intro H5 s5 q5
      have h5 : H5 b5 = some (.cells #[.int .i64 y.1, .int .i64 y.2] 45) := shut1 q5
      refine TL.nil (Post.thnN ?_)
      refine T.cut (ι := Unit) (fun _ H' L' ds' => L' = [cw] ∧ ds' = []) (fun _ => [(0, .slice A xs.length c), (3, vw), (5, .pointer (some ⟨b5, 0, none⟩)), (6, .slice A xs.length c), (7, .int .i64 xs.length), (8, .int .i64 k), (25, .bool (newB xs k y))]) ?_ ?_
      · refine T.draw Tryz_mixed (by kernel_rfl) ?_
        refine Plan.v 0 [1, 2, 3, 4, 5, 6, 7, 8, 9, 10, 11, 12] (by kernel_rfl) (by kernel_rfl) (by kernel_rfl) (by kernel_rfl) rfl (fun _ _ h_ => R.mvE rfl (by conv => lhs; whnf) (TL.nil h_)) ?_
        refine Plan.v 1 [2, 3, 4, 5, 6, 7, 8, 9, 10, 11, 12] (by kernel_rfl) (by kernel_rfl) (by kernel_rfl) (by kernel_rfl) rfl (fun _ _ h_ => R.eql rfl rfl rfl (TL.nil h_)) ?_
        refine Plan.v 2 [3, 4, 5, 6, 7, 8, 9, 10, 11, 12] (by kernel_rfl) (by kernel_rfl) (by kernel_rfl) (by kernel_rfl) rfl (fun _ _ h_ => R.mvE rfl (by conv => lhs; whnf) (TL.nil h_)) ?_
        refine Plan.gsplitD 15 rfl (fun g15 => ?_) (fun g15 => ?_)
        · refine Plan.v 3 [4, 5, 6, 7, 8, 9, 10, 11, 12] (by kernel_rfl) (by kernel_rfl) (by kernel_rfl) (by kernel_rfl) rfl (fun _ _ h_ => TL.off rfl rfl rfl (TL.nil h_)) ?_
          refine Plan.v 4 [5, 6, 7, 8, 9, 10, 11, 12] (by kernel_rfl) (by kernel_rfl) (by kernel_rfl) (by kernel_rfl) rfl (fun _ _ h_ => TL.off rfl rfl rfl (TL.nil h_)) ?_
          refine Plan.v 5 [6, 7, 8, 9, 10, 11, 12] (by kernel_rfl) (by kernel_rfl) (by kernel_rfl) (by kernel_rfl) rfl (fun _ _ h_ => TL.off rfl rfl rfl (TL.nil h_)) ?_
          refine Plan.v 6 [7, 8, 9, 10, 11, 12] (by kernel_rfl) (by kernel_rfl) (by kernel_rfl) (by kernel_rfl) rfl (fun _ _ h_ => TL.off rfl rfl rfl (TL.nil h_)) ?_
          refine Plan.v 7 [8, 9, 10, 11, 12] (by kernel_rfl) (by kernel_rfl) (by kernel_rfl) (by kernel_rfl) rfl (fun _ _ h_ => TL.off rfl rfl rfl (TL.nil h_)) ?_
          refine Plan.v 8 [9, 10, 11, 12] (by kernel_rfl) (by kernel_rfl) (by kernel_rfl) (by kernel_rfl) rfl (fun _ _ h_ => TL.off rfl rfl rfl (TL.nil h_)) ?_
          refine Plan.v 9 [10, 11, 12] (by kernel_rfl) (by kernel_rfl) (by kernel_rfl) (by kernel_rfl) rfl (fun _ _ h_ => TL.off rfl rfl rfl (TL.nil h_)) ?_
          refine Plan.v 10 [11, 12] (by kernel_rfl) (by kernel_rfl) (by kernel_rfl) (by kernel_rfl) rfl (fun _ _ h_ => TL.off rfl rfl rfl (TL.nil h_)) ?_
          refine Plan.v 11 [12] (by kernel_rfl) (by kernel_rfl) (by kernel_rfl) (by kernel_rfl) rfl (fun _ _ h_ => TL.off rfl rfl rfl (TL.nil h_)) ?_
          refine Plan.v 12 [] (by kernel_rfl) (by kernel_rfl) (by kernel_rfl) (by kernel_rfl) rfl (fun _ _ h_ => R.pkTE rfl rfl (by conv => lhs; whnf) (TL.nil h_)) ?_
          refine Plan.done (Post.thnN ?_)
          -- cut r5, way y
          exact ⟨(), HLe.refl _, ⟨rfl, rfl⟩, rfl, rfl, rfl, rfl, rfl, rfl, congrArg Value.bool (by rw [Bool.eq_iff_iff]; unfold newB; simp only [decide_eq_true_eq, Bool.false_eq_true, false_iff, true_iff]; omega), trivial⟩
        · obtain ⟨y', hy'⟩ := getk (xs := xs) (k := ((k : Int) - 1).toNat) (by omega)
          have hpv : prevF xs k = y'.1 := prevF_at (by rw [← hy']; congr 1; omega)
          refine Plan.v 3 [4, 5, 6, 7, 8, 9, 10, 11, 12] (by kernel_rfl) (by kernel_rfl) (by kernel_rfl) (by kernel_rfl) rfl (fun _ _ h_ => R.mvE rfl (by conv => lhs; whnf) (TL.nil h_)) ?_
          refine Plan.v 4 [5, 6, 7, 8, 9, 10, 11, 12] (by kernel_rfl) (by kernel_rfl) (by kernel_rfl) (by kernel_rfl) rfl (fun _ _ h_ => R.mvE rfl (by conv => lhs; whnf) (TL.nil h_)) ?_
          refine Plan.v 5 [6, 7, 8, 9, 10, 11, 12] (by kernel_rfl) (by kernel_rfl) (by kernel_rfl) (by kernel_rfl) rfl (fun _ _ h_ => R.subI rfl rfl rfl (by omega) (TL.nil h_)) ?_
          obtain ⟨b19, o19, i19, e19⟩ := (hr.mono (s_0.trans s5)).elem (hy')
          refine Plan.v 6 [7, 8, 9, 10, 11, 12] (by kernel_rfl) (by kernel_rfl) (by kernel_rfl) (by kernel_rfl) rfl (fun _ _ h_ => R.ixp Tryz.underlying22 Tryz.sizeOf45 rfl rfl rfl (by omega) i19 (TL.nil h_)) ?_
          refine Plan.v 7 [8, 9, 10, 11, 12] (by kernel_rfl) (by kernel_rfl) (by kernel_rfl) (by kernel_rfl) rfl (fun _ _ h_ => R.fldA Tryz.underlying45 rfl Tryz.sizeOf3 (by decide) rfl rfl (TL.nil h_)) ?_
          refine Plan.v 8 [9, 10, 11, 12] (by kernel_rfl) (by kernel_rfl) (by kernel_rfl) (by kernel_rfl) rfl (fun _ _ h_ => R.ldC Tryz.isAgg3 rfl rfl (ElemAt.fst e19) (TL.nil h_)) ?_
          refine Plan.v 9 [10, 11, 12] (by kernel_rfl) (by kernel_rfl) (by kernel_rfl) (by kernel_rfl) rfl (fun _ _ h_ => R.fldA Tryz.underlying45 rfl Tryz.sizeOf3 (by decide) rfl rfl (TL.nil h_)) ?_
          refine Plan.v 10 [11, 12] (by kernel_rfl) (by kernel_rfl) (by kernel_rfl) (by kernel_rfl) rfl (fun _ _ h_ => R.ldH Tryz.isAgg3 rfl rfl (h5) rfl (TL.nil h_)) ?_
          refine Plan.v 11 [12] (by kernel_rfl) (by kernel_rfl) (by kernel_rfl) (by kernel_rfl) rfl (fun _ _ h_ => R.neq rfl rfl rfl (TL.nil h_)) ?_
          refine Plan.v 12 [] (by kernel_rfl) (by kernel_rfl) (by kernel_rfl) (by kernel_rfl) rfl (fun _ _ h_ => R.pkFE rfl rfl (by conv => lhs; whnf) (TL.nil h_)) ?_
          refine Plan.done (Post.thnN ?_)
          -- cut r5, way n
          exact ⟨(), HLe.refl _, ⟨rfl, rfl⟩, rfl, rfl, rfl, rfl, rfl, rfl, congrArg Value.bool (by rw [Bool.eq_iff_iff]; unfold newB; simp only [decide_eq_true_eq, Bool.false_eq_true, false_iff, true_iff]; omega), trivial⟩
      · intro _ σ_r5 H_r5 L_r5 ds_r5 s_r5 hI_r5
        obtain ⟨rfl, rfl⟩ := hI_r5
        refine T.cond rfl (fun c25 => ?_) (fun c25 => ?_)
        · refine T.draw Tryz_mixed (by kernel_rfl) ?_
          refine Plan.v 0 [1, 2, 3, 4, 5, 6, 7, 8, 9, 10] (by kernel_rfl) (by kernel_rfl) (by kernel_rfl) (by kernel_rfl) rfl (fun _ _ h_ => R.mvE rfl (by conv => lhs; whnf) (TL.nil h_)) ?_
          refine Plan.v 1 [2, 3, 4, 5, 6, 7, 8, 9, 10] (by kernel_rfl) (by kernel_rfl) (by kernel_rfl) (by kernel_rfl) rfl (fun _ _ h_ => R.fldA Tryz.underlying45 rfl Tryz.sizeOf3 (by decide) rfl rfl (TL.nil h_)) ?_
          refine Plan.v 2 [3, 4, 5, 6, 7, 8, 9, 10] (by kernel_rfl) (by kernel_rfl) (by kernel_rfl) (by kernel_rfl) rfl (fun _ _ h_ => R.ldH Tryz.isAgg3 rfl rfl ((s_r5 _ _ h5)) rfl (TL.nil h_)) ?_
          refine Plan.v 3 [4, 5, 6, 7, 8, 9, 10] (by kernel_rfl) (by kernel_rfl) (by kernel_rfl) (by kernel_rfl) rfl (fun _ _ h_ => R.mvE rfl (by conv => lhs; whnf) (TL.nil h_)) ?_
          refine Plan.v 4 [5, 6, 7, 8, 9, 10] (by kernel_rfl) (by kernel_rfl) (by kernel_rfl) (by kernel_rfl) rfl (fun _ _ h_ => R.fldA Tryz.underlying45 rfl Tryz.sizeOf3 (by decide) rfl rfl (TL.nil h_)) ?_
          refine Plan.v 5 [6, 7, 8, 9, 10] (by kernel_rfl) (by kernel_rfl) (by kernel_rfl) (by kernel_rfl) rfl (fun _ _ h_ => R.ldH Tryz.isAgg3 rfl rfl ((s_r5 _ _ h5)) rfl (TL.nil h_)) ?_
          refine Plan.v 6 [7, 8, 9, 10] (by kernel_rfl) (by kernel_rfl) (by kernel_rfl) (by kernel_rfl) rfl (fun _ _ h_ => R.callv rfl rfl rfl (long_c _ xs hA hl _ y.1 (Nat.le_refl _) _ (hr.mono (s_0.trans (s5.trans s_r5)))) (TL.nil h_)) ?_
          refine Plan.v 7 [8, 9, 10] (by kernel_rfl) (by kernel_rfl) (by kernel_rfl) (by kernel_rfl) rfl (fun _ _ h_ => R.bld (cs := [.int .i64 y.1, .int .i64 (depL xs y.1)]) rfl (fun _ => by kernel_rfl) (TL.nil h_)) ?_
          refine Plan.s1 8 [9, 10] (by kernel_rfl) (by kernel_rfl) rfl ?_
          refine R.bs (e := 29) (cs := [.int .i64 y.1, .int .i64 (depL xs y.1)]) rfl (fun _ => by kernel_rfl) ?_
          intro b34
          refine TL.nil (Plan.e1 (HLe.refl _) ?_)
          refine Plan.s1 9 [10] (by kernel_rfl) (by kernel_rfl) rfl ?_
          refine R.app (ys := [(y.1, depL xs y.1)]) Tryz_ty23 rfl rfl rfl (ho.mono (s5.trans s_r5)) (.tl .hd) (Src.lit (vs := [.int .i64 y.1, .int .i64 (depL xs y.1)]) .hd) ⟨[.int .i64 y.1, .int .i64 (depL xs y.1)], [], rfl, rfl, rfl⟩ (by simp; omega) (by simp; omega) ?_
          intro v35 c35 w35
          refine TL.del (.tl .hd) ?_
          refine TL.nil (Plan.e1 (HLe.refl _) ?_)
          refine Plan.s1 10 [] (by kernel_rfl) (by kernel_rfl) rfl ?_
          refine R.asE rfl (by conv => lhs; whnf) ?_
          refine TL.nil (Plan.e1 (HLe.refl _) ?_)
          refine Plan.done (Post.blkN ?_)
          refine id (Post.thnN ?_)
          refine T.region ?_
          refine R.addI rfl rfl rfl (by omega) ?_
          refine R.mvE rfl (by conv => lhs; whnf) ?_
          refine TL.nil (Post.thnN ?_)
          -- round's end, way yy
          exact ⟨(k + 1, v35, c35), s_0.trans (s5.trans s_r5), ⟨by show k + 1 ≤ _; omega, rfl, rfl, by rw [allK_step hy, c25, if_pos rfl, List.map_append]; exact w35⟩, by show xs.length - (k + 1) < xs.length - k; omega, ⟨rfl, rfl, rfl, rfl, rfl, trivial⟩⟩
        · refine T.skip (Post.blkN ?_)
          refine id (Post.thnN ?_)
          refine T.region ?_
          refine R.addI rfl rfl rfl (by omega) ?_
          refine R.mvE rfl (by conv => lhs; whnf) ?_
          refine TL.nil (Post.thnN ?_)
          -- round's end, way yn
          exact ⟨(k + 1, vw, cw), s_0.trans (s5.trans s_r5), ⟨by show k + 1 ≤ _; omega, rfl, rfl, by rw [allK_step hy, c25]; exact ho.mono (s5.trans s_r5)⟩, by show xs.length - (k + 1) < xs.length - k; omega, ⟨rfl, rfl, rfl, rfl, rfl, trivial⟩⟩
    · have hkx : k = xs.length := by omega
      rw [hkx, allK_all] at ho
      refine T.exit (Post.thnE (Post.thnE (Post.blkX ?_)))
      refine id (Post.thnN ?_)
      refine T.seq ?_
      refine T.shut .hd ?_
      intro HF sF qF
      have hf := ho.read sF qF
      refine T.region ?_
      refine R.mvE rfl (by conv => lhs; whnf) ?_
      refine R.asE rfl (by conv => lhs; whnf) ?_
      refine TL.nil (Post.thnN ?_)
      refine T.ret ?_
      -- way n
      exact fin1 rfl rfl ⟨rfl, hf⟩

end Go.SX

set_option linter.unusedVariables false
set_option linter.unusedSimpArgs false
namespace Go.SX
open Go Go.Proofs

set_option maxHeartbeats 1600000 in
theorem equalP_c (H : Heap) (v u : Value) (xs ys : List Lk) (hr : RdS pairE H v xs) (hr2 : RdS pairE H u ys) : Fv Tryz.prog (fnv 25) [v, u] H (.bool (decide (xs = ys))) := by
  refine Fc.of_body (N := 26) Tryz.func25 rfl (by kernel_rfl) rfl rfl ?_
  intro w0
  obtain ⟨A, c, rfl, hc1, hc2, hr⟩ := hr.shape
  obtain ⟨A2, c2, rfl, hc3, hc4, hr2⟩ := hr2.shape
  refine T.seq ?_
  refine T.region ?_
  refine R.asE rfl (by conv => lhs; whnf) ?_
  refine TL.nil (Post.thnN ?_)
  refine T.seq ?_
  refine T.seq ?_
  refine T.region ?_
  refine R.mvE rfl (by conv => lhs; whnf) ?_
  refine R.len Tryz.underlying22 rfl rfl ?_
  refine R.mvE rfl (by conv => lhs; whnf) ?_
  refine R.len Tryz.underlying22 rfl rfl ?_
  refine R.neq rfl rfl rfl ?_
  refine TL.nil (Post.thnN ?_)
  refine T.condD rfl (fun c10 => ?_) (fun c10 => ?_)
  · refine T.seq ?_
    refine T.region ?_
    refine R.asE rfl (by conv => lhs; whnf) ?_
    refine TL.nil (Post.thnN ?_)
    refine T.ret (Post.thnR ?_)
    -- way y
    exact fin1 rfl rfl ⟨rfl, congrArg Value.bool (decide_eq_false (fun e => c10 (by rw [e]))).symm⟩
  · refine T.skip (Post.thnN ?_)
    refine T.seq ?_
    refine T.seq ?_
    refine T.region ?_
    refine R.mvE rfl (by conv => lhs; whnf) ?_
    refine R.len Tryz.underlying22 rfl rfl ?_
    refine R.mvE rfl (by conv => lhs; whnf) ?_
    refine TL.nil (Post.thnN ?_)
    refine T.block ?_
    refine T.loop (ι := Nat) (fun k H' L' ds' => k ≤ xs.length ∧ xs.take k = ys.take k) (fun k => [(0, .slice A xs.length c), (1, .slice A2 ys.length c2), (12, .int .i64 xs.length), (13, .int .i64 k)]) (fun k => xs.length - k) (0) ?_ ?_ ?_
    · exact ⟨Nat.zero_le _, rfl⟩
    · exact ⟨rfl, rfl, rfl, rfl, trivial⟩
    · intro k σ0 H_0 L_0 ds_0 s_0 hI_0
      obtain ⟨hk, hw⟩ := hI_0
      refine T.seq ?_
      refine T.region ?_
      refine R.lss rfl rfl rfl ?_
      refine TL.nil (Post.thnN ?_)
      refine T.seq ?_
      refine T.condD rfl (fun c14 => ?_) (fun c14 => ?_)
      · have hlt : k < xs.length := by omega
        obtain ⟨a, hx⟩ := getk hlt
        obtain ⟨b, hy⟩ := getk (xs := ys) (k := k) (by omega)
        refine T.skip (Post.thnN ?_)
        refine T.seq ?_
        refine T.block ?_
        refine T.seq ?_
        refine T.region ?_
        refine R.mvE rfl (by conv => lhs; whnf) ?_
        refine R.asE rfl (by conv => lhs; whnf) ?_
        refine TL.nil (Post.thnN ?_)
        refine T.seq ?_
        refine T.draw Tryz_mixed (by kernel_rfl) ?_
        refine Plan.v 0 [1, 2, 3, 4, 5, 6, 7, 8] (by kernel_rfl) (by kernel_rfl) (by kernel_rfl) (by kernel_rfl) rfl (fun _ _ h_ => R.mvE rfl (by conv => lhs; whnf) (TL.nil h_)) ?_
        refine Plan.v 1 [2, 3, 4, 5, 6, 7, 8] (by kernel_rfl) (by kernel_rfl) (by kernel_rfl) (by kernel_rfl) rfl (fun _ _ h_ => R.mvE rfl (by conv => lhs; whnf) (TL.nil h_)) ?_
        obtain ⟨b18, o18, i18, e18⟩ := (hr.mono s_0).elem (hx)
        refine Plan.v 2 [3, 4, 5, 6, 7, 8] (by kernel_rfl) (by kernel_rfl) (by kernel_rfl) (by kernel_rfl) rfl (fun _ _ h_ => R.ixp Tryz.underlying22 Tryz.sizeOf45 rfl rfl rfl (by omega) i18 (TL.nil h_)) ?_
        refine Plan.v 3 [4, 5, 6, 7, 8] (by kernel_rfl) (by kernel_rfl) (by kernel_rfl) (by kernel_rfl) rfl (fun _ _ h_ => R.ldP Tryz.isAgg45 Tryz.sizeOf45 rfl rfl (e18) (TL.nil h_)) ?_
        refine Plan.v 4 [5, 6, 7, 8] (by kernel_rfl) (by kernel_rfl) (by kernel_rfl) (by kernel_rfl) rfl (fun _ _ h_ => R.mvE rfl (by conv => lhs; whnf) (TL.nil h_)) ?_
        refine Plan.v 5 [6, 7, 8] (by kernel_rfl) (by kernel_rfl) (by kernel_rfl) (by kernel_rfl) rfl (fun _ _ h_ => R.mvE rfl (by conv => lhs; whnf) (TL.nil h_)) ?_
        obtain ⟨b22, o22, i22, e22⟩ := (hr2.mono s_0).elem (hy)
        refine Plan.v 6 [7, 8] (by kernel_rfl) (by kernel_rfl) (by kernel_rfl) (by kernel_rfl) rfl (fun _ _ h_ => R.ixp Tryz.underlying22 Tryz.sizeOf45 rfl rfl rfl (by omega) i22 (TL.nil h_)) ?_
        refine Plan.v 7 [8] (by kernel_rfl) (by kernel_rfl) (by kernel_rfl) (by kernel_rfl) rfl (fun _ _ h_ => R.ldP Tryz.isAgg45 Tryz.sizeOf45 rfl rfl (e22) (TL.nil h_)) ?_
        refine Plan.v 8 [] (by kernel_rfl) (by kernel_rfl) (by kernel_rfl) (by kernel_rfl) rfl (fun _ _ h_ => R.neP (a := a) (b := b) Tryzc_eqP Tryzc_eqG rfl rfl rfl (TL.nil h_)) ?_
        refine Plan.done (Post.thnN ?_)
        refine T.condD rfl (fun c24 => ?_) (fun c24 => ?_)
        · refine T.seq ?_
          refine T.region ?_
          refine R.asE rfl (by conv => lhs; whnf) ?_
          refine TL.nil (Post.thnN ?_)
          refine T.ret (Post.blkR (Post.thnR (Post.thnR (Post.blkR (Post.thnR ?_)))))
          -- way nyy
          exact fin1 rfl rfl ⟨rfl, congrArg Value.bool (decide_eq_false (ne_of_get hx hy c24)).symm⟩
        · refine T.skip (Post.blkN ?_)
          refine id (Post.thnN ?_)
          refine T.region ?_
          refine R.addI rfl rfl rfl (by omega) ?_
          refine R.mvE rfl (by conv => lhs; whnf) ?_
          refine TL.nil (Post.thnN ?_)
          -- round's end, way nyn
          exact ⟨k + 1, s_0, ⟨by omega, take_eq_of hw hx (by rw [hy]; exact congrArg some (Decidable.of_not_not c24).symm)⟩, by omega, ⟨rfl, rfl, rfl, rfl, trivial⟩⟩
      · refine T.exit (Post.thnE (Post.thnE (Post.blkX ?_)))
        refine id (Post.thnN ?_)
        refine T.seq ?_
        refine T.region ?_
        refine R.asE rfl (by conv => lhs; whnf) ?_
        refine TL.nil (Post.thnN ?_)
        refine T.ret ?_
        -- way nn
        obtain rfl : k = xs.length := by omega
        have e1 : xs = ys := by
          rw [List.take_length, show xs.length = ys.length by omega, List.take_length] at hw; exact hw
        exact fin1 rfl rfl ⟨rfl, congrArg Value.bool (decide_eq_true e1).symm⟩












end Go.SX

set_option linter.unusedVariables false
set_option linter.unusedSimpArgs false
namespace Go.SX
open Go Go.Proofs

set_option maxHeartbeats 1600000 in
theorem rWhy_c (H : Heap) (v : Value) (xs : List Lk) (hr : RdS pairE H v xs) (hl : xs.length ≤ 1000) : Fv Tryz.prog (fnv 14) [v] H (.int .i64 (ofDR xs).2) := by
  refine Fc.of_body (N := 21) Tryz.func14 rfl (by kernel_rfl) rfl rfl ?_
  intro w0
  obtain ⟨A, c, rfl, hc1, hc2, hr⟩ := hr.shape
  refine T.seq ?_
  refine T.region ?_
  refine R.asE rfl (by conv => lhs; whnf) ?_
  refine TL.nil (Post.thnN ?_)
  refine T.seq ?_
  refine T.seq ?_
  refine T.region ?_
  refine R.mvE rfl (by conv => lhs; whnf) ?_
  refine R.callv rfl rfl rfl (rright_c _ _ xs hr) ?_
  refine R.not rfl rfl ?_
  refine TL.nil (Post.thnN ?_)
  refine T.cond rfl (fun c7 => ?_) (fun c7 => ?_)
  · have hcb : chainB xs = false := by simpa using c7
    refine T.seq ?_
    refine T.region ?_
    refine R.asE rfl (by conv => lhs; whnf) ?_
    refine TL.nil (Post.thnN ?_)
    refine T.ret (Post.thnR ?_)
    -- way y
    exact fin1 rfl rfl ⟨rfl, congrArg (Value.int .i64) (by rw [ofDR_a hcb])⟩
  · have hcb : chainB xs = true := by simpa using c7
    refine T.skip (Post.thnN ?_)
    refine T.seq ?_
    refine T.seq ?_
    refine T.region ?_
    refine R.mvE rfl (by conv => lhs; whnf) ?_
    refine R.len Tryz.underlying22 rfl rfl ?_
    refine R.mvE rfl (by conv => lhs; whnf) ?_
    refine TL.nil (Post.thnN ?_)
    refine T.block ?_
    refine T.loop (ι := Nat) (fun k H' L' ds' => k ≤ xs.length ∧ L' = [] ∧ ds' = [] ∧ (xs.take k).any (fun y => leadsQ xs y.1 y.1) = false) (fun k => [(0, .slice A xs.length c), (8, .slice A xs.length c), (9, .int .i64 xs.length), (10, .int .i64 k)]) (fun k => xs.length - k) (0) ?_ ?_ ?_
    · exact ⟨Nat.zero_le _, rfl, rfl, rfl⟩
    · exact ⟨rfl, rfl, rfl, rfl, trivial⟩
    · intro k σ0 H_0 L_0 ds_0 s_0 hI_0
      obtain ⟨hk, rfl, rfl, hn⟩ := hI_0
      refine T.seq ?_
      refine T.region ?_
      refine R.lss rfl rfl rfl ?_
      refine TL.nil (Post.thnN ?_)
      refine T.seq ?_
      refine T.condD rfl (fun c11 => ?_) (fun c11 => ?_)
      · have hlt : k < xs.length := by omega
        obtain ⟨y, hy⟩ := getk hlt
        refine T.skip (Post.thnN ?_)
        refine T.seq ?_
        refine T.block ?_
        refine T.seq ?_
        refine T.region ?_
        obtain ⟨b12, o12, i12, e12⟩ := (hr.mono s_0).elem (hy)
        refine R.ixp Tryz.underlying22 Tryz.sizeOf45 rfl rfl rfl (by omega) i12 ?_
        refine R.ldP Tryz.isAgg45 Tryz.sizeOf45 rfl rfl (e12) ?_
        refine R.alloc Tryz.zeroValue45 rfl ?_
        intro b4
        refine R.stA (old := [.int .i64 0, .int .i64 0]) Tryz.sizeOf45 rfl rfl rfl rfl rfl (by intro v hv; simp at hv; rcases hv with rfl | rfl <;> rfl) .hd ?_
        refine TL.nil (Post.thnN ?_)
        refine T.seq ?_
        refine T.shut .hd ?_
        intro H4 s4 q4
        have h4 : H4 b4 = some (.cells #[.int .i64 y.1, .int .i64 y.2] 45) := shut1 q4
        refine T.region ?_
        refine R.mvE rfl (by conv => lhs; whnf) ?_
        refine R.fldA Tryz.underlying45 rfl Tryz.sizeOf3 (by decide) rfl rfl ?_
        refine R.ldH Tryz.isAgg3 rfl rfl (h4) rfl ?_
        refine R.fldA Tryz.underlying45 rfl Tryz.sizeOf3 (by decide) rfl rfl ?_
        refine R.ldH Tryz.isAgg3 rfl rfl (h4) rfl ?_
        refine R.callv rfl rfl rfl (rleads_c _ _ xs _ _ (hr.mono (s_0.trans s4)) hl) ?_
        refine TL.nil (Post.thnN ?_)
        refine T.cond rfl (fun c19 => ?_) (fun c19 => ?_)
        · have hany : xs.any (fun y => leadsQ xs y.1 y.1) = true := List.any_eq_true.2 ⟨y, List.mem_of_getElem? hy, c19⟩
          refine T.seq ?_
          refine T.region ?_
          refine R.asE rfl (by conv => lhs; whnf) ?_
          refine TL.nil (Post.thnN ?_)
          refine T.ret (Post.blkR (Post.thnR (Post.thnR (Post.blkR (Post.thnR ?_)))))
          -- way nyy
          exact fin1 rfl rfl ⟨rfl, congrArg (Value.int .i64) (by rw [why_any hcb, hany, if_pos rfl])⟩
        · refine T.skip (Post.blkN ?_)
          refine id (Post.thnN ?_)
          refine T.region ?_
          refine R.addI rfl rfl rfl (by omega) ?_
          refine R.mvE rfl (by conv => lhs; whnf) ?_
          refine TL.nil (Post.thnN ?_)
          -- round's end, way nyn
          exact ⟨k + 1, s_0.trans s4, ⟨by omega, rfl, rfl, by rw [take_snoc _ _ _ hy, List.any_append, hn]; simpa using c19⟩, by omega, ⟨rfl, rfl, rfl, rfl, trivial⟩⟩
      · have hkx : k = xs.length := by omega
        rw [hkx, List.take_length] at hn
        refine T.exit (Post.thnE (Post.thnE (Post.blkX ?_)))
        refine id (Post.thnN ?_)
        refine T.seq ?_
        refine T.region ?_
        refine R.asE rfl (by conv => lhs; whnf) ?_
        refine TL.nil (Post.thnN ?_)
        refine T.ret ?_
        -- way nn
        exact fin1 rfl rfl ⟨rfl, congrArg (Value.int .i64) (by rw [why_any hcb, hn, if_neg Bool.false_ne_true])⟩


set_option maxHeartbeats 1600000 in
theorem rOrder_c (H : Heap) (v u : Value) (d : List Lk) (xs : List Int) (hr : RdS pairE H v d) (hr2 : RdS (intE .i64) H u xs) (hl : xs.length ≤ 100000) : Fp Tryz.prog (fnv 24) [v, u] H (fun v' H' => RdS (intE .i64) H' v' (refO d xs)) := by
  refine Fc.of_body (N := 65) Tryz.func24 rfl (by kernel_rfl) rfl rfl ?_
  intro w0
  obtain ⟨A, c, rfl, hc1, hc2, hr⟩ := hr.shape
  obtain ⟨A2, c2, rfl, hc3, hc4, hr2⟩ := hr2.shape
  refine T.seq ?_
  refine T.region ?_
  refine R.asE rfl (by conv => lhs; whnf) ?_
  refine TL.nil (Post.thnN ?_)
  refine T.seq ?_
  refine T.region ?_
  refine R.asE rfl (by conv => lhs; whnf) ?_
  refine TL.nil (Post.thnN ?_)
  refine T.seq ?_
  refine T.seq ?_
  refine T.nilc ?_
  refine T.region ?_
  refine R.mvE rfl (by conv => lhs; whnf) ?_
  refine R.len Tryz.underlying24 rfl rfl ?_
  refine R.mvE rfl (by conv => lhs; whnf) ?_
  refine TL.nil (Post.thnN ?_)
  refine T.block ?_
  refine T.loop (ι := Nat × Value × Chunk) (fun ⟨k, vw, cw⟩ H' L' ds' => k ≤ xs.length ∧ L' = [cw] ∧ ds' = [] ∧ OwnS (intE .i64) 3 H' vw (refO d (xs.take k)) cw) (fun ⟨k, vw, cw⟩ => [(0, .slice A d.length c), (5, vw), (9, .slice A2 xs.length c2), (10, .int .i64 xs.length), (11, .int .i64 k)]) (fun ⟨k, vw, cw⟩ => xs.length - k) ((0, .slice none 0 0, [])) ?_ ?_ ?_
  · exact ⟨Nat.zero_le _, rfl, rfl, OwnS.nil⟩
  · exact ⟨rfl, rfl, rfl, rfl, rfl, trivial⟩
  · intro ⟨k, vw, cw⟩ σ0 H_0 L_0 ds_0 s_0 hI_0
    obtain ⟨hk, rfl, rfl, ho⟩ := hI_0
    have hol := refO_len d (xs.take k)
    refine T.seq ?_
    refine T.region ?_
    refine R.lss rfl rfl rfl ?_
    refine TL.nil (Post.thnN ?_)
    refine T.seq ?_
    refine T.condD rfl (fun c12 => ?_) (fun c12 => ?_)
    · have hlt : k < xs.length := by omega
      obtain ⟨y, hy⟩ := getk hlt
      obtain ⟨O, hO⟩ : ∃ O, O = refO d (xs.take k) := ⟨_, rfl⟩
      rw [← hO] at ho hol
      simp at hol
      obtain ⟨Aw, kw, hvw, hw1, hw2⟩ := ho.shape
      subst hvw
      refine T.skip (Post.thnN ?_)
      refine T.seq ?_
      refine T.block ?_
      refine T.seq ?_
      refine T.region ?_
      obtain ⟨b13, o13, i13, e13⟩ := (hr2.mono s_0).elem (hy)
      refine R.ixp Tryz.underlying24 Tryz.sizeOf3 rfl rfl rfl (by omega) i13 ?_
      refine R.ldC Tryz.isAgg3 rfl rfl (e13).int ?_
      refine R.asE rfl (by conv => lhs; whnf) ?_
      refine TL.nil (Post.thnN ?_)
      refine T.seq ?_
      refine T.region ?_
      refine R.asE rfl (by conv => lhs; whnf) ?_
      refine TL.nil (Post.thnN ?_)
      refine T.seq ?_
      refine T.block ?_
      refine T.loop (ι := Nat) (fun j H' L' ds' => j ≤ O.length ∧ L' = [cw] ∧ ds' = [] ∧ ∀ (i : Nat) z, i < j → O[i]? = some z → leO d z y) (fun j => [(0, .slice A d.length c), (5, .slice Aw O.length kw), (7, .int .i64 y), (8, .int .i64 j), (9, .slice A2 xs.length c2), (10, .int .i64 xs.length), (11, .int .i64 k)]) (fun j => O.length - j) (0) ?_ ?_ ?_
      · exact ⟨Nat.zero_le _, rfl, rfl, fun i z h => absurd h (Nat.not_lt_zero _)⟩
      · exact ⟨rfl, rfl, rfl, rfl, rfl, rfl, rfl, trivial⟩
      · intro j σ1 H_1 L_1 ds_1 s_1 hI_1
        obtain ⟨hj, rfl, rfl, hlow⟩ := hI_1
        have ho3 := ho.mono s_1
        refine T.seq ?_
        refine T.cut (ι := Unit) (fun _ H' L' ds' => L' = [cw] ∧ ds' = []) (fun _ => [(0, .slice A d.length c), (5, .slice Aw O.length kw), (7, .int .i64 y), (8, .int .i64 j), (9, .slice A2 xs.length c2), (10, .int .i64 xs.length), (11, .int .i64 k), (50, .bool (contB d O y j))]) ?_ ?_
        · refine T.region ?_
          refine R.mvE rfl (by conv => lhs; whnf) ?_
          refine R.mvE rfl (by conv => lhs; whnf) ?_
          refine R.len Tryz.underlying24 rfl rfl ?_
          refine R.lss rfl rfl rfl ?_
          refine R.mvE rfl (by conv => lhs; whnf) ?_
          refine TL.gsplitD 19 rfl (fun g19 => ?_) (fun g19 => ?_)
          · obtain ⟨z, hz⟩ := getk (xs := O) (k := j) (by omega)
            obtain ⟨b1, k1, cs1, l1, hce1, hve1, ix1, hR1, hcs1⟩ := ho3.elem hz
            obtain rfl : l1 = [.int .i64 z] := hR1
            subst hce1
            refine R.mvE rfl (by conv => lhs; whnf) ?_
            refine R.mvE rfl (by conv => lhs; whnf) ?_
            refine R.mvE rfl (by conv => lhs; whnf) ?_
            refine R.ixp Tryz.underlying24 Tryz.sizeOf3 rfl rfl rfl (by omega) ix1 ?_
            refine R.ld Tryz.isAgg3 rfl rfl .hd (hcs1 0 _ rfl) ?_
            refine R.callv rfl rfl rfl (rAt17_c _ _ d _ (hr.mono (s_0.trans s_1))) ?_
            refine R.mvE rfl (by conv => lhs; whnf) ?_
            refine R.mvE rfl (by conv => lhs; whnf) ?_
            refine R.callv rfl rfl rfl (rAt17_c _ _ d _ (hr.mono (s_0.trans s_1))) ?_
            refine R.lss rfl rfl rfl ?_
            refine R.mvE rfl (by conv => lhs; whnf) ?_
            refine TL.gsplitD 30 rfl (fun g30 => ?_) (fun g30 => ?_)
            · refine TL.off rfl rfl rfl ?_
              refine TL.off rfl rfl rfl ?_
              refine TL.off rfl rfl rfl ?_
              refine TL.off rfl rfl rfl ?_
              refine TL.off rfl rfl rfl ?_
              refine TL.off rfl rfl rfl ?_
              refine TL.off rfl rfl rfl ?_
              refine TL.off rfl rfl rfl ?_
              refine TL.off rfl rfl rfl ?_
              refine TL.off rfl rfl rfl ?_
              refine TL.off rfl rfl rfl ?_
              refine TL.offU rfl rfl ?_
              refine TL.offU rfl rfl ?_
              refine TL.offU rfl rfl ?_
              refine TL.offU rfl rfl ?_
              refine TL.offU rfl rfl ?_
              refine TL.offU rfl rfl ?_
              refine TL.off rfl rfl rfl ?_
              refine R.pkTE rfl rfl (by conv => lhs; whnf) ?_
              refine R.pkTE rfl rfl (by conv => lhs; whnf) ?_
              refine TL.nil (Post.thnN ?_)
              -- cut r6, way yy
              exact ⟨(), HLe.refl _, ⟨rfl, rfl⟩, rfl, rfl, rfl, rfl, rfl, rfl, rfl, congrArg Value.bool (by rw [contB_at hz, Bool.eq_iff_iff]; simp only [eq_self, decide_eq_true_eq, Bool.false_eq_true, false_iff, true_iff]; unfold leO; omega), trivial⟩
            · refine R.mvE rfl (by conv => lhs; whnf) ?_
              refine R.mvE rfl (by conv => lhs; whnf) ?_
              refine R.mvE rfl (by conv => lhs; whnf) ?_
              refine R.ixp Tryz.underlying24 Tryz.sizeOf3 rfl rfl rfl (by omega) ix1 ?_
              refine R.ld Tryz.isAgg3 rfl rfl .hd (hcs1 0 _ rfl) ?_
              refine R.callv rfl rfl rfl (rAt17_c _ _ d _ (hr.mono (s_0.trans s_1))) ?_
              refine R.mvE rfl (by conv => lhs; whnf) ?_
              refine R.mvE rfl (by conv => lhs; whnf) ?_
              refine R.callv rfl rfl rfl (rAt17_c _ _ d _ (hr.mono (s_0.trans s_1))) ?_
              refine R.eql rfl rfl rfl ?_
              refine R.mvE rfl (by conv => lhs; whnf) ?_
              refine TL.gsplitD 41 rfl (fun g41 => ?_) (fun g41 => ?_)
              · refine R.mvE rfl (by conv => lhs; whnf) ?_
                refine R.mvE rfl (by conv => lhs; whnf) ?_
                refine R.ixp Tryz.underlying24 Tryz.sizeOf3 rfl rfl rfl (by omega) ix1 ?_
                refine R.ld Tryz.isAgg3 rfl rfl .hd (hcs1 0 _ rfl) ?_
                refine R.mvE rfl (by conv => lhs; whnf) ?_
                refine R.leq rfl rfl rfl ?_
                refine R.pkTE rfl rfl (by conv => lhs; whnf) ?_
                refine R.pkFE rfl rfl (by conv => lhs; whnf) ?_
                refine R.pkTE rfl rfl (by conv => lhs; whnf) ?_
                refine TL.nil (Post.thnN ?_)
                -- cut r6, way yny
                exact ⟨(), HLe.refl _, ⟨rfl, rfl⟩, rfl, rfl, rfl, rfl, rfl, rfl, rfl, congrArg Value.bool (by rw [contB_at hz, Bool.eq_iff_iff]; simp only [eq_self, decide_eq_true_eq, Bool.false_eq_true, false_iff, true_iff]; unfold leO; omega), trivial⟩
              · refine TL.off rfl rfl rfl ?_
                refine TL.off rfl rfl rfl ?_
                refine TL.off rfl rfl rfl ?_
                refine TL.off rfl rfl rfl ?_
                refine TL.off rfl rfl rfl ?_
                refine TL.off rfl rfl rfl ?_
                refine R.pkFE rfl rfl (by conv => lhs; whnf) ?_
                refine R.pkFE rfl rfl (by conv => lhs; whnf) ?_
                refine R.pkTE rfl rfl (by conv => lhs; whnf) ?_
                refine TL.nil (Post.thnN ?_)
                -- cut r6, way ynn
                exact ⟨(), HLe.refl _, ⟨rfl, rfl⟩, rfl, rfl, rfl, rfl, rfl, rfl, rfl, congrArg Value.bool (by rw [contB_at hz, Bool.eq_iff_iff]; simp only [eq_self, decide_eq_true_eq, Bool.false_eq_true, false_iff, true_iff]; unfold leO; omega), trivial⟩
          · refine TL.off rfl rfl rfl ?_
            refine TL.off rfl rfl rfl ?_
            refine TL.off rfl rfl rfl ?_
            refine TL.off rfl rfl rfl ?_
            refine TL.off rfl rfl rfl ?_
            refine TL.off rfl rfl rfl ?_
            refine TL.off rfl rfl rfl ?_
            refine TL.off rfl rfl rfl ?_
            refine TL.off rfl rfl rfl ?_
            refine TL.off rfl rfl rfl ?_
            refine TL.off rfl rfl rfl ?_
            refine TL.offU rfl rfl ?_
            refine TL.offU rfl rfl ?_
            refine TL.offU rfl rfl ?_
            refine TL.offU rfl rfl ?_
            refine TL.offU rfl rfl ?_
            refine TL.offU rfl rfl ?_
            refine TL.offU rfl rfl ?_
            refine TL.offU rfl rfl ?_
            refine TL.offU rfl rfl ?_
            refine TL.offU rfl rfl ?_
            refine TL.offU rfl rfl ?_
            refine TL.offU rfl rfl ?_
            refine TL.offU rfl rfl ?_
            refine TL.offU rfl rfl ?_
            refine TL.offU rfl rfl ?_
            refine TL.offU rfl rfl ?_
            refine TL.offU rfl rfl ?_
            refine TL.offU rfl rfl ?_
            refine TL.off rfl rfl rfl ?_
            refine R.pkFE rfl rfl (by conv => lhs; whnf) ?_
            refine TL.nil (Post.thnN ?_)
            -- cut r6, way n
            exact ⟨(), HLe.refl _, ⟨rfl, rfl⟩, rfl, rfl, rfl, rfl, rfl, rfl, rfl, congrArg Value.bool (contB_no (List.getElem?_eq_none (by omega))).symm, trivial⟩
        · intro _ σ_r6 H_r6 L_r6 ds_r6 s_r6 hI_r6
          obtain ⟨rfl, rfl⟩ := hI_r6
          refine T.cond rfl (fun c50 => ?_) (fun c50 => ?_)
          · obtain ⟨z, hz⟩ : ∃ z, O[j]? = some z := by
              cases e : O[j]? with
              | some z => exact ⟨z, rfl⟩
              | none => rw [contB_no e] at c50; cases c50
            have hjl := (List.getElem?_eq_some_iff.1 hz).1
            rw [contB_at hz] at c50
            have c50 := of_decide_eq_true c50
            refine T.skip (Post.thnN ?_)
            refine T.block ?_
            refine T.region ?_
            refine R.mvE rfl (by conv => lhs; whnf) ?_
            refine R.addI rfl rfl rfl (by omega) ?_
            refine R.asE rfl (by conv => lhs; whnf) ?_
            refine TL.nil (Post.blkN ?_)
            refine id (Post.thnN ?_)
            -- round's end, way yy
            exact ⟨j + 1, s_1.trans s_r6, ⟨by omega, rfl, rfl, fun i z2 h1 h2 => if e : i = j then by subst e; rw [hz] at h2; injection h2 with h2; subst h2; exact c50 else hlow i z2 (by omega) h2⟩, by omega, ⟨rfl, rfl, rfl, rfl, rfl, rfl, rfl, trivial⟩⟩
          · have hstop : ∀ z, O[j]? = some z → ¬ leO d z y := fun z hz => by rw [contB_at hz] at c50; exact of_decide_eq_false c50
            have ho4 := ho3.mono s_r6
            have htl : (O.take j).length = j := by simp; omega
            refine T.exit (Post.thnE (Post.thnE (Post.blkX ?_)))
            refine id (Post.thnN ?_)
            refine T.draw Tryz_mixed (by kernel_rfl) ?_
            refine Plan.v 0 [1, 2, 3, 4, 5, 6, 7, 8, 9, 10] (by kernel_rfl) (by kernel_rfl) (by kernel_rfl) (by kernel_rfl) rfl (fun _ _ h_ => R.mvE rfl (by conv => lhs; whnf) (TL.nil h_)) ?_
            refine Plan.v 1 [2, 3, 4, 5, 6, 7, 8, 9, 10] (by kernel_rfl) (by kernel_rfl) (by kernel_rfl) (by kernel_rfl) rfl (fun _ _ h_ => R.mvE rfl (by conv => lhs; whnf) (TL.nil h_)) ?_
            refine Plan.v 2 [3, 4, 5, 6, 7, 8, 9, 10] (by kernel_rfl) (by kernel_rfl) (by kernel_rfl) (by kernel_rfl) rfl (fun _ _ h_ => R.sH Tryz.underlying24 Tryz.sizeOf3 rfl rfl rfl (by omega) (by omega) (TL.nil h_)) ?_
            refine Plan.set 55 (.slice Aw j kw) (slc_take0 (n := O.length) (i := j)) ?_
            refine Plan.v 3 [4, 5, 6, 7, 8, 9, 10] (by kernel_rfl) (by kernel_rfl) (by kernel_rfl) (by kernel_rfl) rfl (fun _ _ h_ => R.mvE rfl (by conv => lhs; whnf) (TL.nil h_)) ?_
            refine Plan.v 5 [4, 6, 7, 8, 9, 10] (by kernel_rfl) (by kernel_rfl) (by kernel_rfl) (by kernel_rfl) rfl (fun _ _ h_ => R.mvE rfl (by conv => lhs; whnf) (TL.nil h_)) ?_
            refine Plan.v 6 [4, 7, 8, 9, 10] (by kernel_rfl) (by kernel_rfl) (by kernel_rfl) (by kernel_rfl) rfl (fun _ _ h_ => R.mvE rfl (by conv => lhs; whnf) (TL.nil h_)) ?_
            refine Plan.v 7 [4, 8, 9, 10] (by kernel_rfl) (by kernel_rfl) (by kernel_rfl) (by kernel_rfl) rfl (fun _ _ h_ => R.sL Tryz.underlying24 Tryz.sizeOf3 rfl rfl rfl  (by omega) (by omega)  (TL.nil h_)) ?_
            refine Plan.s1 4 [8, 9, 10] (by kernel_rfl) (by kernel_rfl) rfl ?_
            refine R.bs rfl (run_buildSlice1 Tryz.underlying24 Tryz.sizeOf3 Tryz.zeroValue3 rfl rfl) ?_
            intro b57
            refine TL.nil (Plan.e1 (HLe.refl _) ?_)
            refine Plan.s1 8 [9, 10] (by kernel_rfl) (by kernel_rfl) rfl ?_
            obtain ⟨cs61, y61, r61⟩ := Src.ownDrop (L := [[(b57, .cells #[.int .i64 y] 3)], cw]) (m := kw) ho4 (.tl .hd) hj hw1
            refine R.app (xs := [y]) (ys := O.drop j) Tryz_ty24 rfl rfl rfl (OwnS.one (E := (intE .i64)) (e := 3) (H := H_r6) (b := b57) (x := y) rfl rfl) .hd r61 y61 (by simp; omega) (by simp; omega) ?_
            intro v61 c61 w61
            refine TL.nil (Plan.e1 (HLe.refl _) ?_)
            refine Plan.s1 9 [10] (by kernel_rfl) (by kernel_rfl) rfl ?_
            obtain ⟨cs62, y62, r62⟩ := Src.own (L := [c61, cw]) w61 .hd
            refine R.app (xs := O.take j) Tryz_ty24 rfl rfl rfl (own_take0 ho4 hj) (.tl .hd) r62 y62 (by simp; omega) (by simp; omega) ?_
            intro v62 c62 w62
            refine TL.del (.tl .hd) ?_
            refine TL.nil (Plan.e1 (HLe.refl _) ?_)
            refine Plan.s1 10 [] (by kernel_rfl) (by kernel_rfl) rfl ?_
            refine R.asE rfl (by conv => lhs; whnf) ?_
            refine TL.nil (Plan.e1 (HLe.refl _) ?_)
            refine Plan.done (Post.blkN ?_)
            refine id (Post.thnN ?_)
            refine T.region ?_
            refine R.addI rfl rfl rfl (by omega) ?_
            refine R.mvE rfl (by conv => lhs; whnf) ?_
            refine TL.nil (Post.thnN ?_)
            -- round's end, way yn
            exact ⟨(k + 1, v62, c62), s_0.trans (s_1.trans s_r6), ⟨by show k + 1 ≤ _; omega, rfl, rfl, by rw [refO_snoc hy, ← hO, insO_at hlow hstop hj, List.append_assoc]; exact w62⟩, by show xs.length - (k + 1) < xs.length - k; omega, ⟨rfl, rfl, rfl, rfl, rfl, trivial⟩⟩
    · have hkx : k = xs.length := by omega
      rw [hkx, List.take_length] at ho
      refine T.exit (Post.thnE (Post.thnE (Post.blkX ?_)))
      refine id (Post.thnN ?_)
      refine T.seq ?_
      refine T.shut .hd ?_
      intro HF sF qF
      have hf := ho.read sF qF
      refine T.region ?_
      refine R.mvE rfl (by conv => lhs; whnf) ?_
      refine R.asE rfl (by conv => lhs; whnf) ?_
      refine TL.nil (Post.thnN ?_)
      refine T.ret ?_
      -- way n
      exact fin1 rfl rfl ⟨rfl, hf⟩


set_option maxHeartbeats 1600000 in
theorem dsame_c (H : Heap) (v u : Value) (d xs : List Lk) (m : Lk) (hrd : RdS pairE H v d) (hr : RdS pairE H u xs) (hl : xs.length ≤ 500) : Fv Tryz.prog (fnv 80) [v, u, .agg #[.int .i64 m.1, .int .i64 m.2]] H (.int .i64 (sameR d xs m)) := by
  refine Fc.of_body (N := 31) Tryz.func80 rfl (by kernel_rfl) rfl rfl ?_
  intro w0
  refine T.seq ?_
  refine T.region ?_
  refine R.box rfl (by conv => lhs; whnf) ?_
  intro b5
  refine R.asE rfl (by conv => lhs; whnf) ?_
  refine TL.nil (Post.thnN ?_)
  refine T.seq ?_
  refine T.shut .hd ?_
  intro H5 s5 q5
  have h5 : H5 b5 = some (.cells #[.int .i64 m.1, .int .i64 m.2] 45) := shut1 q5
  refine T.region ?_
  refine R.mvE rfl (by conv => lhs; whnf) ?_
  refine R.callp rfl rfl rfl (dOf_c _ _ xs (hr.mono s5) (by omega)) ?_
  intro v13 H13 s13 q13
  obtain ⟨w13, rfl, g13⟩ := q13
  refine R.mvE rfl (by conv => lhs; whnf) ?_
  refine R.ext rfl rfl rfl ?_
  refine R.ext rfl rfl rfl ?_
  refine R.asE rfl (by conv => lhs; whnf) ?_
  refine R.asE rfl (by conv => lhs; whnf) ?_
  refine TL.nil (Post.thnN ?_)
  refine T.seq ?_
  refine T.seq ?_
  refine T.region ?_
  refine R.mvE rfl (by conv => lhs; whnf) ?_
  refine R.neq rfl rfl rfl ?_
  refine TL.nil (Post.thnN ?_)
  refine T.condD rfl (fun c17 => ?_) (fun c17 => ?_)
  · refine T.seq ?_
    refine T.region ?_
    refine R.mvE rfl (by conv => lhs; whnf) ?_
    refine R.asE rfl (by conv => lhs; whnf) ?_
    refine TL.nil (Post.thnN ?_)
    refine T.ret (Post.thnR ?_)
    -- way y
    exact fin1 rfl rfl ⟨rfl, congrArg (Value.int .i64) (by unfold sameR; rw [if_pos c17])⟩
  · refine T.skip (Post.thnN ?_)
    refine T.seq ?_
    refine T.seq ?_
    refine T.region ?_
    refine R.mvE rfl (by conv => lhs; whnf) ?_
    refine R.mvE rfl (by conv => lhs; whnf) ?_
    refine R.callv rfl rfl rfl (equalD_c _ _ _ _ _ (hrd.mono (s5.trans s13)) g13) ?_
    refine R.not rfl rfl ?_
    refine TL.nil (Post.thnN ?_)
    refine T.cond rfl (fun c22 => ?_) (fun c22 => ?_)
    · have hne : d ≠ (ofDR xs).1 := by simpa using c22
      refine T.seq ?_
      refine T.region ?_
      refine R.asE rfl (by conv => lhs; whnf) ?_
      refine TL.nil (Post.thnN ?_)
      refine T.ret (Post.thnR ?_)
      -- way ny
      exact fin1 rfl rfl ⟨rfl, congrArg (Value.int .i64) (by unfold sameR; rw [if_neg c17, if_pos hne])⟩
    · have heq : d = (ofDR xs).1 := by simpa using c22
      refine T.skip (Post.thnN ?_)
      refine T.seq ?_
      refine T.seq ?_
      refine T.region ?_
      refine R.ldAH Tryz.isAgg45 Tryz.sizeOf45 rfl rfl rfl (s13 _ _ h5) ?_
      refine R.bs (e := 45) (cs := [.int .i64 m.1, .int .i64 m.2]) rfl (fun _ => by kernel_rfl) ?_
      intro b25
      refine TL.shut .hd ?_
      intro H25 s25 q25
      have l25 : RdS pairE H25 _ [m] := RdS.litP [m] q25 rfl
      refine R.callp rfl rfl rfl (of_c _ _ [m] l25 (by simp)) ?_
      intro v26 H26 s26 q26
      obtain ⟨w26, rfl, g26⟩ := q26
      refine R.mvE rfl (by conv => lhs; whnf) ?_
      refine R.ext rfl rfl rfl ?_
      refine R.ext rfl rfl rfl ?_
      refine R.asE rfl (by conv => lhs; whnf) ?_
      refine R.asE rfl (by conv => lhs; whnf) ?_
      refine TL.nil (Post.thnN ?_)
      refine T.seq ?_
      refine T.region ?_
      refine R.mvE rfl (by conv => lhs; whnf) ?_
      refine R.neq rfl rfl rfl ?_
      refine TL.nil (Post.thnN ?_)
      refine T.condD rfl (fun c30 => ?_) (fun c30 => ?_)
      · have hlk : linkB m = false := by
          cases h : linkB m with
          | false => rfl
          | true => rw [ofR_one, h] at c30; exact absurd rfl c30
        refine T.seq ?_
        refine T.region ?_
        refine R.asE rfl (by conv => lhs; whnf) ?_
        refine TL.nil (Post.thnN ?_)
        refine T.ret (Post.thnR ?_)
        -- way nny
        exact fin1 rfl rfl ⟨rfl, congrArg (Value.int .i64) (by unfold sameR; rw [if_neg c17, if_neg (fun h => h heq), if_pos hlk])⟩
      · have hlk : linkB m = true := by
          cases h : linkB m with
          | true => rfl
          | false => rw [ofR_one, h] at c30; exact absurd c30 (by decide)
        refine T.skip (Post.thnN ?_)
        refine T.seq ?_
        refine T.region ?_
        refine R.asE rfl (by conv => lhs; whnf) ?_
        refine TL.nil (Post.thnN ?_)
        refine T.ret ?_
        -- way nnn
        exact fin1 rfl rfl ⟨rfl, congrArg (Value.int .i64) (by unfold sameR; rw [if_neg c17, if_neg (fun h => h heq), if_neg (by rw [hlk]; simp)])⟩


set_option maxHeartbeats 1600000 in
theorem danew_c (H : Heap) (v u : Value) (d xs : List Lk) (a : Int) (hrd : RdS pairE H v d) (hr : RdS pairE H u xs) (hA : Acyc xs) (hl : xs.length ≤ 1000) (hld : d.length ≤ 100000) (hkeep : ∀ y ∈ d, y.1 ∉ (wavesL true xs a).flatten → y.2 = depL xs y.1) : Fc Tryz.prog (fnv 82) [v, u, .int .i64 a] H [] (fun v' H' L' => ∃ c, L' = [c] ∧ OwnS pairE 29 H' v' (ofD xs) c) := by
  refine Fc.of_body (N := 87) Tryz.func82 rfl (by kernel_rfl) rfl rfl ?_
  intro w0
  obtain ⟨A, c, rfl, hc1, hc2, hr⟩ := hr.shape
  obtain ⟨A2, c2, rfl, hc3, hc4, hrd⟩ := hrd.shape
  have hall := all_len xs
  refine T.seq ?_
  refine T.region ?_
  refine R.asE rfl (by conv => lhs; whnf) ?_
  refine TL.nil (Post.thnN ?_)
  refine T.seq ?_
  refine T.region ?_
  refine R.mkm rfl ?_
  intro b20
  refine R.asE rfl (by conv => lhs; whnf) ?_
  refine TL.nil (Post.thnN ?_)
  refine T.seq ?_
  refine T.seq ?_
  refine T.region ?_
  refine R.mvE rfl (by conv => lhs; whnf) ?_
  refine R.mvE rfl (by conv => lhs; whnf) ?_
  refine R.callp rfl rfl rfl (cwaves_c _ _ xs a hr hl true) ?_
  intro v23 H23 s23 q23
  obtain ⟨A23, c23, rfl, m23, n23, q23⟩ := q23.shape
  refine R.len Tryz.underlying114 rfl rfl ?_
  refine R.mvE rfl (by conv => lhs; whnf) ?_
  refine TL.nil (Post.thnN ?_)
  refine T.block ?_
  refine T.loop (ι := Nat × Array MapEntry × Nat × MapL) (fun ⟨k, es, ck, m⟩ H' L' ds' => k ≤ (wavesL true xs a).length ∧ ds' = [] ∧ L' = [[(b20, .map es ck)]] ∧ MapIs .i64 es m ∧ MetIs m ((wavesL true xs a).take k).flatten) (fun ⟨k, es, ck, m⟩ => [(0, .slice A2 d.length c2), (1, .slice A xs.length c), (7, .map (some b20)), (23, .slice A23 (wavesL true xs a).length c23), (24, .int .i64 (wavesL true xs a).length), (25, .int .i64 k)]) (fun ⟨k, es, ck, m⟩ => (wavesL true xs a).length - k) ((0, #[], 0, [])) ?_ ?_ ?_
  · exact ⟨Nat.zero_le _, rfl, rfl, mapIs_nil _, MetIs.nil⟩
  · exact ⟨rfl, rfl, rfl, rfl, rfl, rfl, trivial⟩
  · intro ⟨k, es, ck, m⟩ σ0 H_0 L_0 ds_0 s_0 hI_0
    obtain ⟨hk, rfl, rfl, hm, hM⟩ := hI_0
    refine T.seq ?_
    refine T.region ?_
    refine R.lss rfl rfl rfl ?_
    refine TL.nil (Post.thnN ?_)
    refine T.seq ?_
    refine T.condD rfl (fun c26 => ?_) (fun c26 => ?_)
    · have hlt : k < (wavesL true xs a).length := by omega
      obtain ⟨w, hw⟩ := getk hlt
      refine T.skip (Post.thnN ?_)
      refine T.seq ?_
      refine T.block ?_
      refine T.seq ?_
      refine T.region ?_
      obtain ⟨b27, o27, i27, e27⟩ := (q23.mono s_0).elem (hw)
      refine R.ixp Tryz.underlying114 Tryz.sizeOf24 rfl rfl rfl (by omega) i27 ?_
      obtain ⟨v28, k28, r28⟩ := (e27).sl
      obtain ⟨A28, c28, rfl, m28, n28, r28⟩ := r28.shape
      refine R.ldC Tryz.isAgg24 rfl rfl k28 ?_
      refine R.asE rfl (by conv => lhs; whnf) ?_
      refine TL.nil (Post.thnN ?_)
      refine T.seq ?_
      refine T.region ?_
      refine R.mvE rfl (by conv => lhs; whnf) ?_
      refine R.len Tryz.underlying24 rfl rfl ?_
      refine R.mvE rfl (by conv => lhs; whnf) ?_
      refine TL.nil (Post.thnN ?_)
      refine T.block ?_
      refine T.loop (ι := Nat × Array MapEntry × Nat × MapL) (fun ⟨i, es2, ck2, m2⟩ H' L' ds' => i ≤ w.length ∧ ds' = [] ∧ L' = [[(b20, .map es2 ck2)]] ∧ MapIs .i64 es2 m2 ∧ MetIs m2 (((wavesL true xs a).take k).flatten ++ w.take i)) (fun ⟨i, es2, ck2, m2⟩ => [(0, .slice A2 d.length c2), (1, .slice A xs.length c), (7, .map (some b20)), (9, .slice A28 w.length c28), (23, .slice A23 (wavesL true xs a).length c23), (24, .int .i64 (wavesL true xs a).length), (25, .int .i64 k), (29, .slice A28 w.length c28), (30, .int .i64 w.length), (31, .int .i64 i)]) (fun ⟨i, es2, ck2, m2⟩ => w.length - i) ((0, es, ck, m)) ?_ ?_ ?_
      · exact ⟨Nat.zero_le _, rfl, rfl, hm, by rw [List.take_zero, List.append_nil]; exact hM⟩
      · exact ⟨rfl, rfl, rfl, rfl, rfl, rfl, rfl, rfl, rfl, rfl, trivial⟩
      · intro ⟨i, es2, ck2, m2⟩ σ1 H_1 L_1 ds_1 s_1 hI_1
        obtain ⟨hi, rfl, rfl, hm2, hM2⟩ := hI_1
        refine T.seq ?_
        refine T.region ?_
        refine R.lss rfl rfl rfl ?_
        refine TL.nil (Post.thnN ?_)
        refine T.seq ?_
        refine T.condD rfl (fun c32 => ?_) (fun c32 => ?_)
        · have hlt2 : i < w.length := by omega
          obtain ⟨v, hv⟩ := getk hlt2
          refine T.skip (Post.thnN ?_)
          refine T.seq ?_
          refine T.block ?_
          refine T.seq ?_
          refine T.region ?_
          obtain ⟨b33, o33, i33, e33⟩ := (r28.mono s_1).elem (hv)
          refine R.ixp Tryz.underlying24 Tryz.sizeOf3 rfl rfl rfl (by omega) i33 ?_
          refine R.ldC Tryz.isAgg3 rfl rfl (e33).int ?_
          refine R.asE rfl (by conv => lhs; whnf) ?_
          refine TL.nil (Post.thnN ?_)
          refine T.region ?_
          refine R.mvE rfl (by conv => lhs; whnf) ?_
          refine R.mvE rfl (by conv => lhs; whnf) ?_
          refine R.mup Tryz.underlying157 Tryz.underlying3 rfl rfl rfl rfl .hd hm2 ?_
          intro es36 ck36 i36
          refine TL.nil (Post.blkN ?_)
          refine id (Post.thnN ?_)
          refine T.region ?_
          refine R.addI rfl rfl rfl (by omega) ?_
          refine R.mvE rfl (by conv => lhs; whnf) ?_
          refine TL.nil (Post.thnN ?_)
          -- round's end, way yy
          exact ⟨(i + 1, es36, ck36, mput m2 v (.bool true)), s_1, ⟨by show i + 1 ≤ _; omega, rfl, rfl, i36, by rw [flat_snoc hv]; exact hM2.put v⟩, by show w.length - (i + 1) < w.length - i; omega, ⟨rfl, rfl, rfl, rfl, rfl, rfl, rfl, rfl, rfl, rfl, trivial⟩⟩
        · refine T.exit (Post.thnE (Post.thnE (Post.blkX ?_)))
          refine id (Post.blkN ?_)
          refine id (Post.thnN ?_)
          refine T.region ?_
          refine R.addI rfl rfl rfl (by omega) ?_
          refine R.mvE rfl (by conv => lhs; whnf) ?_
          refine TL.nil (Post.thnN ?_)
          -- round's end, way yn
          have hfull : i = w.length := by omega
          rw [hfull, List.take_length] at hM2
          exact ⟨(k + 1, es2, ck2, m2), s_0.trans s_1, ⟨by show k + 1 ≤ _; omega, rfl, rfl, hm2, by rw [take_snoc _ _ _ hw, List.flatten_append, List.flatten_cons, List.flatten_nil, List.append_nil]; exact hM2⟩, by show (wavesL true xs a).length - (k + 1) < (wavesL true xs a).length - k; omega, ⟨rfl, rfl, rfl, rfl, rfl, rfl, trivial⟩⟩
    · have hkx : k = (wavesL true xs a).length := by omega
      rw [hkx, List.take_length] at hM
      refine T.exit (Post.thnE (Post.thnE (Post.blkX ?_)))
      refine id (Post.thnN ?_)
      refine T.seq ?_
      refine T.region ?_
      refine R.mkm rfl ?_
      intro b39
      refine R.alloc Tryz.zeroValue93 rfl ?_
      intro b12
      refine R.st Tryz.sizeOf93 rfl rfl (by conv => lhs; whnf) rfl (by first | exact .hd | exact .tl .hd | exact .tl (.tl .hd) | exact .tl (.tl (.tl .hd)) | exact .tl (.tl (.tl (.tl .hd))) | exact .tl (.tl (.tl (.tl (.tl .hd)))) | exact .tl (.tl (.tl (.tl (.tl (.tl .hd))))) | exact .tl (.tl (.tl (.tl (.tl (.tl (.tl .hd)))))) | exact .tl (.tl (.tl (.tl (.tl (.tl (.tl (.tl .hd))))))) | exact .tl (.tl (.tl (.tl (.tl (.tl (.tl (.tl (.tl .hd))))))))) ?_
      refine TL.nil (Post.thnN ?_)
      refine T.seq ?_
      refine T.shut .hd ?_
      intro H12 s12 q12
      have h12 : H12 b12 = some (.cells #[.map (some b39)] 93) := shut1 q12
      refine T.region ?_
      refine R.mvE rfl (by conv => lhs; whnf) ?_
      refine R.callp rfl rfl rfl (outs_c _ _ xs (hr.mono (s23.trans (s_0.trans s12))) hA.1 hl) ?_
      intro v41 H41 s41 q41
      obtain ⟨b41, es41, ck41, m41, rfl, hb41, hm41, hAt41⟩ := q41
      refine R.asE rfl (by conv => lhs; whnf) ?_
      refine TL.nil (Post.thnN ?_)
      refine T.seq ?_
      refine T.seq ?_
      refine T.region ?_
      refine R.mvE rfl (by conv => lhs; whnf) ?_
      refine R.len Tryz.underlying23 rfl rfl ?_
      refine R.mvE rfl (by conv => lhs; whnf) ?_
      refine TL.nil (Post.thnN ?_)
      refine T.block ?_
      refine T.loop (ι := Nat × Array MapEntry × Nat × MapL) (fun ⟨j, es2, ck2, m2⟩ H' L' ds' => j ≤ d.length ∧ ds' = [] ∧ L' = [[(b39, .map es2 ck2)], [(b20, .map es ck)]] ∧ MapIs .i64 es2 m2 ∧ KOK xs m2) (fun ⟨j, es2, ck2, m2⟩ => [(0, .slice A2 d.length c2), (1, .slice A xs.length c), (7, .map (some b20)), (12, .pointer (some ⟨b12, 0, none⟩)), (13, .map (some b41)), (42, .slice A2 d.length c2), (43, .int .i64 d.length), (44, .int .i64 j)]) (fun ⟨j, es2, ck2, m2⟩ => d.length - j) ((0, #[], 0, [])) ?_ ?_ ?_
      · exact ⟨Nat.zero_le _, rfl, rfl, mapIs_nil _, KOK.nil xs⟩
      · exact ⟨rfl, rfl, rfl, rfl, rfl, rfl, rfl, rfl, trivial⟩
      · intro ⟨j, es2, ck2, m2⟩ σ2 H_2 L_2 ds_2 s_2 hI_2
        obtain ⟨hj, rfl, rfl, hm2, hK2⟩ := hI_2
        refine T.seq ?_
        refine T.region ?_
        refine R.lss rfl rfl rfl ?_
        refine TL.nil (Post.thnN ?_)
        refine T.seq ?_
        refine T.condD rfl (fun c45 => ?_) (fun c45 => ?_)
        · have hlt : j < d.length := by omega
          obtain ⟨y, hy⟩ := getk hlt
          refine T.skip (Post.thnN ?_)
          refine T.seq ?_
          refine T.block ?_
          refine T.seq ?_
          refine T.region ?_
          obtain ⟨b46, o46, i46, e46⟩ := (hrd.mono (s23.trans (s_0.trans (s12.trans (s41.trans s_2))))).elem (hy)
          refine R.ixp Tryz.underlying23 Tryz.sizeOf29 rfl rfl rfl (by omega) i46 ?_
          refine R.ldP Tryz.isAgg29 Tryz.sizeOf29 rfl rfl (e46) ?_
          refine R.alloc Tryz.zeroValue29 rfl ?_
          intro b15
          refine R.stA (old := [.int .i64 0, .int .i64 0]) Tryz.sizeOf29 rfl rfl rfl rfl rfl (by intro v hv; simp at hv; rcases hv with rfl | rfl <;> rfl) .hd ?_
          refine TL.nil (Post.thnN ?_)
          refine T.seq ?_
          refine T.shut .hd ?_
          intro H15 s15 q15
          have h15 : H15 b15 = some (.cells #[.int .i64 y.1, .int .i64 y.2] 29) := shut1 q15
          refine T.region ?_
          refine R.mvE rfl (by conv => lhs; whnf) ?_
          refine R.fldA Tryz.underlying29 rfl Tryz.sizeOf3 (by decide) rfl rfl ?_
          refine R.ldH Tryz.isAgg3 rfl rfl (h15) rfl ?_
          refine R.lku Tryz.underlying157 Tryz.underlying3 Tryz.zeroValue4 rfl rfl rfl (.tl .hd) hm ?_
          refine TL.set 51 (.bool (decide (y.1 ∈ (wavesL true xs a).flatten))) (hM y.1) ?_
          refine R.notD rfl rfl ?_
          refine TL.nil (Post.thnN ?_)
          refine T.condD rfl (fun c52 => ?_) (fun c52 => ?_)
          · refine T.region ?_
            refine R.ldH Tryz.isAgg93 rfl rfl (((s41.trans (s_2.trans s15)) _ _ h12)) rfl ?_
            refine R.fldA Tryz.underlying29 rfl Tryz.sizeOf3 (by decide) rfl rfl ?_
            refine R.ldH Tryz.isAgg3 rfl rfl (h15) rfl ?_
            refine R.fldA Tryz.underlying29 rfl Tryz.sizeOf3 (by decide) rfl rfl ?_
            refine R.ldH Tryz.isAgg3 rfl rfl (h15) rfl ?_
            refine R.mup Tryz.underlying93 Tryz.underlying3 rfl rfl rfl rfl .hd hm2 ?_
            intro es57 ck57 i57
            refine TL.nil (Post.blkN ?_)
            refine id (Post.thnN ?_)
            refine T.region ?_
            refine R.addI rfl rfl rfl (by omega) ?_
            refine R.mvE rfl (by conv => lhs; whnf) ?_
            refine TL.nil (Post.thnN ?_)
            -- round's end, way nyy
            exact ⟨(j + 1, es57, ck57, mput m2 y.1 (.int .i64 y.2)), s_2.trans s15, ⟨by show j + 1 ≤ _; omega, rfl, rfl, i57, hK2.put (hkeep y (List.mem_of_getElem? hy) c52)⟩, by show d.length - (j + 1) < d.length - j; omega, ⟨rfl, rfl, rfl, rfl, rfl, rfl, rfl, rfl, trivial⟩⟩
          · refine T.skip (Post.blkN ?_)
            refine id (Post.thnN ?_)
            refine T.region ?_
            refine R.addI rfl rfl rfl (by omega) ?_
            refine R.mvE rfl (by conv => lhs; whnf) ?_
            refine TL.nil (Post.thnN ?_)
            -- round's end, way nyn
            exact ⟨(j + 1, es2, ck2, m2), s_2.trans s15, ⟨by show j + 1 ≤ _; omega, rfl, rfl, hm2, hK2⟩, by show d.length - (j + 1) < d.length - j; omega, ⟨rfl, rfl, rfl, rfl, rfl, rfl, rfl, rfl, trivial⟩⟩
        · refine T.exit (Post.thnE (Post.thnE (Post.blkX ?_)))
          refine id (Post.thnN ?_)
          refine T.seq ?_
          refine T.seq ?_
          refine T.draw Tryz_mixed (by kernel_rfl) ?_
          refine Plan.v 0 [1, 2, 3, 4] (by kernel_rfl) (by kernel_rfl) (by kernel_rfl) (by kernel_rfl) rfl (fun _ _ h_ => R.mvE rfl (by conv => lhs; whnf) (TL.nil h_)) ?_
          refine Plan.v 1 [2, 3, 4] (by kernel_rfl) (by kernel_rfl) (by kernel_rfl) (by kernel_rfl) rfl (fun _ _ h_ => R.mvE rfl (by conv => lhs; whnf) (TL.nil h_)) ?_
          refine Plan.v 3 [2, 4] (by kernel_rfl) (by kernel_rfl) (by kernel_rfl) (by kernel_rfl) rfl (fun _ _ h_ => R.ldH Tryz.isAgg93 rfl rfl (((s41.trans s_2) _ _ h12)) rfl (TL.nil h_)) ?_
          refine Plan.s1 2 [4] (by kernel_rfl) (by kernel_rfl) rfl ?_
          refine TL.call [] rfl rfl rfl (all_c _ _ xs (hr.mono (s23.trans (s_0.trans (s12.trans (s41.trans s_2))))) hl) ?_
          intro v61 H61 L61 s61 q61
          obtain ⟨c61, rfl, w61⟩ := q61
          refine TL.shut .hd ?_
          intro HF61 sF61 qF61
          have f61 := w61.read sF61 qF61
          refine TL.nil (Plan.e1 ((s61.trans sF61)) ?_)
          refine Plan.s1 4 [] (by kernel_rfl) (by kernel_rfl) rfl ?_
          refine R.callp rfl rfl rfl (rises_c _ b39 b41 es41 ck41 m41 xs ((s_2.trans (s61.trans sF61)) _ _ hb41) hm41 (fun j => (hAt41 j).mono (s_2.trans (s61.trans sF61))) hA hl _ (allL xs) f61 (fun n hn => all_pos hA hn)) ?_
          intro v63 H63 s63 q63
          obtain ⟨lb, rfl, hit⟩ := q63
          refine TL.nil (Plan.e1 (s63) ?_)
          refine Plan.done (Post.thnN ?_)
          refine T.block ?_
          refine T.rangeFuncR rfl rfl (enters_of Tryz.func131 (by kernel_rfl) rfl) hit (fun _ _ _ h => by subst h; rfl) rfl (fun pre H' L' => L' = [[(b20, .map es ck)]]) (fun c pre H' L' => False) (fun _ _ _ _ _ h => h) (fun _ _ _ _ _ _ h => h) (⟨es2, ck2, m2, rfl, hm2, hK2, fun y h => by simp at h⟩) ?_ ?_ ?_ ?_
          · rfl
          · intro l0 r0 w0 pre y vs Hr0 cR0 Lr0 sr0 hp0 hI0 hR0 hY0
            obtain rfl := hI0
            obtain rfl := hY0
            obtain ⟨es3, ck3, m3, rfl, hm3, hK3, hn3⟩ := hR0
            have hyd : y.2 = depL xs y.1 := by
              obtain ⟨n, hn, e⟩ := List.mem_map.1 (hp0.subset (List.mem_append_right _ (List.mem_singleton.2 rfl)))
              rw [← e]
            refine T.region ?_
            refine R.alloc Tryz.zeroValue29 rfl ?_
            intro b16
            refine R.stA (old := [.int .i64 0, .int .i64 0]) Tryz.sizeOf29 rfl rfl rfl rfl rfl (by intro v hv; simp at hv; rcases hv with rfl | rfl <;> rfl) .hd ?_
            refine TL.nil ?_
            refine onlyN.mk ?_
            refine T.block ?_
            refine T.shut .hd ?_
            intro H16 s16 q16
            have h16 : H16 b16 = some (.cells #[.int .i64 y.1, .int .i64 y.2] 29) := shut1 q16
            refine T.region ?_
            refine R.ldH Tryz.isAgg93 rfl rfl (((s41.trans (s_2.trans (s61.trans (sF61.trans (s63.trans (sr0.trans s16)))))) _ _ h12)) rfl ?_
            refine R.fldA Tryz.underlying29 rfl Tryz.sizeOf3 (by decide) rfl rfl ?_
            refine R.ldH Tryz.isAgg3 rfl rfl (h16) rfl ?_
            refine R.fldA Tryz.underlying29 rfl Tryz.sizeOf3 (by decide) rfl rfl ?_
            refine R.ldH Tryz.isAgg3 rfl rfl (h16) rfl ?_
            refine R.mup Tryz.underlying93 Tryz.underlying3 rfl rfl rfl rfl .hd hm3 ?_
            intro es69 ck69 i69
            refine TL.nil (Post.blkN ?_)
            refine id ?_
            -- way nnb
            exact ⟨_, _, rfl, ⟨es69, ck69, _, rfl, i69, hK3.put hyd, fun z hz => KLe.put m3 y.1 _ z.1 (hn3 z hz)⟩, rfl⟩
          · intro D0 Hr0 cR0 Lr0 sr0 hR0 hI0
            obtain rfl := hI0
            obtain ⟨es4, ck4, m4, rfl, hm4, hK4, hn4⟩ := hR0
            refine id (Post.blkN ?_)
            refine id (Post.thnN ?_)
            refine T.seq ?_
            refine T.region ?_
            refine R.asE rfl (by conv => lhs; whnf) ?_
            refine TL.nil (Post.thnN ?_)
            refine T.seq ?_
            refine T.seq ?_
            refine T.nilc ?_
            refine T.region ?_
            refine R.mvE rfl (by conv => lhs; whnf) ?_
            refine TL.call [] rfl rfl rfl (all_c _ _ xs (hr.mono (s23.trans (s_0.trans (s12.trans (s41.trans (s_2.trans (s61.trans (sF61.trans (s63.trans sr0))))))))) hl) ?_
            intro v71 H71 L71 s71 q71
            obtain ⟨c71, rfl, w71⟩ := q71
            refine TL.shut .hd ?_
            intro HF71 sF71 qF71
            have f71 := w71.read sF71 qF71
            obtain ⟨A71, k71, hv71, m71, n71, f71⟩ := f71.shape
            refine TL.set 71 (.slice A71 (allL xs).length k71) hv71 ?_
            refine R.len Tryz.underlying24 rfl rfl ?_
            refine R.mvE rfl (by conv => lhs; whnf) ?_
            refine TL.nil (Post.thnN ?_)
            refine T.block ?_
            refine T.loop (ι := Nat × Value × Chunk) (fun ⟨q, vw, cw⟩ H' L' ds' => q ≤ (allL xs).length ∧ ds' = [D0] ∧ L' = [cw, [(b39, .map es4 ck4)], [(b20, .map es ck)]] ∧ OwnS pairE 29 H' vw (((allL xs).take q).map (fun n => (n, depL xs n))) cw) (fun ⟨q, vw, cw⟩ => [(12, .pointer (some ⟨b12, 0, none⟩)), (17, vw), (71, .slice A71 (allL xs).length k71), (72, .int .i64 (allL xs).length), (73, .int .i64 q)]) (fun ⟨q, vw, cw⟩ => (allL xs).length - q) ((0, .slice none 0 0, [])) ?_ ?_ ?_
            · exact ⟨Nat.zero_le _, rfl, rfl, OwnS.nil⟩
            · exact ⟨rfl, rfl, rfl, rfl, rfl, trivial⟩
            · intro ⟨q, vw, cw⟩ σ3 H_3 L_3 ds_3 s_3 hI_3
              obtain ⟨hq, rfl, rfl, ho⟩ := hI_3
              refine T.seq ?_
              refine T.region ?_
              refine R.lss rfl rfl rfl ?_
              refine TL.nil (Post.thnN ?_)
              refine T.seq ?_
              refine T.condD rfl (fun c74 => ?_) (fun c74 => ?_)
              · have hlt : q < (allL xs).length := by omega
                obtain ⟨y, hy⟩ := getk hlt
                refine T.skip (Post.thnN ?_)
                refine T.seq ?_
                refine T.block ?_
                refine T.seq ?_
                refine T.region ?_
                obtain ⟨b75, o75, i75, e75⟩ := (f71.mono s_3).elem (hy)
                refine R.ixp Tryz.underlying24 Tryz.sizeOf3 rfl rfl rfl (by omega) i75 ?_
                refine R.ldC Tryz.isAgg3 rfl rfl (e75).int ?_
                refine R.asE rfl (by conv => lhs; whnf) ?_
                refine TL.nil (Post.thnN ?_)
                refine T.region ?_
                refine R.mvE rfl (by conv => lhs; whnf) ?_
                refine R.mvE rfl (by conv => lhs; whnf) ?_
                refine R.ldH Tryz.isAgg93 rfl rfl (((s41.trans (s_2.trans (s61.trans (sF61.trans (s63.trans (sr0.trans (s71.trans (sF71.trans s_3)))))))) _ _ h12)) rfl ?_
                refine R.mvE rfl (by conv => lhs; whnf) ?_
                refine R.lku Tryz.underlying93 Tryz.underlying3 Tryz.zeroValue3 rfl rfl rfl (.tl .hd) hm4 ?_
                refine TL.set 81 (.int .i64 (depL xs y)) (hK4.is (hn4 (y, depL xs y) (List.mem_map.2 ⟨y, List.mem_of_getElem? hy, rfl⟩))) ?_
                refine R.bld (cs := [.int .i64 y, .int .i64 (depL xs y)]) rfl (fun _ => by kernel_rfl) ?_
                refine R.bs (e := 29) (cs := [.int .i64 y, .int .i64 (depL xs y)]) rfl (fun _ => by kernel_rfl) ?_
                intro b83
                refine R.app (ys := [(y, depL xs y)]) Tryz_ty23 rfl rfl rfl ho (.tl .hd) (Src.lit (vs := [.int .i64 y, .int .i64 (depL xs y)]) .hd) ⟨[.int .i64 y, .int .i64 (depL xs y)], [], rfl, rfl, rfl⟩ (by simp; omega) (by simp; omega) ?_
                intro v84 c84 w84
                refine TL.del (.tl .hd) ?_
                refine R.asE rfl (by conv => lhs; whnf) ?_
                refine TL.nil (Post.blkN ?_)
                refine id (Post.thnN ?_)
                refine T.region ?_
                refine R.addI rfl rfl rfl (by omega) ?_
                refine R.mvE rfl (by conv => lhs; whnf) ?_
                refine TL.nil (Post.thnN ?_)
                -- round's end, way nndy
                exact ⟨(q + 1, v84, c84), s_3, ⟨by show q + 1 ≤ _; omega, rfl, rfl, by rw [take_snoc _ _ _ hy, List.map_append]; exact w84⟩, by show (allL xs).length - (q + 1) < (allL xs).length - q; omega, ⟨rfl, rfl, rfl, rfl, rfl, trivial⟩⟩
              · have hqx : q = (allL xs).length := by omega
                rw [hqx, List.take_length] at ho
                refine T.exit (Post.thnE (Post.thnE (Post.blkX ?_)))
                refine id (Post.thnN ?_)
                refine T.seq ?_
                refine T.region ?_
                refine R.mvE rfl (by conv => lhs; whnf) ?_
                refine R.asE rfl (by conv => lhs; whnf) ?_
                refine TL.nil (Post.thnN ?_)
                refine T.ret ?_
                -- way nndn
                exact fin1L [cw] rfl rfl (List.Sublist.cons_cons _ (List.nil_sublist _)) ⟨_, rfl, ho⟩
          · intro D0 c0 pre y Hr0 cR0 Lr0 sr0 hp0 hR0 hI0
            exact hI0.elim


set_option maxHeartbeats 1600000 in
theorem dmore_c (H : Heap) (v u : Value) (d xs : List Lk) (m : Lk) (hrd : RdS pairE H v d) (hr : RdS pairE H u xs) (hl : xs.length ≤ 500) (hld : d.length ≤ 100000) : Fp Tryz.prog (fnv 32) [v, u, .agg #[.int .i64 m.1, .int .i64 m.2]] H (fun v' H' => ∃ w, v' = .tuple #[w, .int .i64 (moreR d xs m).2] ∧ RdS pairE H' w (moreR d xs m).1) := by
  refine Fc.of_body (N := 46) Tryz.func32 rfl (by kernel_rfl) rfl rfl ?_
  intro w0
  obtain ⟨A, c, rfl, hc1, hc2, hr⟩ := hr.shape
  refine T.seq ?_
  refine T.region ?_
  refine R.box rfl (by conv => lhs; whnf) ?_
  intro b5
  refine R.asE rfl (by conv => lhs; whnf) ?_
  refine R.asE rfl (by conv => lhs; whnf) ?_
  refine TL.nil (Post.thnN ?_)
  refine T.seq ?_
  refine T.seq ?_
  refine T.shut .hd ?_
  intro H5 s5 q5
  have h5 : H5 b5 = some (.cells #[.int .i64 m.1, .int .i64 m.2] 45) := shut1 q5
  refine T.region ?_
  refine R.mvE rfl (by conv => lhs; whnf) ?_
  refine R.mvE rfl (by conv => lhs; whnf) ?_
  refine R.ldAH Tryz.isAgg45 Tryz.sizeOf45 rfl rfl rfl h5 ?_
  refine R.callv rfl rfl rfl (dsame_c _ _ _ d xs m (hrd.mono s5) (hr.mono s5) hl) ?_
  refine R.asE rfl (by conv => lhs; whnf) ?_
  refine TL.nil (Post.thnN ?_)
  refine T.seq ?_
  refine T.region ?_
  refine R.mvE rfl (by conv => lhs; whnf) ?_
  refine R.neq rfl rfl rfl ?_
  refine TL.nil (Post.thnN ?_)
  refine T.condD rfl (fun c16 => ?_) (fun c16 => ?_)
  · refine T.seq ?_
    refine T.region ?_
    refine R.mvE rfl (by conv => lhs; whnf) ?_
    refine R.asE rfl (by conv => lhs; whnf) ?_
    refine R.asE rfl (by conv => lhs; whnf) ?_
    refine TL.nil (Post.thnN ?_)
    refine T.ret (Post.thnR ?_)
    -- way y
    exact fin2 rfl rfl rfl ⟨rfl, _, by rw [moreR_a c16]; rfl, by rw [moreR_a c16]; exact RdS.nil⟩
  · have hs0 : sameR d xs m = 0 := Decidable.of_not_not c16
    obtain ⟨hA, hd, hm⟩ := sameR_ok hs0
    refine T.skip (Post.thnN ?_)
    refine T.seq ?_
    refine T.block ?_
    refine T.seq ?_
    refine T.region ?_
    refine R.mvE rfl (by conv => lhs; whnf) ?_
    refine R.ldAH Tryz.isAgg45 Tryz.sizeOf45 rfl rfl rfl h5 ?_
    refine R.callv rfl rfl rfl (containsP_c _ _ xs m (hr.mono s5)) ?_
    refine R.asE rfl (by conv => lhs; whnf) ?_
    refine TL.nil (Post.thnN ?_)
    refine T.cond rfl (fun c18 => ?_) (fun c18 => ?_)
    · have hin : m ∈ xs := anyD_mem.1 c18
      refine T.seq ?_
      refine T.region ?_
      refine R.asE rfl (by conv => lhs; whnf) ?_
      refine R.asE rfl (by conv => lhs; whnf) ?_
      refine TL.nil (Post.thnN ?_)
      refine T.ret (Post.blkR (Post.thnR ?_))
      -- way ny
      exact fin2 rfl rfl rfl ⟨rfl, _, by rw [moreR_b hs0 hin]; rfl, by rw [moreR_b hs0 hin]; exact RdS.nil⟩
    · have hin : m ∉ xs := anyD_not c18
      refine T.seq ?_
      refine T.region ?_
      refine R.mvE rfl (by conv => lhs; whnf) ?_
      refine R.fldA Tryz.underlying45 rfl Tryz.sizeOf3 (by decide) rfl rfl ?_
      refine R.ldH Tryz.isAgg3 rfl rfl (h5) rfl ?_
      refine R.fldA Tryz.underlying45 rfl Tryz.sizeOf3 (by decide) rfl rfl ?_
      refine R.ldH Tryz.isAgg3 rfl rfl (h5) rfl ?_
      refine R.callv rfl rfl rfl (closes_c _ _ xs m.1 (hr.mono s5) (by omega) m.2) ?_
      refine R.asE rfl (by conv => lhs; whnf) ?_
      refine TL.nil (Post.thnN ?_)
      refine T.cond rfl (fun c22 => ?_) (fun c22 => ?_)
      · refine T.seq ?_
        refine T.region ?_
        refine R.asE rfl (by conv => lhs; whnf) ?_
        refine R.asE rfl (by conv => lhs; whnf) ?_
        refine TL.nil (Post.thnN ?_)
        refine T.ret (Post.blkR (Post.thnR ?_))
        -- way nny
        exact fin2 rfl rfl rfl ⟨rfl, _, by rw [moreR_c hs0 hin c22]; rfl, by rw [moreR_c hs0 hin c22]; exact RdS.nil⟩
      · refine T.skip (Post.blkN ?_)
        refine id (Post.thnN ?_)
        refine T.seq ?_
        refine T.draw Tryz_mixed (by kernel_rfl) ?_
        refine Plan.v 0 [1, 2, 3, 4, 5, 6, 7, 8, 9, 10] (by kernel_rfl) (by kernel_rfl) (by kernel_rfl) (by kernel_rfl) rfl (fun _ _ h_ => R.mvE rfl (by conv => lhs; whnf) (TL.nil h_)) ?_
        refine Plan.v 2 [1, 3, 4, 5, 6, 7, 8, 9, 10] (by kernel_rfl) (by kernel_rfl) (by kernel_rfl) (by kernel_rfl) rfl (fun _ _ h_ => R.ldAH Tryz.isAgg45 Tryz.sizeOf45 rfl rfl rfl h5 (TL.nil h_)) ?_
        refine Plan.s2 1 3 [3, 4, 5, 6, 7, 8, 9, 10] [1, 4, 5, 6, 7, 8, 9, 10] (by kernel_rfl) (by kernel_rfl) (by kernel_rfl) rfl rfl ?_ ?_
        · refine TL.call [] rfl rfl rfl (cloneP22_c _ _ _ (hr.mono s5) (by omega)) ?_
          intro v31 H31 L31 s31 q31
          obtain ⟨c31, rfl, w31⟩ := q31
          refine TL.nil (Plan.e1 (s31) ?_)
          refine Plan.s1 3 [4, 5, 6, 7, 8, 9, 10] (by kernel_rfl) (by kernel_rfl) rfl ?_
          refine R.bs (e := 45) (cs := [.int .i64 m.1, .int .i64 m.2]) rfl (fun _ => by kernel_rfl) ?_
          intro b33
          refine TL.nil (Plan.e1 (HLe.refl _) ?_)
          refine Plan.s1 4 [5, 6, 7, 8, 9, 10] (by kernel_rfl) (by kernel_rfl) rfl ?_
          refine R.app (ys := [m]) Tryz_ty22 rfl rfl rfl w31 (by first | exact .hd | exact .tl .hd | exact .tl (.tl .hd) | exact .tl (.tl (.tl .hd)) | exact .tl (.tl (.tl (.tl .hd))) | exact .tl (.tl (.tl (.tl (.tl .hd)))) | exact .tl (.tl (.tl (.tl (.tl (.tl .hd))))) | exact .tl (.tl (.tl (.tl (.tl (.tl (.tl .hd)))))) | exact .tl (.tl (.tl (.tl (.tl (.tl (.tl (.tl .hd))))))) | exact .tl (.tl (.tl (.tl (.tl (.tl (.tl (.tl (.tl .hd))))))))) (Src.lit (vs := [.int .i64 m.1, .int .i64 m.2]) (by first | exact .hd | exact .tl .hd | exact .tl (.tl .hd) | exact .tl (.tl (.tl .hd)) | exact .tl (.tl (.tl (.tl .hd))) | exact .tl (.tl (.tl (.tl (.tl .hd)))) | exact .tl (.tl (.tl (.tl (.tl (.tl .hd))))) | exact .tl (.tl (.tl (.tl (.tl (.tl (.tl .hd)))))) | exact .tl (.tl (.tl (.tl (.tl (.tl (.tl (.tl .hd))))))) | exact .tl (.tl (.tl (.tl (.tl (.tl (.tl (.tl (.tl .hd)))))))))) ⟨[.int .i64 m.1, .int .i64 m.2], [], rfl, rfl, rfl⟩ (by simp; omega) (by simp; omega) ?_
          intro v34 c34 w34
          refine TL.shut .hd ?_
          intro H34 s34 q34
          have g34 := w34.read s34 q34
          refine TL.nil (Plan.e1 (s34) ?_)
          refine Plan.s1 5 [6, 7, 8, 9, 10] (by kernel_rfl) (by kernel_rfl) rfl ?_
          refine R.callp rfl rfl rfl (of_c _ _ (xs ++ [m]) g34 (by simp; omega)) ?_
          intro v35 H35 s35 q35
          obtain ⟨w35, rfl, g35⟩ := q35
          have hof := more_of hA (by omega) hm
          refine TL.nil (Plan.e1 (s35) ?_)
          refine Plan.v 6 [7, 8, 9, 10] (by kernel_rfl) (by kernel_rfl) (by kernel_rfl) (by kernel_rfl) rfl (fun _ _ h_ => R.mvE rfl (by conv => lhs; whnf) (TL.nil h_)) ?_
          refine Plan.v 7 [8, 9, 10] (by kernel_rfl) (by kernel_rfl) (by kernel_rfl) (by kernel_rfl) rfl (fun _ _ h_ => R.ext rfl rfl rfl (TL.nil h_)) ?_
          refine Plan.v 8 [9, 10] (by kernel_rfl) (by kernel_rfl) (by kernel_rfl) (by kernel_rfl) rfl (fun _ _ h_ => R.ext rfl rfl rfl (TL.nil h_)) ?_
          refine Plan.v 9 [10] (by kernel_rfl) (by kernel_rfl) (by kernel_rfl) (by kernel_rfl) rfl (fun _ _ h_ => R.asE rfl (by conv => lhs; whnf) (TL.nil h_)) ?_
          refine Plan.v 10 [] (by kernel_rfl) (by kernel_rfl) (by kernel_rfl) (by kernel_rfl) rfl (fun _ _ h_ => R.asE rfl (by conv => lhs; whnf) (TL.nil h_)) ?_
          refine Plan.done (Post.thnN ?_)
          refine T.seq ?_
          refine T.seq ?_
          refine T.region ?_
          refine R.mvE rfl (by conv => lhs; whnf) ?_
          refine R.neq rfl rfl rfl ?_
          refine TL.nil (Post.thnN ?_)
          refine T.set 39 (.bool false) (congrArg Value.bool (decide_eq_false (fun h => h (by rw [hof])))) ?_
          refine T.condN rfl ?_
          refine T.skip (Post.thnN ?_)
          refine T.seq ?_
          refine T.region ?_
          refine R.mvE rfl (by conv => lhs; whnf) ?_
          refine R.mvE rfl (by conv => lhs; whnf) ?_
          refine R.fldA Tryz.underlying45 rfl Tryz.sizeOf3 (by decide) rfl rfl ?_
          refine R.ldH Tryz.isAgg3 rfl rfl (((s31.trans (s34.trans s35)) _ _ h5)) rfl ?_
          refine TL.call [] rfl rfl rfl (danew_c _ _ _ d (ofP (xs ++ [m])) m.1 (hrd.mono (s5.trans (s31.trans (s34.trans s35)))) (by rw [hof] at g35; exact g35) (more_acyc hA (by omega) hm c22) (by have := ofP_len (xs ++ [m]); simp at this; omega) hld (by rw [hd]; exact more_keep hA (by omega) hm c22)) ?_
          intro v45 H45 L45 s45 q45
          obtain ⟨c45, rfl, w45⟩ := q45
          refine TL.shut .hd ?_
          intro HF45 sF45 qF45
          have f45 := w45.read sF45 qF45
          refine R.asE rfl (by conv => lhs; whnf) ?_
          refine R.asE rfl (by conv => lhs; whnf) ?_
          refine TL.nil (Post.thnN ?_)
          refine T.ret ?_
          -- way nnn0
          exact fin2 rfl rfl rfl ⟨rfl, _, by rw [moreR_d hs0 hin c22]; rfl, by rw [moreR_d hs0 hin c22]; exact f45⟩
        · refine R.bs (e := 45) (cs := [.int .i64 m.1, .int .i64 m.2]) rfl (fun _ => by kernel_rfl) ?_
          intro b33
          refine TL.nil (Plan.e1 (HLe.refl _) ?_)
          refine Plan.s1 1 [4, 5, 6, 7, 8, 9, 10] (by kernel_rfl) (by kernel_rfl) rfl ?_
          refine TL.call [] rfl rfl rfl (cloneP22_c _ _ _ (hr.mono s5) (by omega)) ?_
          intro v31 H31 L31 s31 q31
          obtain ⟨c31, rfl, w31⟩ := q31
          refine TL.nil (Plan.e1 (s31) ?_)
          refine Plan.s1 4 [5, 6, 7, 8, 9, 10] (by kernel_rfl) (by kernel_rfl) rfl ?_
          refine R.app (ys := [m]) Tryz_ty22 rfl rfl rfl w31 (by first | exact .hd | exact .tl .hd | exact .tl (.tl .hd) | exact .tl (.tl (.tl .hd)) | exact .tl (.tl (.tl (.tl .hd))) | exact .tl (.tl (.tl (.tl (.tl .hd)))) | exact .tl (.tl (.tl (.tl (.tl (.tl .hd))))) | exact .tl (.tl (.tl (.tl (.tl (.tl (.tl .hd)))))) | exact .tl (.tl (.tl (.tl (.tl (.tl (.tl (.tl .hd))))))) | exact .tl (.tl (.tl (.tl (.tl (.tl (.tl (.tl (.tl .hd))))))))) (Src.lit (vs := [.int .i64 m.1, .int .i64 m.2]) (by first | exact .hd | exact .tl .hd | exact .tl (.tl .hd) | exact .tl (.tl (.tl .hd)) | exact .tl (.tl (.tl (.tl .hd))) | exact .tl (.tl (.tl (.tl (.tl .hd)))) | exact .tl (.tl (.tl (.tl (.tl (.tl .hd))))) | exact .tl (.tl (.tl (.tl (.tl (.tl (.tl .hd)))))) | exact .tl (.tl (.tl (.tl (.tl (.tl (.tl (.tl .hd))))))) | exact .tl (.tl (.tl (.tl (.tl (.tl (.tl (.tl (.tl .hd)))))))))) ⟨[.int .i64 m.1, .int .i64 m.2], [], rfl, rfl, rfl⟩ (by simp; omega) (by simp; omega) ?_
          intro v34 c34 w34
          refine TL.shut .hd ?_
          intro H34 s34 q34
          have g34 := w34.read s34 q34
          refine TL.nil (Plan.e1 (s34) ?_)
          refine Plan.s1 5 [6, 7, 8, 9, 10] (by kernel_rfl) (by kernel_rfl) rfl ?_
          refine R.callp rfl rfl rfl (of_c _ _ (xs ++ [m]) g34 (by simp; omega)) ?_
          intro v35 H35 s35 q35
          obtain ⟨w35, rfl, g35⟩ := q35
          have hof := more_of hA (by omega) hm
          refine TL.nil (Plan.e1 (s35) ?_)
          refine Plan.v 6 [7, 8, 9, 10] (by kernel_rfl) (by kernel_rfl) (by kernel_rfl) (by kernel_rfl) rfl (fun _ _ h_ => R.mvE rfl (by conv => lhs; whnf) (TL.nil h_)) ?_
          refine Plan.v 7 [8, 9, 10] (by kernel_rfl) (by kernel_rfl) (by kernel_rfl) (by kernel_rfl) rfl (fun _ _ h_ => R.ext rfl rfl rfl (TL.nil h_)) ?_
          refine Plan.v 8 [9, 10] (by kernel_rfl) (by kernel_rfl) (by kernel_rfl) (by kernel_rfl) rfl (fun _ _ h_ => R.ext rfl rfl rfl (TL.nil h_)) ?_
          refine Plan.v 9 [10] (by kernel_rfl) (by kernel_rfl) (by kernel_rfl) (by kernel_rfl) rfl (fun _ _ h_ => R.asE rfl (by conv => lhs; whnf) (TL.nil h_)) ?_
          refine Plan.v 10 [] (by kernel_rfl) (by kernel_rfl) (by kernel_rfl) (by kernel_rfl) rfl (fun _ _ h_ => R.asE rfl (by conv => lhs; whnf) (TL.nil h_)) ?_
          refine Plan.done (Post.thnN ?_)
          refine T.seq ?_
          refine T.seq ?_
          refine T.region ?_
          refine R.mvE rfl (by conv => lhs; whnf) ?_
          refine R.neq rfl rfl rfl ?_
          refine TL.nil (Post.thnN ?_)
          refine T.set 39 (.bool false) (congrArg Value.bool (decide_eq_false (fun h => h (by rw [hof])))) ?_
          refine T.condN rfl ?_
          refine T.skip (Post.thnN ?_)
          refine T.seq ?_
          refine T.region ?_
          refine R.mvE rfl (by conv => lhs; whnf) ?_
          refine R.mvE rfl (by conv => lhs; whnf) ?_
          refine R.fldA Tryz.underlying45 rfl Tryz.sizeOf3 (by decide) rfl rfl ?_
          refine R.ldH Tryz.isAgg3 rfl rfl (((s31.trans (s34.trans s35)) _ _ h5)) rfl ?_
          refine TL.call [] rfl rfl rfl (danew_c _ _ _ d (ofP (xs ++ [m])) m.1 (hrd.mono (s5.trans (s31.trans (s34.trans s35)))) (by rw [hof] at g35; exact g35) (more_acyc hA (by omega) hm c22) (by have := ofP_len (xs ++ [m]); simp at this; omega) hld (by rw [hd]; exact more_keep hA (by omega) hm c22)) ?_
          intro v45 H45 L45 s45 q45
          obtain ⟨c45, rfl, w45⟩ := q45
          refine TL.shut .hd ?_
          intro HF45 sF45 qF45
          have f45 := w45.read sF45 qF45
          refine R.asE rfl (by conv => lhs; whnf) ?_
          refine R.asE rfl (by conv => lhs; whnf) ?_
          refine TL.nil (Post.thnN ?_)
          refine T.ret ?_
          -- way nnn1
          exact fin2 rfl rfl rfl ⟨rfl, _, by rw [moreR_d hs0 hin c22]; rfl, by rw [moreR_d hs0 hin c22]; exact f45⟩


end Go.SX

set_option linter.unusedVariables false
set_option linter.unusedSimpArgs false
namespace Go.SX
open Go Go.Proofs

set_option maxHeartbeats 1600000 in
theorem own17_c (H : Heap) (v : Value) (xs : List Lk) (hr : RdS pairE H v xs) : Fc Tryz.prog (fnv 11) [v] H [] (fun v' H' L' => ∃ c, L' = [c] ∧ OwnS pairE 45 H' v' (xs.take 22) c) := by
  refine Fc.of_body (N := 9) Tryz.func11 rfl (by kernel_rfl) rfl rfl ?_
  intro w0
  obtain ⟨A, c, rfl, hc1, hc2, hr⟩ := hr.shape
  have hm : min xs.length 22 ≤ xs.length := Nat.min_le_left _ _
  refine T.seq ?_
  refine T.region ?_
  refine R.asE rfl (by conv => lhs; whnf) ?_
  refine TL.nil (Post.thnN ?_)
  refine T.seq ?_
  refine T.region ?_
  refine R.mvE rfl (by conv => lhs; whnf) ?_
  refine R.mvE rfl (by conv => lhs; whnf) ?_
  refine R.len Tryz.underlying22 rfl rfl ?_
  refine R.min2 rfl rfl rfl ?_
  refine TL.set 6 (.int .i64 ((min xs.length 22 : Nat) : Int)) (congrArg _ (minN _ 22)) ?_
  refine R.sH Tryz.underlying22 Tryz.sizeOf45 rfl rfl rfl  (by omega) (by omega)  ?_
  refine TL.call [] rfl rfl rfl (cloneP22_c _ _ _ (hr.takeC hm hc1) (by simp; omega)) ?_
  intro v8 H8 L8 s8 q8
  obtain ⟨c8, rfl, w8⟩ := q8
  rw [Int.toNat_natCast, takeMin] at w8
  refine R.asE rfl (by conv => lhs; whnf) ?_
  refine TL.nil (Post.thnN ?_)
  refine T.ret ?_
  exact fin1L [c8] rfl rfl (List.Sublist.refl _) ⟨_, rfl, w8⟩


set_option maxHeartbeats 1600000 in
theorem small17_c (H : Heap) : Fp Tryz.prog (fnv 59) [] H (fun v' H' => RdS pairE H' v' smallD) := by
  refine Fc.of_body (N := 5) Tryz.func59 rfl (by kernel_rfl) rfl rfl ?_
  intro w0
  refine T.seq ?_
  refine T.region ?_
  refine R.asE rfl (by conv => lhs; whnf) ?_
  refine TL.nil (Post.thnN ?_)
  refine T.seq ?_
  refine T.region ?_
  refine R.bld (cs := [.int .i64 3, .int .i64 4]) rfl (fun _ => by kernel_rfl) ?_
  refine R.bld (cs := [.int .i64 3, .int .i64 5]) rfl (fun _ => by kernel_rfl) ?_
  refine R.bld (cs := [.int .i64 4, .int .i64 5]) rfl (fun _ => by kernel_rfl) ?_
  refine R.bs (e := 45) (cs := [.int .i64 3, .int .i64 4, .int .i64 3, .int .i64 5, .int .i64 4, .int .i64 5]) rfl (fun _ => by kernel_rfl) ?_
  intro b4
  refine TL.shut .hd ?_
  intro H4 s4 q4
  have l4 : RdS pairE H4 _ [(3, 4), (3, 5), (4, 5)] := RdS.litP [(3, 4), (3, 5), (4, 5)] q4 rfl
  refine R.asE rfl (by conv => lhs; whnf) ?_
  refine TL.nil (Post.thnN ?_)
  refine T.ret ?_
  exact fin1 rfl rfl ⟨rfl, l4⟩


set_option maxHeartbeats 1600000 in
theorem wakes17_c (H : Heap) : Fv Tryz.prog (fnv 10) [] H (.bool true) := by
  refine Fc.of_body (N := 60) Tryz.func10 rfl (by kernel_rfl) rfl rfl ?_
  intro w0
  refine T.seq ?_
  refine T.region ?_
  refine R.asE rfl (by conv => lhs; whnf) ?_
  refine TL.nil (Post.thnN ?_)
  refine T.seq ?_
  refine T.region ?_
  refine R.callp rfl rfl rfl (small17_c _) ?_
  intro v8 H8 s8 q8
  refine R.callp rfl rfl rfl (dOf_c _ _ smallD q8 (by decide)) ?_
  intro v9 H9 s9 q9
  rw [smallD_of] at q9
  obtain ⟨w9, rfl, g9⟩ := q9
  refine R.mvE rfl (by conv => lhs; whnf) ?_
  refine R.ext rfl rfl rfl ?_
  refine R.ext rfl rfl rfl ?_
  refine R.asE rfl (by conv => lhs; whnf) ?_
  refine R.asE rfl (by conv => lhs; whnf) ?_
  refine TL.nil (Post.thnN ?_)
  refine T.seq ?_
  refine T.region ?_
  refine R.mvE rfl (by conv => lhs; whnf) ?_
  refine R.callp rfl rfl rfl (small17_c _) ?_
  intro v14 H14 s14 q14
  refine R.bld (cs := [.int .i64 5, .int .i64 6]) rfl (fun _ => by kernel_rfl) ?_
  refine R.callp rfl rfl rfl (dmore_c _ _ _ [(3, 2), (4, 1)] smallD (5, 6) (g9.mono s14) q14 (by decide) (by decide)) ?_
  intro v16 H16 s16 q16
  rw [smallD_more] at q16
  obtain ⟨w16, rfl, g16⟩ := q16
  obtain ⟨A16, k16, rfl, m16, n16, g16⟩ := g16.shape
  refine R.mvE rfl (by conv => lhs; whnf) ?_
  refine R.ext rfl rfl rfl ?_
  refine R.ext rfl rfl rfl ?_
  refine R.asE rfl (by conv => lhs; whnf) ?_
  refine R.asE rfl (by conv => lhs; whnf) ?_
  refine TL.nil (Post.thnN ?_)
  refine T.seq ?_
  refine T.region ?_
  refine R.mvE rfl (by conv => lhs; whnf) ?_
  refine R.callp rfl rfl rfl (small17_c _) ?_
  intro v21 H21 s21 q21
  refine R.bld (cs := [.int .i64 5, .int .i64 3]) rfl (fun _ => by kernel_rfl) ?_
  refine R.callp rfl rfl rfl (dmore_c _ _ _ [(3, 2), (4, 1)] smallD (5, 3) (g9.mono (s14.trans (s16.trans s21))) q21 (by decide) (by decide)) ?_
  intro v23 H23 s23 q23
  rw [smallD_cyc] at q23
  obtain ⟨w23, rfl, g23⟩ := q23
  refine R.mvE rfl (by conv => lhs; whnf) ?_
  refine R.ext rfl rfl rfl ?_
  refine R.ext rfl rfl rfl ?_
  refine R.asE rfl (by conv => lhs; whnf) ?_
  refine R.asE rfl (by conv => lhs; whnf) ?_
  refine TL.nil (Post.thnN ?_)
  refine T.seq ?_
  refine T.region ?_
  refine R.mvE rfl (by conv => lhs; whnf) ?_
  refine R.eql rfl rfl rfl ?_
  refine R.mvE rfl (by conv => lhs; whnf) ?_
  refine TL.set 28 (.bool true) (by kernel_rfl) ?_
  refine R.mvE rfl (by conv => lhs; whnf) ?_
  refine R.eql rfl rfl rfl ?_
  refine R.pkTE rfl rfl (by conv => lhs; whnf) ?_
  refine R.mvE rfl (by conv => lhs; whnf) ?_
  refine TL.set 32 (.bool true) (by kernel_rfl) ?_
  refine R.mvE rfl (by conv => lhs; whnf) ?_
  refine R.eql rfl rfl rfl ?_
  refine R.pkTE rfl rfl (by conv => lhs; whnf) ?_
  refine R.mvE rfl (by conv => lhs; whnf) ?_
  refine TL.set 36 (.bool true) (by kernel_rfl) ?_
  refine R.mvE rfl (by conv => lhs; whnf) ?_
  refine R.bld (cs := [.int .i64 3, .int .i64 2]) rfl (fun _ => by kernel_rfl) ?_
  refine R.bld (cs := [.int .i64 4, .int .i64 1]) rfl (fun _ => by kernel_rfl) ?_
  refine R.bs (e := 29) (cs := [.int .i64 3, .int .i64 2, .int .i64 4, .int .i64 1]) rfl (fun _ => by kernel_rfl) ?_
  intro b40
  refine TL.shut .hd ?_
  intro H40 s40 q40
  have l40 : RdS pairE H40 _ [(3, 2), (4, 1)] := RdS.litP [(3, 2), (4, 1)] q40 rfl
  refine R.callv rfl rfl rfl (equalD_c _ _ _ _ _ (g9.mono (s14.trans (s16.trans (s21.trans (s23.trans s40))))) l40) ?_
  refine R.pkTE rfl rfl (by conv => lhs; whnf) ?_
  refine R.mvE rfl (by conv => lhs; whnf) ?_
  refine TL.set 43 (.bool true) (by kernel_rfl) ?_
  refine R.mvE rfl (by conv => lhs; whnf) ?_
  refine R.len Tryz.underlying23 rfl rfl ?_
  refine R.eql rfl rfl rfl ?_
  refine R.pkTE rfl rfl (by conv => lhs; whnf) ?_
  refine R.mvE rfl (by conv => lhs; whnf) ?_
  refine TL.set 48 (.bool true) (by kernel_rfl) ?_
  refine R.mvE rfl (by conv => lhs; whnf) ?_
  refine R.callv rfl rfl rfl (dAt_c _ _ [(3, 3), (4, 2), (5, 1)] 3 (g16.mono (s21.trans (s23.trans s40))) (by decide)) ?_
  refine R.eql rfl rfl rfl ?_
  refine R.pkTE rfl rfl (by conv => lhs; whnf) ?_
  refine R.mvE rfl (by conv => lhs; whnf) ?_
  refine TL.set 53 (.bool true) (by kernel_rfl) ?_
  refine R.mvE rfl (by conv => lhs; whnf) ?_
  refine R.bsN [_, _, _, _] rfl Tryz.underlying24 Tryz.sizeOf3 Tryz.zeroValue3 rfl rfl rfl rfl rfl rfl ?_
  intro b55
  refine TL.shut .hd ?_
  intro H55 s55 q55
  have l55 : RdS (intE .i64) H55 _ [3, 5, 4, 9] := RdS.litN [3, 5, 4, 9] q55 rfl
  refine TL.call [] rfl rfl rfl (dOrder_c _ _ _ [(3, 2), (4, 1)] [3, 5, 4, 9] (g9.mono (s14.trans (s16.trans (s21.trans (s23.trans (s40.trans s55)))))) (by decide) l55 (by decide)) ?_
  intro v56 H56 L56 s56 q56
  obtain ⟨c56, rfl, w56⟩ := q56
  refine TL.shut .hd ?_
  intro HF56 sF56 qF56
  have f56 := w56.read sF56 qF56
  refine R.bsN [_, _, _, _] rfl Tryz.underlying24 Tryz.sizeOf3 Tryz.zeroValue3 rfl rfl rfl rfl rfl rfl ?_
  intro b57
  refine TL.shut .hd ?_
  intro H57 s57 q57
  have l57 : RdS (intE .i64) H57 _ [5, 9, 4, 3] := RdS.litN [5, 9, 4, 3] q57 rfl
  refine R.callv rfl rfl rfl (equalI24_c _ _ _ _ [5, 9, 4, 3] (f56.mono s57) l57) ?_
  refine R.pkTE rfl rfl (by conv => lhs; whnf) ?_
  refine R.asE rfl (by conv => lhs; whnf) ?_
  refine TL.nil (Post.thnN ?_)
  refine T.ret ?_
  exact fin1 rfl rfl ⟨rfl, congrArg Value.bool (by kernel_rfl)⟩

end Go.SX

set_option linter.unusedVariables false
set_option linter.unusedSimpArgs false
namespace Go.SX
open Go Go.Proofs
def windroselaw17_DepthOf_l4 (x12c1 : List (Int × Int)) (x28 : List (Int × Int)) : List Int → Unit → LR (Bool) (Unit)
  | [], sl4 => .go ()
  | yl4 :: ysl4, sl4 => LR.seq (if ((if rightD x12c1 then atD x12c1 yl4 else (0 : Int)) : Int) ≠ (atD x12c1 yl4) then true else (if ((if rightD x28 then atD x28 yl4 else (0 : Int)) : Int) ≠ 0 then (if (!(rightD x28)) = true then true else (if (rightD x28) = true then ((decide (((if rightD x28 then atD x28 yl4 else (0 : Int)) : Int) ≠ (atD x28 yl4)))) else false)) else (if (rightD x28) = true then ((decide (((if rightD x28 then atD x28 yl4 else (0 : Int)) : Int) ≠ (atD x28 yl4)))) else false)) : Bool) (fun sc5 => if sc5 = true then (.ret false) else (windroselaw17_DepthOf_l4 x12c1 x28 ysl4 ()))
def windroselaw17_DepthOf_m (a0 : List (Int × Int)) (a1 : List (Int × Int)) (a2 : List Int) : Bool :=
  LR.seq (if ((ofDR (a0.take 22)).2 : Int) = 0 then (ofD (a0.take 22)) else [] : (List (Int × Int))) (fun sc1 => LR.seq (if ((ofDR (a0.take 22)).2 : Int) ≠ (ofDR (a0.take 22)).2 then true else ((decide (¬ ((ofDR (a0.take 22)).1 = sc1)))) : Bool) (fun sc2 => if sc2 = true then false else (LR.seq (if ((decide (((if rightD (a1.take ((min a1.length 30))) then (0 : Int) else 271) : Int) = 0)) != (rightD (a1.take ((min a1.length 30))))) = true then true else (if ((if rightD (a1.take ((min a1.length 30))) then (0 : Int) else 271) : Int) ≠ 0 then ((decide (((if rightD (a1.take ((min a1.length 30))) then (0 : Int) else 271) : Int) ≠ 271))) else false) : Bool) (fun sc3 => if sc3 = true then false else (LR.on (windroselaw17_DepthOf_l4 sc1 (a1.take ((min a1.length 30))) (a2.take ((min a2.length 12))) ()) (fun r => r) (fun ol4 => LR.seq (if (!(rightD (a1.take ((min a1.length 30))))) = true then [] else (a1.take ((min a1.length 30))) : (List (Int × Int))) (fun sc6 => if (refO (okD (a1.take ((min a1.length 30)))) (a2.take ((min a2.length 12)))) = (refO sc6 (a2.take ((min a2.length 12)))) then (if (a2.take ((min a2.length 12))) = (a2.take ((min a2.length 12))) then ((decide ((a0.take 22) = (a0.take 22)))) else false) else false)))))))
set_option maxHeartbeats 3200000 in
theorem windroselaw17_DepthOf_c (H : Heap) (va0 : Value) (a0 : List (Int × Int)) (ha0 : RdS pairE H va0 a0) (va1 : Value) (a1 : List (Int × Int)) (ha1 : RdS pairE H va1 a1) (va2 : Value) (a2 : List Int) (ha2 : RdS (intE .i64) H va2 a2) : Fv Tryz.prog (fnv 3) [va0, va1, va2] H (.bool (windroselaw17_DepthOf_m a0 a1 a2)) := by
  refine Fc.of_body (N := 130) Tryz.func3 rfl (by kernel_rfl) rfl rfl ?_
  intro w0
  obtain ⟨Aa0, ca0, rfl, hca0, hda0, ha0⟩ := ha0.shape
  obtain ⟨Aa1, ca1, rfl, hca1, hda1, ha1⟩ := ha1.shape
  obtain ⟨Aa2, ca2, rfl, hca2, hda2, ha2⟩ := ha2.shape
  refine T.seq ?_
  refine T.region ?_
  refine R.asE rfl (by conv => lhs; whnf) ?_
  refine TL.nil (Post.thnN ?_)
  refine T.seq ?_
  refine T.seq ?_
  refine T.region ?_
  refine R.callv rfl rfl rfl (wakes17_c _) ?_
  refine R.not rfl rfl ?_
  refine TL.nil (Post.thnN ?_)
  refine T.condN rfl ?_
  refine T.skip (Post.thnN ?_)
  refine T.seq ?_
  refine T.draw Tryz_mixed (by kernel_rfl) ?_
  refine Plan.v 0 [1, 2, 3, 4, 5, 6, 7, 8, 9] (by kernel_rfl) (by kernel_rfl) (by kernel_rfl) (by kernel_rfl) rfl (fun _ _ h_ => R.mvE rfl (by conv => lhs; whnf) (TL.nil h_)) ?_
  refine Plan.v 2 [1, 3, 4, 5, 6, 7, 8, 9] (by kernel_rfl) (by kernel_rfl) (by kernel_rfl) (by kernel_rfl) rfl (fun _ _ h_ => R.mvE rfl (by conv => lhs; whnf) (TL.nil h_)) ?_
  refine Plan.v 3 [1, 4, 5, 6, 7, 8, 9] (by kernel_rfl) (by kernel_rfl) (by kernel_rfl) (by kernel_rfl) rfl (fun _ _ h_ => R.mvE rfl (by conv => lhs; whnf) (TL.nil h_)) ?_
  refine Plan.v 4 [1, 5, 6, 7, 8, 9] (by kernel_rfl) (by kernel_rfl) (by kernel_rfl) (by kernel_rfl) rfl (fun _ _ h_ => R.len Tryz.underlying23 rfl rfl (TL.nil h_)) ?_
  refine Plan.v 5 [1, 6, 7, 8, 9] (by kernel_rfl) (by kernel_rfl) (by kernel_rfl) (by kernel_rfl) rfl (fun _ _ h_ => R.min2 rfl rfl rfl (TL.nil h_)) ?_
  refine Plan.set 26 (.int .i64 ((min a1.length 30 : Nat) : Int)) (congrArg (Value.int .i64) (by split <;> omega)) ?_
  have z27 := RdS.takeC ha1 (i := (min a1.length 30)) (by omega) (by omega)
  obtain ⟨x27, e27⟩ : ∃ x, x = (a1.take ((min a1.length 30))) := ⟨_, rfl⟩
  rw [← e27] at z27
  obtain ⟨A27, p27, q27, m27, n27, r27⟩ := RdS.shape z27
  have t27 : x27.length ≤ a1.length := by rw [e27]; simp; try omega
  have t27_ : x27.length = min ((min a1.length 30)) a1.length := by rw [e27]; simp
  refine Plan.v 6 [1, 7, 8, 9] (by kernel_rfl) (by kernel_rfl) (by kernel_rfl) (by kernel_rfl) rfl (fun _ _ h_ => R.sH Tryz.underlying23 Tryz.sizeOf29 rfl rfl rfl (by omega) (by omega)  (TL.nil h_)) ?_
  refine Plan.set 27 (.slice A27 x27.length p27) (by first | exact q27 | (rw [← q27]; simp; done) | (rw [← q27]; rfl)) ?_
  refine Plan.s1 1 [7, 8, 9] (by kernel_rfl) (by kernel_rfl) rfl ?_
  refine TL.call [] rfl rfl rfl (own17_c _ _ a0 ha0) ?_
  intro v22 H22 L22 s22 q22
  obtain ⟨c22, rfl, w22⟩ := q22
  obtain ⟨x22, e22⟩ : ∃ x, x = (a0.take 22) := ⟨_, rfl⟩
  rw [← e22] at w22
  obtain ⟨A22, p22, rfl, m22, n22⟩ := OwnS.shape w22
  have t22 : x22.length ≤ 22 := by rw [e22, List.length_take]; omega
  refine TL.nil (Plan.e1 (s22) ?_)
  refine Plan.s1 7 [8, 9] (by kernel_rfl) (by kernel_rfl) rfl ?_
  refine TL.call [] rfl rfl rfl (cloneP23_c _ _ x27 (r27.mono s22) (by omega)) ?_
  intro v28 H28 L28 s28 q28
  obtain ⟨c28, rfl, w28⟩ := q28
  obtain ⟨x28, e28⟩ : ∃ x, x = x27 := ⟨_, rfl⟩
  rw [← e28] at w28
  obtain ⟨A28, p28, rfl, m28, n28⟩ := OwnS.shape w28
  have t28 : x28.length = x27.length := by rw [e28]
  refine TL.nil (Plan.e1 (s28) ?_)
  refine Plan.v 8 [9] (by kernel_rfl) (by kernel_rfl) (by kernel_rfl) (by kernel_rfl) rfl (fun _ _ h_ => R.asE rfl (by conv => lhs; whnf) (TL.nil h_)) ?_
  refine Plan.v 9 [] (by kernel_rfl) (by kernel_rfl) (by kernel_rfl) (by kernel_rfl) rfl (fun _ _ h_ => R.asE rfl (by conv => lhs; whnf) (TL.nil h_)) ?_
  refine Plan.done (Post.thnN ?_)
  refine T.seq ?_
  refine T.region ?_
  refine R.mvE rfl (by conv => lhs; whnf) ?_
  refine TL.shut (.tl .hd) ?_
  intro HF22_31 sF22_31 qF22_31
  have fF22_31 := OwnS.read (OwnS.mono w22 s28) sF22_31 qF22_31
  refine R.callp rfl rfl rfl (dOf_c _ _ x22 fF22_31 (by omega)) ?_
  intro v31 H31 s31 q31
  obtain ⟨v31, rfl, w31⟩ := q31
  obtain ⟨x31, e31⟩ : ∃ x, x = (ofDR x22).1 := ⟨_, rfl⟩
  rw [← e31] at w31
  obtain ⟨A31, p31, rfl, m31, n31, w31⟩ := RdS.shape w31
  have t31 : x31.length ≤ x22.length := by rw [e31]; exact ofDR_len _
  refine R.mvE rfl (by conv => lhs; whnf) ?_
  refine R.ext rfl rfl rfl ?_
  refine R.ext rfl rfl rfl ?_
  refine R.asE rfl (by conv => lhs; whnf) ?_
  refine R.asE rfl (by conv => lhs; whnf) ?_
  refine TL.nil (Post.thnN ?_)
  refine T.seq ?_
  refine T.region ?_
  refine R.mvE rfl (by conv => lhs; whnf) ?_
  refine R.callv rfl rfl rfl (rWhy_c _ _ x22 (fF22_31.mono s31) (by omega)) ?_
  refine R.asE rfl (by conv => lhs; whnf) ?_
  refine TL.nil (Post.thnN ?_)
  refine T.seq ?_
  refine T.region ?_
  refine R.asE rfl (by conv => lhs; whnf) ?_
  refine TL.nil (Post.thnN ?_)
  refine T.seq ?_
  refine T.seq ?_
  refine T.region ?_
  refine R.mvE rfl (by conv => lhs; whnf) ?_
  refine R.eql rfl rfl rfl ?_
  refine TL.nil (Post.thnN ?_)
  refine T.cutK (ι := Value × (List (Int × Int))) (fun ⟨v12c1, x12c1⟩ H' L' ds' => Has L' [c28] ∧ ds' = [] ∧ RdS pairE H' v12c1 x12c1 ∧ x12c1.length ≤ 22 ∧ (if ((ofDR x22).2 : Int) = 0 then (ofD x22) else [] : (List (Int × Int))) = x12c1) (fun ⟨v12c1, x12c1⟩ => [(0, .slice Aa0 a0.length ca0), (2, .slice Aa2 a2.length ca2), (7, .slice A22 x22.length p22), (8, .slice A28 x28.length p28), (9, .slice A31 x31.length p31), (10, .int .i64 ((ofDR x22).2)), (11, .int .i64 ((ofDR x22).2)), (12, v12c1)]) ?_ ?_
  · refine T.condD rfl (fun c37 => ?_) (fun c37 => ?_)
    · refine T.set 37 (.bool true) (congrArg Value.bool (decide_eq_true c37)) ?_
      refine T.region ?_
      refine R.mvE rfl (by conv => lhs; whnf) ?_
      refine R.callp rfl rfl rfl (rof17_c _ _ x22 (fF22_31.mono s31) (by first | exact (ofDR_ok (by assumption)).1 | assumption) (by omega)) ?_
      intro v39 H39 s39 q39
      have w39 := q39
      obtain ⟨x39, e39⟩ : ∃ x, x = (ofD x22) := ⟨_, rfl⟩
      rw [← e39] at w39
      obtain ⟨A39, p39, rfl, m39, n39, w39⟩ := RdS.shape w39
      have t39 : x39.length ≤ x22.length := by rw [e39]; exact ofD_len _
      refine R.asE rfl (by conv => lhs; whnf) ?_
      refine TL.nil (Post.thnN ?_)
      exact ⟨(.slice A39 x39.length p39, x39), s39, ⟨(Has.cons .hd Has.nil), rfl, w39, (by first | omega | (simp; done) | (simp; omega) | (simp at *; omega)), (by subst e39; rw [if_pos c37])⟩, rfl, rfl, rfl, rfl, rfl, rfl, rfl, rfl, trivial⟩
    · refine T.set 37 (.bool false) (congrArg Value.bool (decide_eq_false c37)) ?_
      refine T.skip (Post.thnN ?_)
      exact ⟨(.slice none 0 0, []), HLe.refl _, ⟨(Has.cons .hd Has.nil), rfl, RdS.nil, (by first | omega | (simp; done) | (simp; omega) | (simp at *; omega)), (by rw [if_neg c37])⟩, rfl, rfl, rfl, rfl, rfl, rfl, rfl, rfl, trivial⟩
  · intro ⟨v12c1, x12c1⟩ σ_c1 H_c1 L_c1 ds_c1 s_c1 hI_c1
    obtain ⟨hLc1, rfl, w12c1, hBc1_0, hTc1⟩ := hI_c1
    obtain ⟨A12c1, p12c1, rfl, m12c1, n12c1_, w12c1⟩ := RdS.shape w12c1
    refine T.has hLc1 ?_
    refine T.seq ?_
    refine T.seq ?_
    refine T.cutK (ι := Bool) (fun b48c2 H' L' ds' => Has L' [c28] ∧ ds' = [] ∧ (if ((ofDR x22).2 : Int) ≠ (ofDR x22).2 then true else ((decide (¬ (x31 = x12c1)))) : Bool) = b48c2) (fun b48c2 => [(0, .slice Aa0 a0.length ca0), (2, .slice Aa2 a2.length ca2), (7, .slice A22 x22.length p22), (8, .slice A28 x28.length p28), (12, .slice A12c1 x12c1.length p12c1), (48, .bool (b48c2))]) ?_ ?_
    · refine T.region ?_
      refine R.mvE rfl (by conv => lhs; whnf) ?_
      refine R.mvE rfl (by conv => lhs; whnf) ?_
      refine R.neq rfl rfl rfl ?_
      refine R.mvE rfl (by conv => lhs; whnf) ?_
      refine TL.gsplitD 43 rfl (fun g43 => ?_) (fun g43 => ?_)
      · refine TL.off rfl rfl rfl ?_
        refine TL.off rfl rfl rfl ?_
        refine TL.off rfl rfl rfl ?_
        refine TL.off rfl rfl rfl ?_
        refine R.pkTE rfl rfl (by conv => lhs; whnf) ?_
        refine TL.nil (Post.thnN ?_)
        exact ⟨true, HLe.refl _, ⟨(Has.cons .hd Has.nil), rfl, (by rw [if_pos g43])⟩, rfl, rfl, rfl, rfl, rfl, rfl, trivial⟩
      · refine R.mvE rfl (by conv => lhs; whnf) ?_
        refine R.mvE rfl (by conv => lhs; whnf) ?_
        refine R.callv rfl rfl rfl (equalD_c _ _ _ x31 x12c1 (w31.mono s_c1) w12c1) ?_
        refine R.notD rfl rfl ?_
        refine R.pkFE rfl rfl (by conv => lhs; whnf) ?_
        refine TL.nil (Post.thnN ?_)
        exact ⟨(decide (¬ (x31 = x12c1))), HLe.refl _, ⟨(Has.cons .hd Has.nil), rfl, (by rw [if_neg g43])⟩, rfl, rfl, rfl, rfl, rfl, rfl, trivial⟩
    · intro b48c2 σ_c2 H_c2 L_c2 ds_c2 s_c2 hI_c2
      obtain ⟨hLc2, rfl, hTc2⟩ := hI_c2
      refine T.has hLc2 ?_
      refine T.cond rfl (fun c48 => ?_) (fun c48 => ?_)
      · refine T.set 48 (.bool true) (congrArg Value.bool c48) ?_
        refine T.seq ?_
        refine T.region ?_
        refine R.asE rfl (by conv => lhs; whnf) ?_
        refine TL.nil (Post.thnN ?_)
        refine T.has Has.nil ?_
        refine T.ret (Post.thnR ?_)
        have hM : windroselaw17_DepthOf_m a0 a1 a2 = false := by subst e31; subst e28; subst e22; subst e27; rw [windroselaw17_DepthOf_m, hTc1, LR.seq_go, hTc2, LR.seq_go, if_t c48]
        exact fin1L (v := .bool false) [] rfl rfl (List.Sublist.refl _) ⟨rfl, by rw [hM]⟩
      · refine T.set 48 (.bool false) (congrArg Value.bool c48) ?_
        refine T.skip (Post.thnN ?_)
        refine T.seq ?_
        refine T.region ?_
        refine R.mvE rfl (by conv => lhs; whnf) ?_
        refine TL.shut .hd ?_
        intro HF28_32 sF28_32 qF28_32
        have fF28_32 := OwnS.read (OwnS.mono w28 (sF22_31.trans (s31.trans (s_c1.trans s_c2)))) sF28_32 qF28_32
        refine R.callv rfl rfl rfl (rright17_c _ _ x28 fF28_32) ?_
        refine R.asE rfl (by conv => lhs; whnf) ?_
        refine TL.nil (Post.thnN ?_)
        refine T.seq ?_
        refine T.seq ?_
        refine T.region ?_
        refine R.mvE rfl (by conv => lhs; whnf) ?_
        refine R.callv rfl rfl rfl (dcheck_c _ _ x28 fF28_32) ?_
        refine R.asE rfl (by conv => lhs; whnf) ?_
        refine TL.nil (Post.thnN ?_)
        refine T.seq ?_
        refine T.cutK (ι := Bool) (fun b64c3 H' L' ds' => Has L' [] ∧ ds' = [] ∧ (if ((decide (((if rightD x28 then (0 : Int) else 271) : Int) = 0)) != (rightD x28)) = true then true else (if ((if rightD x28 then (0 : Int) else 271) : Int) ≠ 0 then ((decide (((if rightD x28 then (0 : Int) else 271) : Int) ≠ 271))) else false) : Bool) = b64c3) (fun b64c3 => [(0, .slice Aa0 a0.length ca0), (2, .slice Aa2 a2.length ca2), (7, .slice A22 x22.length p22), (8, .slice A28 x28.length p28), (12, .slice A12c1 x12c1.length p12c1), (13, .bool ((rightD x28))), (64, .bool (b64c3))]) ?_ ?_
        · refine T.region ?_
          refine R.mvE rfl (by conv => lhs; whnf) ?_
          refine R.eql rfl rfl rfl ?_
          refine R.mvE rfl (by conv => lhs; whnf) ?_
          refine R.neqB Tryz.underlying4 rfl rfl rfl ?_
          refine R.mvE rfl (by conv => lhs; whnf) ?_
          refine TL.gsplit 57 rfl (fun g57 => ?_) (fun g57 => ?_)
          · refine TL.off rfl rfl rfl ?_
            refine TL.off rfl rfl rfl ?_
            refine TL.off rfl rfl rfl ?_
            refine TL.offU rfl rfl ?_
            refine TL.offU rfl rfl ?_
            refine TL.off rfl rfl rfl ?_
            refine R.pkTE rfl rfl (by conv => lhs; whnf) ?_
            refine TL.nil (Post.thnN ?_)
            exact ⟨true, HLe.refl _, ⟨Has.nil, rfl, (by rw [if_t g57])⟩, rfl, rfl, rfl, rfl, rfl, rfl, rfl, trivial⟩
          · refine R.mvE rfl (by conv => lhs; whnf) ?_
            refine R.neq rfl rfl rfl ?_
            refine R.mvE rfl (by conv => lhs; whnf) ?_
            refine TL.gsplitD 60 rfl (fun g60 => ?_) (fun g60 => ?_)
            · refine R.mvE rfl (by conv => lhs; whnf) ?_
              refine R.neq rfl rfl rfl ?_
              refine R.pkTE rfl rfl (by conv => lhs; whnf) ?_
              refine R.pkFE rfl rfl (by conv => lhs; whnf) ?_
              refine TL.nil (Post.thnN ?_)
              exact ⟨(decide (((if rightD x28 then (0 : Int) else 271) : Int) ≠ 271)), HLe.refl _, ⟨Has.nil, rfl, (by rw [if_f g57, if_pos g60])⟩, rfl, rfl, rfl, rfl, rfl, rfl, rfl, trivial⟩
            · refine TL.off rfl rfl rfl ?_
              refine TL.off rfl rfl rfl ?_
              refine R.pkFE rfl rfl (by conv => lhs; whnf) ?_
              refine R.pkFE rfl rfl (by conv => lhs; whnf) ?_
              refine TL.nil (Post.thnN ?_)
              exact ⟨false, HLe.refl _, ⟨Has.nil, rfl, (by rw [if_f g57, if_neg g60])⟩, rfl, rfl, rfl, rfl, rfl, rfl, rfl, trivial⟩
        · intro b64c3 σ_c3 H_c3 L_c3 ds_c3 s_c3 hI_c3
          obtain ⟨hLc3, rfl, hTc3⟩ := hI_c3
          refine T.has hLc3 ?_
          refine T.cond rfl (fun c64 => ?_) (fun c64 => ?_)
          · refine T.set 64 (.bool true) (congrArg Value.bool c64) ?_
            refine T.seq ?_
            refine T.region ?_
            refine R.asE rfl (by conv => lhs; whnf) ?_
            refine TL.nil (Post.thnN ?_)
            refine T.has Has.nil ?_
            refine T.ret (Post.thnR ?_)
            have hM : windroselaw17_DepthOf_m a0 a1 a2 = false := by subst e31; subst e28; subst e22; subst e27; rw [windroselaw17_DepthOf_m, hTc1, LR.seq_go, hTc2, LR.seq_go, if_f c48, hTc3, LR.seq_go, if_t c64]
            exact fin1L (v := .bool false) [] rfl rfl (List.Sublist.refl _) ⟨rfl, by rw [hM]⟩
          · refine T.set 64 (.bool false) (congrArg Value.bool c64) ?_
            refine T.skip (Post.thnN ?_)
            refine T.seq ?_
            refine T.region ?_
            refine R.mvE rfl (by conv => lhs; whnf) ?_
            refine R.mvE rfl (by conv => lhs; whnf) ?_
            refine R.len Tryz.underlying24 rfl rfl ?_
            refine R.min2 rfl rfl rfl ?_
            refine TL.set 68 (.int .i64 ((min a2.length 12 : Nat) : Int)) (congrArg (Value.int .i64) (by split <;> omega)) ?_
            have z69 := RdS.takeC (ha2.mono (s22.trans (s28.trans (sF22_31.trans (s31.trans (s_c1.trans (s_c2.trans (sF28_32.trans s_c3)))))))) (i := (min a2.length 12)) (by omega) (by omega)
            obtain ⟨x69, e69⟩ : ∃ x, x = (a2.take ((min a2.length 12))) := ⟨_, rfl⟩
            rw [← e69] at z69
            obtain ⟨A69, p69, q69, m69, n69, r69⟩ := RdS.shape z69
            have t69 : x69.length ≤ a2.length := by rw [e69]; simp; try omega
            have t69_ : x69.length = min ((min a2.length 12)) a2.length := by rw [e69]; simp
            refine R.sH Tryz.underlying24 Tryz.sizeOf3 rfl rfl rfl (by omega) (by omega)  ?_
            refine TL.set 69 (.slice A69 x69.length p69) (by first | exact q69 | (rw [← q69]; simp; done) | (rw [← q69]; rfl)) ?_
            refine TL.call [] rfl rfl rfl (cloneI24_c _ _ x69 r69 (by omega)) ?_
            intro v70 H70 L70 s70 q70
            obtain ⟨c70, rfl, w70⟩ := q70
            obtain ⟨x70, e70⟩ : ∃ x, x = x69 := ⟨_, rfl⟩
            rw [← e70] at w70
            obtain ⟨A70, p70, rfl, m70, n70⟩ := OwnS.shape w70
            have t70 : x70.length = x69.length := by rw [e70]
            refine R.asE rfl (by conv => lhs; whnf) ?_
            refine TL.nil (Post.thnN ?_)
            refine T.seq ?_
            refine T.seq ?_
            refine T.region ?_
            refine R.mvE rfl (by conv => lhs; whnf) ?_
            refine R.len Tryz.underlying24 rfl rfl ?_
            refine R.mvE rfl (by conv => lhs; whnf) ?_
            refine TL.nil (Post.thnN ?_)
            refine T.block ?_
            refine T.shut .hd ?_
            intro HF70_33 sF70_33 qF70_33
            have fF70_33 := OwnS.read w70 sF70_33 qF70_33
            refine T.loop (ι := Nat) (fun kl4 H' L' ds' => kl4 ≤ x70.length ∧ Has L' [] ∧ ds' = [] ∧ windroselaw17_DepthOf_l4 x12c1 x28 (x70.drop kl4) () = windroselaw17_DepthOf_l4 x12c1 x28 x70 ()) (fun kl4 => [(73, .int .i64 (kl4 : Int)), (0, .slice Aa0 a0.length ca0), (2, .slice A70 x70.length p70), (7, .slice A22 x22.length p22), (8, .slice A28 x28.length p28), (12, .slice A12c1 x12c1.length p12c1), (13, .bool ((rightD x28))), (71, .slice A70 x70.length p70), (72, .int .i64 (x70.length : Int))]) (fun kl4 => x70.length - kl4) 0 ?_ ?_ ?_
            · exact ⟨(by omega), Has.nil, rfl, (by rfl)⟩
            · exact ⟨rfl, rfl, rfl, rfl, rfl, rfl, rfl, rfl, rfl, trivial⟩
            · intro kl4 σ_l4 H_l4 L_l4 ds_l4 s_l4 hI_l4
              obtain ⟨hkl4, hI_l4⟩ := hI_l4
              obtain ⟨hLl4, rfl, hQl4⟩ := hI_l4
              refine T.has hLl4 ?_
              refine T.seq ?_
              refine T.region ?_
              refine R.lss rfl rfl rfl ?_
              refine TL.nil (Post.thnN ?_)
              refine T.seq ?_
              refine T.condD rfl (fun c74 => ?_) (fun c74 => ?_)
              · have hltl4 : kl4 < x70.length := by omega
                obtain ⟨yl4, hyl4⟩ := getk (xs := x70) (k := kl4) (by omega)
                refine T.skip (Post.thnN ?_)
                refine T.seq ?_
                refine T.block ?_
                refine T.seq ?_
                refine T.region ?_
                obtain ⟨b75, o75, i75, e75⟩ := RdS.elem (fF70_33.mono s_l4) hyl4
                obtain ⟨l75, g75, k75⟩ := e75
                obtain rfl : l75 = [.int .i64 yl4] := g75
                refine R.ixp Tryz.underlying24 Tryz.sizeOf3 rfl rfl rfl (by omega) i75 ?_
                refine R.ldC Tryz.isAgg3 rfl rfl (k75 0 _ rfl) ?_
                refine R.asE rfl (by conv => lhs; whnf) ?_
                refine TL.nil (Post.thnN ?_)
                refine T.seq ?_
                refine T.cutK (ι := Bool) (fun b105c5 H' L' ds' => Has L' [] ∧ ds' = [] ∧ (if ((if rightD x12c1 then atD x12c1 yl4 else (0 : Int)) : Int) ≠ (atD x12c1 yl4) then true else (if ((if rightD x28 then atD x28 yl4 else (0 : Int)) : Int) ≠ 0 then (if (!(rightD x28)) = true then true else (if (rightD x28) = true then ((decide (((if rightD x28 then atD x28 yl4 else (0 : Int)) : Int) ≠ (atD x28 yl4)))) else false)) else (if (rightD x28) = true then ((decide (((if rightD x28 then atD x28 yl4 else (0 : Int)) : Int) ≠ (atD x28 yl4)))) else false)) : Bool) = b105c5) (fun b105c5 => [(0, .slice Aa0 a0.length ca0), (2, .slice A70 x70.length p70), (7, .slice A22 x22.length p22), (8, .slice A28 x28.length p28), (12, .slice A12c1 x12c1.length p12c1), (13, .bool ((rightD x28))), (71, .slice A70 x70.length p70), (72, .int .i64 (x70.length : Int)), (73, .int .i64 (kl4 : Int)), (105, .bool (b105c5))]) ?_ ?_
                · refine T.region ?_
                  refine R.mvE rfl (by conv => lhs; whnf) ?_
                  refine R.mvE rfl (by conv => lhs; whnf) ?_
                  refine R.callv rfl rfl rfl (dAt_c _ _ x12c1 yl4 (w12c1.mono (s_c2.trans (sF28_32.trans (s_c3.trans (s70.trans (sF70_33.trans s_l4)))))) (by omega)) ?_
                  refine R.mvE rfl (by conv => lhs; whnf) ?_
                  refine R.mvE rfl (by conv => lhs; whnf) ?_
                  refine R.callv rfl rfl rfl (rAt17_c _ _ x12c1 yl4 (w12c1.mono (s_c2.trans (sF28_32.trans (s_c3.trans (s70.trans (sF70_33.trans s_l4))))))) ?_
                  refine R.neq rfl rfl rfl ?_
                  refine R.mvE rfl (by conv => lhs; whnf) ?_
                  refine TL.gsplitD 84 rfl (fun g84 => ?_) (fun g84 => ?_)
                  · refine TL.off rfl rfl rfl ?_
                    refine TL.off rfl rfl rfl ?_
                    refine TL.off rfl rfl rfl ?_
                    refine TL.off rfl rfl rfl ?_
                    refine TL.off rfl rfl rfl ?_
                    refine TL.offU rfl rfl ?_
                    refine TL.offU rfl rfl ?_
                    refine TL.off rfl rfl rfl ?_
                    refine R.pkTE rfl rfl (by conv => lhs; whnf) ?_
                    refine R.mvE rfl (by conv => lhs; whnf) ?_
                    refine TL.off rfl rfl rfl ?_
                    refine TL.off rfl rfl rfl ?_
                    refine TL.offU rfl rfl ?_
                    refine TL.offU rfl rfl ?_
                    refine TL.offU rfl rfl ?_
                    refine TL.offU rfl rfl ?_
                    refine TL.offU rfl rfl ?_
                    refine TL.offU rfl rfl ?_
                    refine TL.offU rfl rfl ?_
                    refine TL.off rfl rfl rfl ?_
                    refine R.pkTE rfl rfl (by conv => lhs; whnf) ?_
                    refine TL.nil (Post.thnN ?_)
                    exact ⟨true, HLe.refl _, ⟨Has.nil, rfl, (by rw [if_pos g84])⟩, rfl, rfl, rfl, rfl, rfl, rfl, rfl, rfl, rfl, rfl, trivial⟩
                  · refine R.mvE rfl (by conv => lhs; whnf) ?_
                    refine R.mvE rfl (by conv => lhs; whnf) ?_
                    refine R.callv rfl rfl rfl (dAt_c _ _ x28 yl4 (fF28_32.mono (s_c3.trans (s70.trans (sF70_33.trans s_l4)))) (by omega)) ?_
                    refine R.neq rfl rfl rfl ?_
                    refine R.mvE rfl (by conv => lhs; whnf) ?_
                    refine TL.gsplitD 89 rfl (fun g89 => ?_) (fun g89 => ?_)
                    · refine R.mvE rfl (by conv => lhs; whnf) ?_
                      refine R.not rfl rfl ?_
                      refine R.pkTE rfl rfl (by conv => lhs; whnf) ?_
                      refine R.pkFE rfl rfl (by conv => lhs; whnf) ?_
                      refine R.mvE rfl (by conv => lhs; whnf) ?_
                      refine TL.gsplit 94 rfl (fun g94 => ?_) (fun g94 => ?_)
                      · refine TL.off rfl rfl rfl ?_
                        refine TL.off rfl rfl rfl ?_
                        refine TL.offU rfl rfl ?_
                        refine TL.offU rfl rfl ?_
                        refine TL.offU rfl rfl ?_
                        refine TL.offU rfl rfl ?_
                        refine TL.offU rfl rfl ?_
                        refine TL.offU rfl rfl ?_
                        refine TL.offU rfl rfl ?_
                        refine TL.off rfl rfl rfl ?_
                        refine R.pkTE rfl rfl (by conv => lhs; whnf) ?_
                        refine TL.nil (Post.thnN ?_)
                        exact ⟨true, HLe.refl _, ⟨Has.nil, rfl, (by rw [if_neg g84, if_pos g89, if_t g94])⟩, rfl, rfl, rfl, rfl, rfl, rfl, rfl, rfl, rfl, rfl, trivial⟩
                      · refine R.mvE rfl (by conv => lhs; whnf) ?_
                        refine R.mvE rfl (by conv => lhs; whnf) ?_
                        refine TL.gsplit 96 rfl (fun g96 => ?_) (fun g96 => ?_)
                        · refine R.mvE rfl (by conv => lhs; whnf) ?_
                          refine R.mvE rfl (by conv => lhs; whnf) ?_
                          refine R.callv rfl rfl rfl (dAt_c _ _ x28 yl4 (fF28_32.mono (s_c3.trans (s70.trans (sF70_33.trans s_l4)))) (by omega)) ?_
                          refine R.mvE rfl (by conv => lhs; whnf) ?_
                          refine R.mvE rfl (by conv => lhs; whnf) ?_
                          refine R.callv rfl rfl rfl (rAt17_c _ _ x28 yl4 (fF28_32.mono (s_c3.trans (s70.trans (sF70_33.trans s_l4))))) ?_
                          refine R.neq rfl rfl rfl ?_
                          refine R.pkTE rfl rfl (by conv => lhs; whnf) ?_
                          refine R.pkFE rfl rfl (by conv => lhs; whnf) ?_
                          refine TL.nil (Post.thnN ?_)
                          exact ⟨(decide (((if rightD x28 then atD x28 yl4 else (0 : Int)) : Int) ≠ (atD x28 yl4))), HLe.refl _, ⟨Has.nil, rfl, (by rw [if_neg g84, if_pos g89, if_f g94, if_t g96])⟩, rfl, rfl, rfl, rfl, rfl, rfl, rfl, rfl, rfl, rfl, trivial⟩
                        · refine TL.off rfl rfl rfl ?_
                          refine TL.off rfl rfl rfl ?_
                          refine TL.off rfl rfl rfl ?_
                          refine TL.off rfl rfl rfl ?_
                          refine TL.off rfl rfl rfl ?_
                          refine TL.off rfl rfl rfl ?_
                          refine TL.off rfl rfl rfl ?_
                          refine R.pkFE rfl rfl (by conv => lhs; whnf) ?_
                          refine R.pkFE rfl rfl (by conv => lhs; whnf) ?_
                          refine TL.nil (Post.thnN ?_)
                          exact ⟨false, HLe.refl _, ⟨Has.nil, rfl, (by rw [if_neg g84, if_pos g89, if_f g94, if_f g96])⟩, rfl, rfl, rfl, rfl, rfl, rfl, rfl, rfl, rfl, rfl, trivial⟩
                    · refine TL.off rfl rfl rfl ?_
                      refine TL.off rfl rfl rfl ?_
                      refine R.pkFE rfl rfl (by conv => lhs; whnf) ?_
                      refine R.pkFE rfl rfl (by conv => lhs; whnf) ?_
                      refine R.mvE rfl (by conv => lhs; whnf) ?_
                      refine R.mvE rfl (by conv => lhs; whnf) ?_
                      refine R.mvE rfl (by conv => lhs; whnf) ?_
                      refine TL.gsplit 96 rfl (fun g96 => ?_) (fun g96 => ?_)
                      · refine R.mvE rfl (by conv => lhs; whnf) ?_
                        refine R.mvE rfl (by conv => lhs; whnf) ?_
                        refine R.callv rfl rfl rfl (dAt_c _ _ x28 yl4 (fF28_32.mono (s_c3.trans (s70.trans (sF70_33.trans s_l4)))) (by omega)) ?_
                        refine R.mvE rfl (by conv => lhs; whnf) ?_
                        refine R.mvE rfl (by conv => lhs; whnf) ?_
                        refine R.callv rfl rfl rfl (rAt17_c _ _ x28 yl4 (fF28_32.mono (s_c3.trans (s70.trans (sF70_33.trans s_l4))))) ?_
                        refine R.neq rfl rfl rfl ?_
                        refine R.pkTE rfl rfl (by conv => lhs; whnf) ?_
                        refine R.pkFE rfl rfl (by conv => lhs; whnf) ?_
                        refine TL.nil (Post.thnN ?_)
                        exact ⟨(decide (((if rightD x28 then atD x28 yl4 else (0 : Int)) : Int) ≠ (atD x28 yl4))), HLe.refl _, ⟨Has.nil, rfl, (by rw [if_neg g84, if_neg g89, if_t g96])⟩, rfl, rfl, rfl, rfl, rfl, rfl, rfl, rfl, rfl, rfl, trivial⟩
                      · refine TL.off rfl rfl rfl ?_
                        refine TL.off rfl rfl rfl ?_
                        refine TL.off rfl rfl rfl ?_
                        refine TL.off rfl rfl rfl ?_
                        refine TL.off rfl rfl rfl ?_
                        refine TL.off rfl rfl rfl ?_
                        refine TL.off rfl rfl rfl ?_
                        refine R.pkFE rfl rfl (by conv => lhs; whnf) ?_
                        refine R.pkFE rfl rfl (by conv => lhs; whnf) ?_
                        refine TL.nil (Post.thnN ?_)
                        exact ⟨false, HLe.refl _, ⟨Has.nil, rfl, (by rw [if_neg g84, if_neg g89, if_f g96])⟩, rfl, rfl, rfl, rfl, rfl, rfl, rfl, rfl, rfl, rfl, trivial⟩
                · intro b105c5 σ_c5 H_c5 L_c5 ds_c5 s_c5 hI_c5
                  obtain ⟨hLc5, rfl, hTc5⟩ := hI_c5
                  refine T.has hLc5 ?_
                  refine T.cond rfl (fun c105 => ?_) (fun c105 => ?_)
                  · refine T.set 105 (.bool true) (congrArg Value.bool c105) ?_
                    refine T.seq ?_
                    refine T.region ?_
                    refine R.asE rfl (by conv => lhs; whnf) ?_
                    refine TL.nil (Post.thnN ?_)
                    refine T.has Has.nil ?_
                    refine T.ret (Post.blkR (Post.thnR (Post.thnR (Post.blkR (Post.thnR ?_)))))
                    have hXl4 : windroselaw17_DepthOf_l4 x12c1 x28 x70 () = .ret false := by rw [← hQl4, drop_cons hyl4, windroselaw17_DepthOf_l4]; rw [hTc5, LR.seq_go, if_t c105]
                    have hM : windroselaw17_DepthOf_m a0 a1 a2 = false := by subst e70; subst e69; subst e31; subst e28; subst e22; subst e27; rw [windroselaw17_DepthOf_m, hTc1, LR.seq_go, hTc2, LR.seq_go, if_f c48, hTc3, LR.seq_go, if_f c64, hXl4, LR.on_ret]
                    exact fin1L (v := .bool false) [] rfl rfl (List.Sublist.refl _) ⟨rfl, by rw [hM]⟩
                  · refine T.set 105 (.bool false) (congrArg Value.bool c105) ?_
                    refine T.skip (Post.blkN ?_)
                    refine id (Post.thnN ?_)
                    refine T.region ?_
                    refine R.addI rfl rfl rfl (by omega) ?_
                    refine R.mvE rfl (by conv => lhs; whnf) ?_
                    refine TL.nil (Post.thnN ?_)
                    exact ⟨kl4 + 1, (s_l4.trans s_c5), ⟨(by omega), Has.nil, rfl, (by rw [← hQl4, drop_cons hyl4, windroselaw17_DepthOf_l4]; rw [hTc5, LR.seq_go, if_f c105])⟩, by show x70.length - (kl4 + 1) < x70.length - kl4; omega, rfl, rfl, rfl, rfl, rfl, rfl, rfl, rfl, rfl, trivial⟩
              · refine T.exit (Post.thnE (Post.thnE (Post.blkX ?_)))
                have hEl4 : windroselaw17_DepthOf_l4 x12c1 x28 x70 () = .go () := (hQl4.symm.trans (by rw [show kl4 = x70.length by omega, List.drop_length, windroselaw17_DepthOf_l4]))
                refine id (Post.thnN ?_)
                refine T.seq ?_
                refine T.region ?_
                refine R.mvE rfl (by conv => lhs; whnf) ?_
                refine TL.call [] rfl rfl rfl (cloneI24_c _ _ x70 (fF70_33.mono s_l4) (by omega)) ?_
                intro v108 H108 L108 s108 q108
                obtain ⟨c108, rfl, w108⟩ := q108
                obtain ⟨x108, e108⟩ : ∃ x, x = x70 := ⟨_, rfl⟩
                rw [← e108] at w108
                obtain ⟨A108, p108, rfl, m108, n108⟩ := OwnS.shape w108
                have t108 : x108.length = x70.length := by rw [e108]
                refine R.asE rfl (by conv => lhs; whnf) ?_
                refine TL.nil (Post.thnN ?_)
                refine T.seq ?_
                refine T.region ?_
                refine R.mvE rfl (by conv => lhs; whnf) ?_
                refine R.mvE rfl (by conv => lhs; whnf) ?_
                refine TL.call [] rfl rfl rfl (dOrder_c _ _ _ x28 x70 (fF28_32.mono (s_c3.trans (s70.trans (sF70_33.trans (s_l4.trans s108))))) (by omega) (fF70_33.mono (s_l4.trans s108)) (by omega)) ?_
                intro v111 H111 L111 s111 q111
                obtain ⟨c111, rfl, w111⟩ := q111
                obtain ⟨x111, e111⟩ : ∃ x, x = (refO (okD x28) x70) := ⟨_, rfl⟩
                rw [← e111] at w111
                obtain ⟨A111, p111, rfl, m111, n111⟩ := OwnS.shape w111
                refine R.asE rfl (by conv => lhs; whnf) ?_
                refine TL.nil (Post.thnN ?_)
                refine T.seq ?_
                refine T.seq ?_
                refine T.region ?_
                refine R.mvE rfl (by conv => lhs; whnf) ?_
                refine R.not rfl rfl ?_
                refine TL.nil (Post.thnN ?_)
                refine T.cutK (ι := Value × (List (Int × Int))) (fun ⟨v8c6, x8c6⟩ H' L' ds' => Has L' [c111, c108] ∧ ds' = [] ∧ RdS pairE H' v8c6 x8c6 ∧ x8c6.length ≤ 30 ∧ (if (!(rightD x28)) = true then [] else x28 : (List (Int × Int))) = x8c6) (fun ⟨v8c6, x8c6⟩ => [(0, .slice Aa0 a0.length ca0), (2, .slice A70 x70.length p70), (7, .slice A22 x22.length p22), (8, v8c6), (17, .slice A108 x108.length p108), (18, .slice A111 x111.length p111)]) ?_ ?_
                · refine T.cond rfl (fun c113 => ?_) (fun c113 => ?_)
                  · refine T.set 113 (.bool true) (congrArg Value.bool c113) ?_
                    refine T.region ?_
                    refine R.asE rfl (by conv => lhs; whnf) ?_
                    refine TL.nil (Post.thnN ?_)
                    exact ⟨(.slice none 0 0, []), HLe.refl _, ⟨(Has.cons .hd (Has.cons .hd Has.nil)), rfl, RdS.nil, (by first | omega | (simp; done) | (simp; omega) | (simp at *; omega)), (by rw [if_t c113])⟩, rfl, rfl, rfl, rfl, rfl, rfl, trivial⟩
                  · refine T.set 113 (.bool false) (congrArg Value.bool c113) ?_
                    refine T.skip (Post.thnN ?_)
                    exact ⟨(.slice A28 x28.length p28, x28), HLe.refl _, ⟨(Has.cons .hd (Has.cons .hd Has.nil)), rfl, (fF28_32.mono (s_c3.trans (s70.trans (sF70_33.trans (s_l4.trans (s108.trans s111)))))), (by first | omega | (simp; done) | (simp; omega) | (simp at *; omega)), (by rw [if_f c113])⟩, rfl, rfl, rfl, rfl, rfl, rfl, trivial⟩
                · intro ⟨v8c6, x8c6⟩ σ_c6 H_c6 L_c6 ds_c6 s_c6 hI_c6
                  obtain ⟨hLc6, rfl, w8c6, hBc6_0, hTc6⟩ := hI_c6
                  obtain ⟨A8c6, p8c6, rfl, m8c6, n8c6_, w8c6⟩ := RdS.shape w8c6
                  refine T.has hLc6 ?_
                  refine T.seq ?_
                  refine T.region ?_
                  refine R.mvE rfl (by conv => lhs; whnf) ?_
                  refine R.mvE rfl (by conv => lhs; whnf) ?_
                  refine R.mvE rfl (by conv => lhs; whnf) ?_
                  refine TL.shut (.tl .hd) ?_
                  intro HF108_34 sF108_34 qF108_34
                  have fF108_34 := OwnS.read (OwnS.mono w108 (s111.trans s_c6)) sF108_34 qF108_34
                  refine R.callp rfl rfl rfl (rOrder_c _ _ _ x8c6 x108 (w8c6.mono sF108_34) fF108_34 (by omega)) ?_
                  intro v117 H117 s117 q117
                  have w117 := q117
                  obtain ⟨x117, e117⟩ : ∃ x, x = (refO x8c6 x108) := ⟨_, rfl⟩
                  rw [← e117] at w117
                  obtain ⟨A117, p117, rfl, m117, n117, w117⟩ := RdS.shape w117
                  refine TL.shut .hd ?_
                  intro HF111_35 sF111_35 qF111_35
                  have fF111_35 := OwnS.read (OwnS.mono w111 (s_c6.trans (sF108_34.trans s117))) sF111_35 qF111_35
                  refine R.callv rfl rfl rfl (equalI24_c _ _ _ x111 x117 fF111_35 (w117.mono sF111_35)) ?_
                  refine R.mvE rfl (by conv => lhs; whnf) ?_
                  refine TL.gsplitD 119 rfl (fun g119 => ?_) (fun g119 => ?_)
                  · refine R.mvE rfl (by conv => lhs; whnf) ?_
                    refine R.mvE rfl (by conv => lhs; whnf) ?_
                    refine R.callv rfl rfl rfl (equalI24_c _ _ _ x70 x108 (fF70_33.mono (s_l4.trans (s108.trans (s111.trans (s_c6.trans (sF108_34.trans (s117.trans sF111_35))))))) (fF108_34.mono (s117.trans sF111_35))) ?_
                    refine R.pkTE rfl rfl (by conv => lhs; whnf) ?_
                    refine R.mvE rfl (by conv => lhs; whnf) ?_
                    refine TL.gsplitD 124 rfl (fun g124 => ?_) (fun g124 => ?_)
                    · refine R.mvE rfl (by conv => lhs; whnf) ?_
                      refine R.mvE rfl (by conv => lhs; whnf) ?_
                      refine TL.call [] rfl rfl rfl (own17_c _ _ a0 (ha0.mono (s22.trans (s28.trans (sF22_31.trans (s31.trans (s_c1.trans (s_c2.trans (sF28_32.trans (s_c3.trans (s70.trans (sF70_33.trans (s_l4.trans (s108.trans (s111.trans (s_c6.trans (sF108_34.trans (s117.trans sF111_35)))))))))))))))))) ?_
                      intro v127 H127 L127 s127 q127
                      obtain ⟨c127, rfl, w127⟩ := q127
                      obtain ⟨x127, e127⟩ : ∃ x, x = (a0.take 22) := ⟨_, rfl⟩
                      rw [← e127] at w127
                      obtain ⟨A127, p127, rfl, m127, n127⟩ := OwnS.shape w127
                      have t127 : x127.length ≤ 22 := by rw [e127, List.length_take]; omega
                      refine TL.shut .hd ?_
                      intro HF127_36 sF127_36 qF127_36
                      have fF127_36 := OwnS.read w127 sF127_36 qF127_36
                      refine R.callv rfl rfl rfl (equalP_c _ _ _ x22 x127 (fF22_31.mono (s31.trans (s_c1.trans (s_c2.trans (sF28_32.trans (s_c3.trans (s70.trans (sF70_33.trans (s_l4.trans (s108.trans (s111.trans (s_c6.trans (sF108_34.trans (s117.trans (sF111_35.trans (s127.trans sF127_36)))))))))))))))) fF127_36) ?_
                      refine R.pkTE rfl rfl (by conv => lhs; whnf) ?_
                      refine R.asE rfl (by conv => lhs; whnf) ?_
                      refine TL.nil (Post.thnN ?_)
                      refine T.has Has.nil ?_
                      refine T.ret ?_
                      have hM : windroselaw17_DepthOf_m a0 a1 a2 = (decide (x22 = x127)) := by subst e127; subst e117; subst e111; subst e108; subst e70; subst e69; subst e31; subst e28; subst e22; subst e27; rw [windroselaw17_DepthOf_m, hTc1, LR.seq_go, hTc2, LR.seq_go, if_f c48, hTc3, LR.seq_go, if_f c64, hEl4, LR.on_go, hTc6, LR.seq_go, if_pos g119, if_pos g124]
                      exact fin1L (v := .bool (decide (x22 = x127))) [] rfl rfl (List.Sublist.refl _) ⟨rfl, by rw [hM]⟩
                    · refine TL.off rfl rfl rfl ?_
                      refine TL.off rfl rfl rfl ?_
                      refine TL.off rfl rfl rfl ?_
                      refine TL.off rfl rfl rfl ?_
                      refine R.pkFE rfl rfl (by conv => lhs; whnf) ?_
                      refine R.asE rfl (by conv => lhs; whnf) ?_
                      refine TL.nil (Post.thnN ?_)
                      refine T.has Has.nil ?_
                      refine T.ret ?_
                      have hM : windroselaw17_DepthOf_m a0 a1 a2 = false := by subst e117; subst e111; subst e108; subst e70; subst e69; subst e31; subst e28; subst e22; subst e27; rw [windroselaw17_DepthOf_m, hTc1, LR.seq_go, hTc2, LR.seq_go, if_f c48, hTc3, LR.seq_go, if_f c64, hEl4, LR.on_go, hTc6, LR.seq_go, if_pos g119, if_neg g124]
                      exact fin1L (v := .bool false) [] rfl rfl (List.Sublist.refl _) ⟨rfl, by rw [hM]⟩
                  · refine TL.off rfl rfl rfl ?_
                    refine TL.off rfl rfl rfl ?_
                    refine TL.off rfl rfl rfl ?_
                    refine R.pkFE rfl rfl (by conv => lhs; whnf) ?_
                    refine R.mvE rfl (by conv => lhs; whnf) ?_
                    refine TL.off rfl rfl rfl ?_
                    refine TL.off rfl rfl rfl ?_
                    refine TL.off rfl rfl rfl ?_
                    refine TL.off rfl rfl rfl ?_
                    refine R.pkFE rfl rfl (by conv => lhs; whnf) ?_
                    refine R.asE rfl (by conv => lhs; whnf) ?_
                    refine TL.nil (Post.thnN ?_)
                    refine T.has Has.nil ?_
                    refine T.ret ?_
                    have hM : windroselaw17_DepthOf_m a0 a1 a2 = false := by subst e117; subst e111; subst e108; subst e70; subst e69; subst e31; subst e28; subst e22; subst e27; rw [windroselaw17_DepthOf_m, hTc1, LR.seq_go, hTc2, LR.seq_go, if_f c48, hTc3, LR.seq_go, if_f c64, hEl4, LR.on_go, hTc6, LR.seq_go, if_neg g119]
                    exact fin1L (v := .bool false) [] rfl rfl (List.Sublist.refl _) ⟨rfl, by rw [hM]⟩

end Go.SX

set_option linter.unusedVariables false
set_option linter.unusedSimpArgs false
namespace Go.SX
open Go
theorem depthOf_l (s d : List Lk) (hs : rightD s = true) : ∀ (ns : List Int) (u : Unit), windroselaw17_DepthOf_l4 s d ns u = .go ()
  | [], _ => rfl
  | y :: ys, u => by
    rw [windroselaw17_DepthOf_l4]
    simp only [LR.seq, hs, if_true, ne_eq, not_true_eq_false, if_false]
    cases hd : rightD d <;> simp [hd, depthOf_l s d hs ys]
theorem ofD_or (x : List Lk) : (if (ofDR x).2 = 0 then ofD x else []) = (ofDR x).1 := by
  split
  · rename_i h; exact (congrArg Prod.fst (ofDR_ok h).2).symm
  · rename_i h; exact (ofDR_no h).symm
theorem okD_or (d : List Lk) : (if (!rightD d) = true then [] else d) = okD d := by
  unfold okD
  cases rightD d <;> rfl
theorem depthOf_true (a0 a1 : List Lk) (a2 : List Int) : windroselaw17_DepthOf_m a0 a1 a2 = true := by
  unfold windroselaw17_DepthOf_m
  simp only [LR.seq, ofD_or, okD_or, ne_eq, not_true_eq_false, if_false, decide_false, Bool.false_eq_true]
  rw [depthOf_l _ _ (ofDR_right _), LR.on_go]
  cases hd : rightD (a1.take (min a1.length 30)) <;> simp [hd]
end Go.SX

set_option linter.unusedVariables false
set_option linter.unusedSimpArgs false
namespace Go.SX
open Go Go.ChangeShapes Go.WideShapes Go.ChangeAt Go.RowKit

/-- All that stands in a world's memory can be read. -/
def heapOf (W : World) : Heap := fun b => W.heap[b]?
theorem sat_heapOf (W : World) : Sat (heapOf W) [] W := ⟨fun _ _ h => h, fun p h => (by cases h), List.nodup_nil, fun p h => (by cases h)⟩

/-- A contract of a function that hands back v, at a world. -/
theorem calls_of_Fv {P : Program} {f : FuncId} {fn : Func} {c : Code} {vs : List Value} {v : Value} {W : World} (hf : P.funcs[f]? = some fn) (hb : fn.body = some c) (hname : (fn.name == "runtime.NumGoroutine") = false)
    (h : Fv P (fnv f) vs (heapOf W) v) : Calls P f vs.toArray W fun e W' => e = .returned v ∧ Below W.heap.size W W' := by
  obtain ⟨nx, w1, h1, h2⟩ := h W (sat_heapOf W)
  have he := Go.Proofs.enters_of (P := P) hf hname hb vs.toArray W
  have hrun : Sem.run P (do let d ← Deferred.ofValue (fnv f) vs.toArray; invoke d.target d.args) W = .ok (.enter f vs.toArray) W := by
    simp [Deferred.ofValue, invoke, he]
  rw [hrun] at h1
  injection h1 with h1 h3
  subst h1; subst h3
  refine callsIn_wide.1 (CallsIn.mono h2 ?_)
  rintro e w' ⟨u, H', L', rfl, hst, rfl, rfl⟩
  exact ⟨rfl, hst.chg.os, hst.chg.tape, hst.chg.output, hst.chg.size, fun b hb => hst.chg.same b hb (by simp [keys])⟩

section
variable {H : Type} {enc : TypeId × Value → H} {P : Program}

theorem trodAll_below (hl : laidOutB P = true) {W W' : World} (hb : Below W.heap.size W W') {sp : Nat → Bool} : ∀ {ts : List TypeId} {vs : List Value} {ds : List (DataW H)} {p : List MemPlace},
    (∀ t ∈ ts, P.readableRec t = true ∧ t < P.types.size) → DataW.TrodAll enc P W 0 (fun _ => true) true ts vs ds p → (∀ q ∈ p, q.block < W.heap.size ∧ sp q.block = true) → DataW.TrodAll enc P W' 0 sp true ts vs ds p
  | [], _, _, _, _, h, _ => by
    obtain ⟨rfl, rfl, rfl⟩ := trodAll_nil h
    exact trodAll_mk0
  | t :: ts, _, _, _, ht, h, hp => by
    obtain ⟨v, vs, d, ds, a, b, rfl, rfl, rfl, h1, h2⟩ := trodAll_cons h
    have h3 := WideElems.Trod_stays (sp' := sp) hl (ht t (List.mem_cons_self ..)).1 (ht t (List.mem_cons_self ..)).2 h1 (fun x hx => hb.same (hp x (List.mem_append_left _ hx)).1) (fun x hx => (hp x (List.mem_append_left _ hx)).2)
    exact ⟨a, b, h3, trodAll_below hl hb (fun t' h' => ht t' (List.mem_cons_of_mem _ h')) h2 (fun x hx => hp x (List.mem_append_right _ hx)), rfl⟩

/-- What is asked behind a call that turned nothing of what there was, and says true. -/
theorem post_true {f : Func} {s : ChangeSpec} {fresh handsOn again : Bool} {W W' : World} {args : Array Value} {ds gs : List (DataW H)} {before : List MemPlace} {tb : TypeId} (hl : laidOutB P = true)
    (hW : DataW.Whole enc P f.params.toList s.vars false W args.toList ds gs before) (hvars : s.vars = []) (hpar : ∀ t ∈ f.params.toList, P.readableRec t = true ∧ t < P.types.size)
    (hs : s.fn H (ds ++ gs) = { results := [.lit (.bool true)], args := ds }) (hrt : f.resultTypes = #[tb]) (htb : P.underlying tb = some .bool) (hb : Below W.heap.size W W') :
    s.post enc P f false fresh handsOn again W args (.bool true) W' := by
  have hlt := hW.lt
  have hW0 := hW
  obtain ⟨p, q, hA, hV, rfl, hfz, hnd⟩ := hW
  rw [hvars] at hV
  obtain ⟨rfl, rfl⟩ := trodVars_none hV
  rw [List.append_nil] at hfz hlt
  have hres : ∀ (b : Nat) (sp : Nat → Bool) (hd : Bool), DataW.TrodAll enc P W' b sp hd f.resultTypes.toList ((Value.bool true).resultList f.resultTypes.size) [.lit (.bool true)] [] := by
    intro b sp hd
    rw [hrt]
    exact trodAll_mk1 (shut_bool htb true)
  have hargs : ∀ sp : Nat → Bool, (∀ x ∈ p, sp x.block = true) → DataW.TrodAll enc P W' 0 sp true f.params.toList args.toList ds p := fun sp hsp =>
    trodAll_below hl hb hpar hA (fun x hx => ⟨hlt x hx, hsp x hx⟩)
  have hvr : ∀ sp : Nat → Bool, DataW.TrodVars enc P W' sp s.vars ([] : List (DataW H)) [] := fun sp => by rw [hvars]; rfl
  refine ⟨ds, [], p ++ [], [], p, [], hW0, ?_, ?_, ?_, World.keptBut_mono (fun x hx => ⟨hx, ?_⟩) (hb.frame (· ∈ p ++ [])), fun _ => ?_⟩
  · rw [hs]; exact hres _ _ _
  · rw [hs]; exact hargs _ (fun x hx => by simpa using hlt x hx)
  · rw [hs]; exact hvr _
  · exact Or.inr (by simpa using hx)
  · refine ⟨ok_one hrt rfl (okWide_bool_mk htb true), _, _, ([] ++ p) ++ [], ⟨[] ++ p, [], trodAll_append (hargs _ (fun _ _ => rfl)) (hres _ _ _), hvr _, rfl, ?_, fun h => by cases h⟩, ?_⟩
    · intro b off hp
      have hp' : MemPlace.cell b off ∈ p := by simpa using hp
      have := hb.frozen (p := ⟨b, off, none⟩) (hlt _ hp')
      rw [this]
      exact hfz b off hp'
    · intro x hx _
      simpa using hx

theorem cellAt_heapOf {W : World} {b o : Nat} {v : Value} (h : W.cell? ⟨b, o, none⟩ = some v) : cellAt (heapOf W) b o = some v := by
  unfold World.cell? at h
  unfold cellAt heapOf
  simp only at h
  revert h
  cases hb : W.heap[b]? with
  | none => intro h; simp at h
  | some ob => cases ob <;> intro h <;> simp_all

end
end Go.SX

set_option linter.unusedVariables false
set_option linter.unusedSimpArgs false
namespace Go.SX
open Go Go.ChangeShapes Go.WideShapes Go.ChangeAt Go.RowKit Go.Deep
/-- What can be read at the type stands as E says. -/
def Opn (P : Program) (t : TypeId) {α : Type} (E : ER α) (Q : α → Prop) : Prop :=
  ∀ (H : Type) (enc : TypeId × Value → H) (W : World) (sp : Nat → Bool) (hd : Bool) (n : Nat) (cs : List Value) (x : DataW H × List MemPlace), DataW.trod enc P W 0 sp hd n t cs = some x → ∃ a, E.R (heapOf W) cs a ∧ Q a
theorem Opn.int {P : Program} {t : TypeId} {k : IntKind} (ht : P.underlying t = some (.int k)) : Opn P t (intE k) (fun x => (Lit.int k x).wf = true) := fun H enc W sp hd n cs x h => by
  obtain ⟨n, rfl, _, hw⟩ := DataW.trod_int ht h
  exact ⟨n, rfl, hw⟩
theorem Opn.bool {P : Program} {t : TypeId} (ht : P.underlying t = some .bool) : Opn P t boolE (fun _ => True) := fun H enc W sp hd n cs x h => by
  obtain ⟨b, rfl, _⟩ := DataW.trod_bool ht h
  exact ⟨b, rfl, trivial⟩
theorem Opn.weak {P : Program} {t : TypeId} {α : Type} {E : ER α} {Q Q' : α → Prop} (h : Opn P t E Q) (hq : ∀ a, Q a → Q' a) : Opn P t E Q' := fun H enc W sp hd n cs x hx => by
  obtain ⟨a, h1, h2⟩ := h H enc W sp hd n cs x hx
  exact ⟨a, h1, hq a h2⟩
/-- A struct of two ints. -/
theorem Opn.pair {P : Program} {t i : TypeId} {f0 f1 : Field} (ht : P.underlying t = some (.struct #[f0, f1])) (ct : P.cellsOf t = 2) (o0 : f0.offset = 0) (o1 : f1.offset = 1) (t0 : f0.type = i) (t1 : f1.type = i)
    (hi : P.underlying i = some (.int .i64)) (ci : P.cellsOf i = 1) : Opn P t pairE (fun _ => True) := fun H enc W sp hd n cs x h => by
  obtain ⟨xs, m, _, _, hl, hxl, hf⟩ := DataW.trod_struct ht h
  rw [ct] at hl
  match cs, hl, xs, hxl with
  | [v0, v1], _, [y0, y1], _ =>
    have g0 := hf 0 f0 rfl
    have g1 := hf 1 f1 rfl
    rw [o0, t0, ci] at g0
    rw [o1, t1, ci] at g1
    simp at g0 g1
    obtain ⟨a, ha, _⟩ := DataW.trod_int hi g0
    obtain ⟨b, hb, _⟩ := DataW.trod_int hi g1
    simp at ha hb
    subst ha; subst hb
    exact ⟨(a, b), rfl, trivial⟩
/-- An array of two ints. -/
theorem Opn.two {P : Program} {t i : TypeId} (ht : P.underlying t = some (.array 2 i)) (ct : P.cellsOf t = 2) (hi : P.underlying i = some (.int .i64)) (ci : P.cellsOf i = 1) : Opn P t pairE (fun _ => True) := fun H enc W sp hd n cs x h => by
  obtain ⟨xs, m, _, _, hl, hxl, hf⟩ := DataW.trod_array ht h
  rw [ct] at hl
  match cs, hl, xs, hxl with
  | [v0, v1], _, [y0, y1], _ =>
    have g0 := hf 0 (by omega)
    have g1 := hf 1 (by omega)
    rw [ci] at g0 g1
    simp at g0 g1
    obtain ⟨a, ha, _⟩ := DataW.trod_int hi g0
    obtain ⟨b, hb, _⟩ := DataW.trod_int hi g1
    simp at ha hb
    subst ha; subst hb
    exact ⟨(a, b), rfl, trivial⟩
/-- A slice. -/
theorem Opn.slice {P : Program} {t e : TypeId} {α : Type} {E : ER α} {Q : α → Prop} (ht : P.underlying t = some (.slice e)) (hc : P.cellsOf e = E.size) (he : Opn P e E Q) (hs : 0 < E.size) : Opn P t (slE E) (fun xs => ∀ x ∈ xs, Q x) := fun H enc W sp hd n cs x h => by
  rcases open_slice ht h with ⟨rfl, _⟩ | ⟨a, len, cap, m, n', D, Pl, rfl, _, hl, hm, hmm, _, hx⟩
  · exact ⟨[], ⟨_, rfl, RdS.nil⟩, fun x hx => by simp at hx⟩
  · have key : ∀ i, i < len → ∃ x, (∃ b o, a = ⟨b, o, none⟩ ∧ ElemAt E (heapOf W) b (o + i * E.size) x) ∧ Q x := fun i hi => by
      obtain ⟨cs', h1, h2⟩ := hx i (by rw [hmm]; split <;> omega)
      obtain ⟨x, h3, h4⟩ := he H enc W sp hd n' cs' _ h2
      refine ⟨x, ?_, h4⟩
      rw [hc] at h1
      obtain ⟨_, hlen, hcell⟩ := World.cells?_some h1
      obtain ⟨ab, ao, asp⟩ := a
      cases asp with
      | none =>
        refine ⟨ab, ao, rfl, cs', h3, fun j u hj => ?_⟩
        have hjl : j < E.size := by rw [← hlen]; exact (List.getElem?_eq_some_iff.1 hj).1
        have h5 := hcell j hjl
        rw [hj, add_add, Addr.add_lit] at h5
        have := cellAt_heapOf h5
        rw [show ao + i * E.size + j = ao + (i * E.size + j) by omega]
        exact this
      | some s =>
        exfalso
        obtain ⟨cs0, k1, _⟩ := hx 0 (by rw [hmm]; split <;> omega)
        rw [hc, Nat.zero_mul, Addr.add_zero'] at k1
        obtain ⟨_, klen, kcell⟩ := World.cells?_some k1
        have h5 := kcell 0 hs
        rw [Addr.add_zero'] at h5
        obtain ⟨u, hu⟩ : ∃ u, cs0[0]? = some u := ⟨cs0[0], List.getElem?_eq_getElem (by omega)⟩
        rw [hu] at h5
        unfold World.cell? at h5
        revert h5
        cases hb : W.heap[ab]? with
        | none => intro h; simp [hb] at h
        | some ob => cases ob <;> intro h <;> simp [hb] at h
    obtain ⟨f, hf⟩ : ∃ f : Nat → Option α, ∀ i, i < len → ∃ x, f i = some x ∧ (∃ b o, a = ⟨b, o, none⟩ ∧ ElemAt E (heapOf W) b (o + i * E.size) x) ∧ Q x := by
      classical
      refine ⟨fun i => if hi : i < len then some (Classical.choose (key i hi)) else none, fun i hi => ?_⟩
      exact ⟨_, dif_pos hi, Classical.choose_spec (key i hi)⟩
    have hxs : ∀ n, n ≤ len → ∃ xs : List α, xs.length = n ∧ ∀ i, i < n → xs[i]? = f i := fun n => by
      induction n with
      | zero => exact fun _ => ⟨[], rfl, fun i hi => absurd hi (Nat.not_lt_zero _)⟩
      | succ n ih =>
        intro hn
        obtain ⟨xs, h1, h2⟩ := ih (by omega)
        obtain ⟨x, h3, _⟩ := hf n (by omega)
        refine ⟨xs ++ [x], by simp [h1], fun i hi => ?_⟩
        by_cases h : i < n
        · rw [List.getElem?_append_left (by omega)]; exact h2 i h
        · obtain rfl : i = n := by omega
          rw [List.getElem?_append_right (by omega), h1, Nat.sub_self, h3]; rfl
    obtain ⟨xs, h1, h2⟩ := hxs len (Nat.le_refl _)
    subst h1
    refine ⟨xs, ⟨_, rfl, some a, cap, rfl, hl, hm, fun i x hx => ?_⟩, fun x hx => ?_⟩
    · have hi : i < xs.length := (List.getElem?_eq_some_iff.1 hx).1
      obtain ⟨y, h3, ⟨b, o, h4, h5⟩, _⟩ := hf i hi
      rw [h2 i hi, h3] at hx
      injection hx with hx
      subst hx
      exact ⟨b, o, by rw [h4], h5⟩
    · obtain ⟨i, hi, rfl⟩ := List.mem_iff_getElem.1 hx
      obtain ⟨y, h3, _, h4⟩ := hf i hi
      have := h2 i hi
      rw [h3, List.getElem?_eq_getElem hi] at this
      injection this with this
      rw [this]; exact h4
section
variable {P : Program} {H : Type} {enc : TypeId × Value → H} {W : World} {r : Reach} {b0 : Nat} {t : TypeId} {v : Value} {d : DataW H} {p : List MemPlace} {α : Type} {E : ER α} {Q : α → Prop}
/-- A slice that is handed in. -/
theorem open_sl {e : TypeId} (ht : P.underlying t = some (.slice e)) (ho : Opn P t (slE E) (fun xs => ∀ x ∈ xs, Q x)) (hval : Value.okWide P W r b0 t v) (h : DataW.Trod enc P W 0 (fun _ => true) true t v d p) :
    ∃ xs : List α, RdS E (heapOf W) v xs ∧ ∀ x ∈ xs, Q x := by
  obtain ⟨a0, len, cap, rfl⟩ := okWide_slice ht hval
  obtain ⟨n, hn⟩ := h
  obtain ⟨xs, ⟨u, h1, h2⟩, h3⟩ := ho H enc W _ _ n _ _ hn
  have : Value.slice a0 len cap = u := by simpa [Value.cells] using h1
  rw [this]
  exact ⟨xs, h2, h3⟩
end
end Go.SX

set_option linter.unusedVariables false
namespace Go.Proofs.YtfidlmknejooeaaGreat
open Go.ChangeShapes Go.WideShapes Go.ChangeAt Go.RowKit Go.SX

theorem depthOf_own : ownKnob Tryz.prog.godebug = none := by kernel_rfl
theorem depthOf_laid : laidOutB Tryz.prog = true := by kernel_rfl

set_option maxRecDepth 100000 in
theorem depthOf_lifted (os : Os) (started : os.Started) (H : Type) (enc : TypeId × Value → H) :
    ReturnsInHanded {} Tryz.checked os 3 .any (Rows.depthOfSpec.pre6 enc Tryz.prog Tryz.f3 Rows.depthOfRow.domain false) (Rows.depthOfSpec.post enc Tryz.prog Tryz.f3 false true false false) := by
  refine returnsInHanded_of_change (C := Tryz.checked) depthOf_own started (by kernel_rfl) Tryz.func3
    (ChangeSpec.witness6 (enc := enc) (C := Tryz.checked) false ⟨#[], #[.slice none 0 0, .slice none 0 0, .slice none 0 0], []⟩ 8 (by kernel_rfl) (by kernel_rfl) (by kernel_rfl) (by kernel_rfl)) ?_
  intro W base args ds gs before hval0 hW hcnd _
  have hval : ∀ (j : Nat) t v, Tryz.f3.params[j]? = some t → args[j]? = some v → Value.okWide Tryz.prog W .any base t v := hval0
  have hW' := hW
  obtain ⟨p, q, hA0, hV, rfl, hfz, hnd⟩ := hW
  have hA : DataW.TrodAll enc Tryz.prog W 0 (fun _ => true) true Tryz.f3.params.toList args.toList ds p := hA0
  rw [Tryz.params3] at hA hval
  clear hA0 hval0
  obtain ⟨v0, vs0, d0, ds0, p0, q0, e0, rfl, rfl, h0, r0⟩ := trodAll_cons hA
  obtain ⟨v1, vs1, d1, ds1, p1, q1, e1, rfl, rfl, h1, r1⟩ := trodAll_cons r0
  subst e1
  obtain ⟨v2, vs2, d2, ds2, p2, q2, e2, rfl, rfl, h2, r2⟩ := trodAll_cons r1
  subst e2
  obtain ⟨e3, rfl, rfl⟩ := trodAll_nil r2
  subst e3
  obtain rfl : args = #[v0, v1, v2] := by cases args; simp_all
  obtain ⟨rfl, rfl⟩ := trodVars_none hV
  obtain ⟨xs0, hr0, hw0⟩ := open_sl Tryz.underlying22 (Opn.slice Tryz.underlying22 (by kernel_rfl) (Opn.pair Tryz.underlying45 (by kernel_rfl) rfl rfl rfl rfl Tryz.underlying3 (by kernel_rfl)) (by decide)) (hval 0 22 v0 rfl rfl) h0
  obtain ⟨xs1, hr1, hw1⟩ := open_sl Tryz.underlying23 (Opn.slice Tryz.underlying23 (by kernel_rfl) (Opn.pair Tryz.underlying29 (by kernel_rfl) rfl rfl rfl rfl Tryz.underlying3 (by kernel_rfl)) (by decide)) (hval 1 23 v1 rfl rfl) h1
  obtain ⟨xs2, hr2, hw2⟩ := open_sl Tryz.underlying24 (Opn.slice Tryz.underlying24 (by kernel_rfl) (Opn.int Tryz.underlying3) (by decide)) (hval 2 24 v2 rfl rfl) h2
  have hpar : ∀ t ∈ Tryz.f3.params.toList, Tryz.prog.readableRec t = true ∧ t < Tryz.prog.types.size := by
    intro t ht
    rw [Tryz.params3] at ht
    simp only [List.mem_cons, List.not_mem_nil, or_false] at ht
    rcases ht with rfl | rfl | rfl
    · exact ⟨by kernel_rfl, of_decide_eq_true (by kernel_rfl)⟩
    · exact ⟨by kernel_rfl, of_decide_eq_true (by kernel_rfl)⟩
    · exact ⟨by kernel_rfl, of_decide_eq_true (by kernel_rfl)⟩
  refine (calls_of_Fv Tryz.func3 rfl (by kernel_rfl) (Fv.to (windroselaw17_DepthOf_c _ _ xs0 hr0 _ xs1 hr1 _ xs2 hr2) (congrArg Value.bool (depthOf_true xs0 xs1 xs2)))).mono fun e W' ⟨he, hb⟩ => ?_
  subst he
  exact ⟨_, rfl, post_true depthOf_laid hW' rfl hpar rfl rfl Tryz.underlying4 hb⟩

theorem depthOf_holds : Rows.DepthOfSaid :=
  OpenClaim.holds_of_wide 3 Tryz.f3 rfl rfl rfl rfl rfl rfl rfl ⟨rfl, rfl, rfl, rfl, rfl⟩ rfl rfl rfl rfl rfl (by kernel_rfl) Tryz.func3 (by kernel_rfl)
    (of_decide_eq_true (by kernel_rfl)) (by unfold Func.isWrapper; first | (rw [if_pos (by decide +kernel)]; kernel_rfl) | (rw [if_neg (by decide +kernel)]; exact ⟨rfl, rfl⟩))
    (fun os started H enc _ => depthOf_lifted os started H enc)
end Go.Proofs.YtfidlmknejooeaaGreat
