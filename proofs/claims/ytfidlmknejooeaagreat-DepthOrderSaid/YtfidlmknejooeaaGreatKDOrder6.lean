/- 'DepthOrder' answers true, whatever it is handed, and what it is handed reads behind it as it did. -/
import Derived.RangeFuncNested
import Derived.RangeFuncBound
import Derived.RangeFuncCalls
import Derived.RangeFuncLeaves
import Derived.Shelf.Abstract
import Derived.Laws.AppendOwn
import Derived.Laws.OwnMore
import Derived.KernelRfl
import Derived.IntWalk
import Derived.Laws.Append
import Derived.WideLaws
import Derived.Laws.Slices
import Derived.Laws.MakeOwn
import Derived.OrdersIn
import Derived.Laws.Cover3
import Derived.Test.YtfidlmknejooeaaGreatProg
import Derived.Sort.OwnSortedInts
import Derived.Shelf.Sort.Plain
import Derived.Laws.StructEq
import Derived.Maps.RangeRun
import Derived.Shelf.SlSortCmp.NoneTotal
import Derived.Deep.Draws
import Derived.Shelf.Slices.In.SortNone
import Derived.ProofKit
import Derived.ChangeSlices
import Derived.Carry
import Derived.Deep.Slices
import Derived.OpenShut
import Derived.Test.YtfidlmknejooeaaGreatRows
import Derived.Test.YtfidlmknejooeaaGreatKDOrder5
set_option linter.unusedVariables false
set_option linter.unusedSimpArgs false
namespace Go.SX
open Go Go.Proofs

set_option maxHeartbeats 1600000 in
theorem dcheck_c (H : Heap) (v : Value) (d : List Lk) (hr : RdS pairE H v d) : Fv Tryz.prog (fnv 18) [v] H (.int .i64 (if rightD d then 0 else 271)) := by
  refine Fc.of_body (N := 46) Tryz.func18 rfl (by kernel_rfl) rfl rfl ?_
  intro w0
  obtain ⟨A, c, rfl, hc1, hc2, hr⟩ := hr.shape
  refine T.seq ?_
  refine T.region ?_
  refine R.asE rfl (by conv => lhs; whnf) ?_
  refine TL.nil (Post.thnN ?_)
  refine T.scope ?_
  refine T.seq ?_
  refine T.region ?_
  refine R.asE rfl (by conv => lhs; whnf) ?_
  refine TL.nil (Post.thnN ?_)
  refine T.seq ?_
  refine T.label (Post.thnN ?_)
  refine T.seq ?_
  refine T.seq ?_
  refine T.region ?_
  refine R.mvE rfl (by conv => lhs; whnf) ?_
  refine R.len Tryz.underlying23 rfl rfl ?_
  refine R.mvE rfl (by conv => lhs; whnf) ?_
  refine TL.nil (Post.thnN ?_)
  refine T.block ?_
  refine T.loop (ι := Nat) (fun k H' L' ds' => k ≤ d.length ∧ L' = [] ∧ ds' = [] ∧ rightD (d.take k) = true) (fun k => [(0, .slice A d.length c), (3, .bool true), (6, .slice A d.length c), (7, .int .i64 d.length), (8, .int .i64 k)]) (fun k => d.length - k) (0) ?_ ?_ ?_
  · exact ⟨Nat.zero_le _, rfl, rfl, rightD_nil⟩
  · exact ⟨rfl, rfl, rfl, rfl, rfl, trivial⟩
  · intro k σ0 H_0 L_0 ds_0 s_0 hI_0
    obtain ⟨hk, rfl, rfl, hg⟩ := hI_0
    refine T.seq ?_
    refine T.region ?_
    refine R.lss rfl rfl rfl ?_
    refine TL.nil (Post.thnN ?_)
    refine T.seq ?_
    refine T.condD rfl (fun c9 => ?_) (fun c9 => ?_)
    · have hlt : k < d.length := by omega
      obtain ⟨y, hy⟩ := getk hlt
      refine T.skip (Post.thnN ?_)
      refine T.seq ?_
      refine T.block ?_
      refine T.seq ?_
      refine T.region ?_
      refine R.mvE rfl (by conv => lhs; whnf) ?_
      obtain ⟨b11, o11, i11, e11⟩ := (hr.mono s_0).elem (hy)
      refine R.ixp Tryz.underlying23 Tryz.sizeOf29 rfl rfl rfl (by omega) i11 ?_
      refine R.ldP Tryz.isAgg29 Tryz.sizeOf29 rfl rfl (e11) ?_
      refine R.alloc Tryz.zeroValue29 rfl ?_
      intro b5
      refine R.asE rfl (by conv => lhs; whnf) ?_
      refine R.stA (old := [.int .i64 0, .int .i64 0]) Tryz.sizeOf29 rfl rfl rfl rfl rfl (by intro v hv; simp at hv; rcases hv with rfl | rfl <;> rfl) .hd ?_
      refine TL.nil (Post.thnN ?_)
      refine T.cut (ι := Unit) (fun _ H' L' ds' => L' = [] ∧ ds' = []) (fun _ => [(0, .slice A d.length c), (3, .bool (goodB d k y)), (6, .slice A d.length c), (7, .int .i64 d.length), (8, .int .i64 k)]) ?_ ?_
      · refine T.shut .hd ?_
        intro H5 s5 q5
        have h5 : H5 b5 = some (.cells #[.int .i64 y.1, .int .i64 y.2] 29) := shut1 q5
        refine T.draw Tryz_mixed (by kernel_rfl) ?_
        refine Plan.v 0 [1, 2, 3, 4, 5, 6, 7, 8, 9, 10, 11, 12, 13, 14, 15, 16, 17, 18, 19, 20, 21, 22, 23, 24, 25, 26, 27, 28] (by kernel_rfl) (by kernel_rfl) (by kernel_rfl) (by kernel_rfl) rfl (fun _ _ h_ => R.fldA Tryz.underlying29 rfl Tryz.sizeOf3 (by decide) rfl rfl (TL.nil h_)) ?_
        refine Plan.v 1 [2, 3, 4, 5, 6, 7, 8, 9, 10, 11, 12, 13, 14, 15, 16, 17, 18, 19, 20, 21, 22, 23, 24, 25, 26, 27, 28] (by kernel_rfl) (by kernel_rfl) (by kernel_rfl) (by kernel_rfl) rfl (fun _ _ h_ => R.ldH Tryz.isAgg3 rfl rfl (h5) rfl (TL.nil h_)) ?_
        refine Plan.v 2 [3, 4, 5, 6, 7, 8, 9, 10, 11, 12, 13, 14, 15, 16, 17, 18, 19, 20, 21, 22, 23, 24, 25, 26, 27, 28] (by kernel_rfl) (by kernel_rfl) (by kernel_rfl) (by kernel_rfl) rfl (fun _ _ h_ => R.geq rfl rfl rfl (TL.nil h_)) ?_
        refine Plan.v 3 [4, 5, 6, 7, 8, 9, 10, 11, 12, 13, 14, 15, 16, 17, 18, 19, 20, 21, 22, 23, 24, 25, 26, 27, 28] (by kernel_rfl) (by kernel_rfl) (by kernel_rfl) (by kernel_rfl) rfl (fun _ _ h_ => R.mvE rfl (by conv => lhs; whnf) (TL.nil h_)) ?_
        refine Plan.gsplitD 16 rfl (fun g16 => ?_) (fun g16 => ?_)
        · refine Plan.v 4 [5, 6, 7, 8, 9, 10, 11, 12, 13, 14, 15, 16, 17, 18, 19, 20, 21, 22, 23, 24, 25, 26, 27, 28] (by kernel_rfl) (by kernel_rfl) (by kernel_rfl) (by kernel_rfl) rfl (fun _ _ h_ => R.fldA Tryz.underlying29 rfl Tryz.sizeOf3 (by decide) rfl rfl (TL.nil h_)) ?_
          refine Plan.v 5 [6, 7, 8, 9, 10, 11, 12, 13, 14, 15, 16, 17, 18, 19, 20, 21, 22, 23, 24, 25, 26, 27, 28] (by kernel_rfl) (by kernel_rfl) (by kernel_rfl) (by kernel_rfl) rfl (fun _ _ h_ => R.ldH Tryz.isAgg3 rfl rfl (h5) rfl (TL.nil h_)) ?_
          refine Plan.v 6 [7, 8, 9, 10, 11, 12, 13, 14, 15, 16, 17, 18, 19, 20, 21, 22, 23, 24, 25, 26, 27, 28] (by kernel_rfl) (by kernel_rfl) (by kernel_rfl) (by kernel_rfl) rfl (fun _ _ h_ => R.leq rfl rfl rfl (TL.nil h_)) ?_
          refine Plan.v 7 [8, 9, 10, 11, 12, 13, 14, 15, 16, 17, 18, 19, 20, 21, 22, 23, 24, 25, 26, 27, 28] (by kernel_rfl) (by kernel_rfl) (by kernel_rfl) (by kernel_rfl) rfl (fun _ _ h_ => R.pkTE rfl rfl (by conv => lhs; whnf) (TL.nil h_)) ?_
          refine Plan.v 8 [9, 10, 11, 12, 13, 14, 15, 16, 17, 18, 19, 20, 21, 22, 23, 24, 25, 26, 27, 28] (by kernel_rfl) (by kernel_rfl) (by kernel_rfl) (by kernel_rfl) rfl (fun _ _ h_ => R.mvE rfl (by conv => lhs; whnf) (TL.nil h_)) ?_
          refine Plan.gsplitD 21 rfl (fun g21 => ?_) (fun g21 => ?_)
          · refine Plan.v 9 [10, 11, 12, 13, 14, 15, 16, 17, 18, 19, 20, 21, 22, 23, 24, 25, 26, 27, 28] (by kernel_rfl) (by kernel_rfl) (by kernel_rfl) (by kernel_rfl) rfl (fun _ _ h_ => R.fldA Tryz.underlying29 rfl Tryz.sizeOf3 (by decide) rfl rfl (TL.nil h_)) ?_
            refine Plan.v 10 [11, 12, 13, 14, 15, 16, 17, 18, 19, 20, 21, 22, 23, 24, 25, 26, 27, 28] (by kernel_rfl) (by kernel_rfl) (by kernel_rfl) (by kernel_rfl) rfl (fun _ _ h_ => R.ldH Tryz.isAgg3 rfl rfl (h5) rfl (TL.nil h_)) ?_
            refine Plan.v 11 [12, 13, 14, 15, 16, 17, 18, 19, 20, 21, 22, 23, 24, 25, 26, 27, 28] (by kernel_rfl) (by kernel_rfl) (by kernel_rfl) (by kernel_rfl) rfl (fun _ _ h_ => R.geq rfl rfl rfl (TL.nil h_)) ?_
            refine Plan.v 12 [13, 14, 15, 16, 17, 18, 19, 20, 21, 22, 23, 24, 25, 26, 27, 28] (by kernel_rfl) (by kernel_rfl) (by kernel_rfl) (by kernel_rfl) rfl (fun _ _ h_ => R.pkTE rfl rfl (by conv => lhs; whnf) (TL.nil h_)) ?_
            refine Plan.v 13 [14, 15, 16, 17, 18, 19, 20, 21, 22, 23, 24, 25, 26, 27, 28] (by kernel_rfl) (by kernel_rfl) (by kernel_rfl) (by kernel_rfl) rfl (fun _ _ h_ => R.mvE rfl (by conv => lhs; whnf) (TL.nil h_)) ?_
            refine Plan.gsplitD 26 rfl (fun g26 => ?_) (fun g26 => ?_)
            · refine Plan.v 14 [15, 16, 17, 18, 19, 20, 21, 22, 23, 24, 25, 26, 27, 28] (by kernel_rfl) (by kernel_rfl) (by kernel_rfl) (by kernel_rfl) rfl (fun _ _ h_ => R.mvE rfl (by conv => lhs; whnf) (TL.nil h_)) ?_
              refine Plan.v 15 [16, 17, 18, 19, 20, 21, 22, 23, 24, 25, 26, 27, 28] (by kernel_rfl) (by kernel_rfl) (by kernel_rfl) (by kernel_rfl) rfl (fun _ _ h_ => R.eql rfl rfl rfl (TL.nil h_)) ?_
              refine Plan.v 16 [17, 18, 19, 20, 21, 22, 23, 24, 25, 26, 27, 28] (by kernel_rfl) (by kernel_rfl) (by kernel_rfl) (by kernel_rfl) rfl (fun _ _ h_ => R.mvE rfl (by conv => lhs; whnf) (TL.nil h_)) ?_
              refine Plan.gsplitD 29 rfl (fun g29 => ?_) (fun g29 => ?_)
              · refine Plan.v 17 [18, 19, 20, 21, 22, 23, 24, 25, 26, 27, 28] (by kernel_rfl) (by kernel_rfl) (by kernel_rfl) (by kernel_rfl) rfl (fun _ _ h_ => TL.off rfl rfl rfl (TL.nil h_)) ?_
                refine Plan.v 18 [19, 20, 21, 22, 23, 24, 25, 26, 27, 28] (by kernel_rfl) (by kernel_rfl) (by kernel_rfl) (by kernel_rfl) rfl (fun _ _ h_ => TL.off rfl rfl rfl (TL.nil h_)) ?_
                refine Plan.v 19 [20, 21, 22, 23, 24, 25, 26, 27, 28] (by kernel_rfl) (by kernel_rfl) (by kernel_rfl) (by kernel_rfl) rfl (fun _ _ h_ => TL.off rfl rfl rfl (TL.nil h_)) ?_
                refine Plan.v 20 [21, 22, 23, 24, 25, 26, 27, 28] (by kernel_rfl) (by kernel_rfl) (by kernel_rfl) (by kernel_rfl) rfl (fun _ _ h_ => TL.off rfl rfl rfl (TL.nil h_)) ?_
                refine Plan.v 21 [22, 23, 24, 25, 26, 27, 28] (by kernel_rfl) (by kernel_rfl) (by kernel_rfl) (by kernel_rfl) rfl (fun _ _ h_ => TL.off rfl rfl rfl (TL.nil h_)) ?_
                refine Plan.v 22 [23, 24, 25, 26, 27, 28] (by kernel_rfl) (by kernel_rfl) (by kernel_rfl) (by kernel_rfl) rfl (fun _ _ h_ => TL.off rfl rfl rfl (TL.nil h_)) ?_
                refine Plan.v 23 [24, 25, 26, 27, 28] (by kernel_rfl) (by kernel_rfl) (by kernel_rfl) (by kernel_rfl) rfl (fun _ _ h_ => TL.off rfl rfl rfl (TL.nil h_)) ?_
                refine Plan.v 24 [25, 26, 27, 28] (by kernel_rfl) (by kernel_rfl) (by kernel_rfl) (by kernel_rfl) rfl (fun _ _ h_ => TL.off rfl rfl rfl (TL.nil h_)) ?_
                refine Plan.v 25 [26, 27, 28] (by kernel_rfl) (by kernel_rfl) (by kernel_rfl) (by kernel_rfl) rfl (fun _ _ h_ => TL.off rfl rfl rfl (TL.nil h_)) ?_
                refine Plan.v 26 [27, 28] (by kernel_rfl) (by kernel_rfl) (by kernel_rfl) (by kernel_rfl) rfl (fun _ _ h_ => R.pkTE rfl rfl (by conv => lhs; whnf) (TL.nil h_)) ?_
                refine Plan.v 27 [28] (by kernel_rfl) (by kernel_rfl) (by kernel_rfl) (by kernel_rfl) rfl (fun _ _ h_ => R.pkTE rfl rfl (by conv => lhs; whnf) (TL.nil h_)) ?_
                refine Plan.v 28 [] (by kernel_rfl) (by kernel_rfl) (by kernel_rfl) (by kernel_rfl) rfl (fun _ _ h_ => R.asE rfl (by conv => lhs; whnf) (TL.nil h_)) ?_
                refine Plan.done (Post.thnN ?_)
                -- cut r5, way yyyy
                exact ⟨(), s5, ⟨rfl, rfl⟩, rfl, congrArg Value.bool (by rw [Bool.eq_iff_iff]; unfold goodB; simp only [decide_eq_true_eq, Bool.false_eq_true, false_iff, true_iff]; omega), rfl, rfl, rfl, trivial⟩
              · obtain ⟨y', hy'⟩ := getk (xs := d) (k := ((k : Int) - 1).toNat) (by omega)
                have hpv : prevF d k = y'.1 := prevF_at (by rw [← hy']; congr 1; omega)
                refine Plan.v 17 [18, 19, 20, 21, 22, 23, 24, 25, 26, 27, 28] (by kernel_rfl) (by kernel_rfl) (by kernel_rfl) (by kernel_rfl) rfl (fun _ _ h_ => R.mvE rfl (by conv => lhs; whnf) (TL.nil h_)) ?_
                refine Plan.v 18 [19, 20, 21, 22, 23, 24, 25, 26, 27, 28] (by kernel_rfl) (by kernel_rfl) (by kernel_rfl) (by kernel_rfl) rfl (fun _ _ h_ => R.mvE rfl (by conv => lhs; whnf) (TL.nil h_)) ?_
                refine Plan.v 19 [20, 21, 22, 23, 24, 25, 26, 27, 28] (by kernel_rfl) (by kernel_rfl) (by kernel_rfl) (by kernel_rfl) rfl (fun _ _ h_ => R.subI rfl rfl rfl (by omega) (TL.nil h_)) ?_
                obtain ⟨b33, o33, i33, e33⟩ := (hr.mono (s_0.trans s5)).elem (hy')
                refine Plan.v 20 [21, 22, 23, 24, 25, 26, 27, 28] (by kernel_rfl) (by kernel_rfl) (by kernel_rfl) (by kernel_rfl) rfl (fun _ _ h_ => R.ixp Tryz.underlying23 Tryz.sizeOf29 rfl rfl rfl (by omega) i33 (TL.nil h_)) ?_
                refine Plan.v 21 [22, 23, 24, 25, 26, 27, 28] (by kernel_rfl) (by kernel_rfl) (by kernel_rfl) (by kernel_rfl) rfl (fun _ _ h_ => R.fldA Tryz.underlying29 rfl Tryz.sizeOf3 (by decide) rfl rfl (TL.nil h_)) ?_
                refine Plan.v 22 [23, 24, 25, 26, 27, 28] (by kernel_rfl) (by kernel_rfl) (by kernel_rfl) (by kernel_rfl) rfl (fun _ _ h_ => R.ldC Tryz.isAgg3 rfl rfl (ElemAt.fst e33) (TL.nil h_)) ?_
                refine Plan.v 23 [24, 25, 26, 27, 28] (by kernel_rfl) (by kernel_rfl) (by kernel_rfl) (by kernel_rfl) rfl (fun _ _ h_ => R.fldA Tryz.underlying29 rfl Tryz.sizeOf3 (by decide) rfl rfl (TL.nil h_)) ?_
                refine Plan.v 24 [25, 26, 27, 28] (by kernel_rfl) (by kernel_rfl) (by kernel_rfl) (by kernel_rfl) rfl (fun _ _ h_ => R.ldH Tryz.isAgg3 rfl rfl (h5) rfl (TL.nil h_)) ?_
                refine Plan.v 25 [26, 27, 28] (by kernel_rfl) (by kernel_rfl) (by kernel_rfl) (by kernel_rfl) rfl (fun _ _ h_ => R.lss rfl rfl rfl (TL.nil h_)) ?_
                refine Plan.v 26 [27, 28] (by kernel_rfl) (by kernel_rfl) (by kernel_rfl) (by kernel_rfl) rfl (fun _ _ h_ => R.pkFE rfl rfl (by conv => lhs; whnf) (TL.nil h_)) ?_
                refine Plan.v 27 [28] (by kernel_rfl) (by kernel_rfl) (by kernel_rfl) (by kernel_rfl) rfl (fun _ _ h_ => R.pkTE rfl rfl (by conv => lhs; whnf) (TL.nil h_)) ?_
                refine Plan.v 28 [] (by kernel_rfl) (by kernel_rfl) (by kernel_rfl) (by kernel_rfl) rfl (fun _ _ h_ => R.asE rfl (by conv => lhs; whnf) (TL.nil h_)) ?_
                refine Plan.done (Post.thnN ?_)
                -- cut r5, way yyyn
                exact ⟨(), s5, ⟨rfl, rfl⟩, rfl, congrArg Value.bool (by rw [Bool.eq_iff_iff]; unfold goodB; simp only [decide_eq_true_eq, Bool.false_eq_true, false_iff, true_iff]; omega), rfl, rfl, rfl, trivial⟩
            · refine Plan.v 14 [15, 16, 17, 18, 19, 20, 21, 22, 23, 24, 25, 26, 27, 28] (by kernel_rfl) (by kernel_rfl) (by kernel_rfl) (by kernel_rfl) rfl (fun _ _ h_ => TL.off rfl rfl rfl (TL.nil h_)) ?_
              refine Plan.v 15 [16, 17, 18, 19, 20, 21, 22, 23, 24, 25, 26, 27, 28] (by kernel_rfl) (by kernel_rfl) (by kernel_rfl) (by kernel_rfl) rfl (fun _ _ h_ => TL.off rfl rfl rfl (TL.nil h_)) ?_
              refine Plan.v 16 [17, 18, 19, 20, 21, 22, 23, 24, 25, 26, 27, 28] (by kernel_rfl) (by kernel_rfl) (by kernel_rfl) (by kernel_rfl) rfl (fun _ _ h_ => TL.off rfl rfl rfl (TL.nil h_)) ?_
              refine Plan.v 17 [18, 19, 20, 21, 22, 23, 24, 25, 26, 27, 28] (by kernel_rfl) (by kernel_rfl) (by kernel_rfl) (by kernel_rfl) rfl (fun _ _ h_ => TL.offU rfl rfl (TL.nil h_)) ?_
              refine Plan.v 18 [19, 20, 21, 22, 23, 24, 25, 26, 27, 28] (by kernel_rfl) (by kernel_rfl) (by kernel_rfl) (by kernel_rfl) rfl (fun _ _ h_ => TL.offU rfl rfl (TL.nil h_)) ?_
              refine Plan.v 19 [20, 21, 22, 23, 24, 25, 26, 27, 28] (by kernel_rfl) (by kernel_rfl) (by kernel_rfl) (by kernel_rfl) rfl (fun _ _ h_ => TL.offU rfl rfl (TL.nil h_)) ?_
              refine Plan.v 20 [21, 22, 23, 24, 25, 26, 27, 28] (by kernel_rfl) (by kernel_rfl) (by kernel_rfl) (by kernel_rfl) rfl (fun _ _ h_ => TL.offU rfl rfl (TL.nil h_)) ?_
              refine Plan.v 21 [22, 23, 24, 25, 26, 27, 28] (by kernel_rfl) (by kernel_rfl) (by kernel_rfl) (by kernel_rfl) rfl (fun _ _ h_ => TL.offU rfl rfl (TL.nil h_)) ?_
              refine Plan.v 22 [23, 24, 25, 26, 27, 28] (by kernel_rfl) (by kernel_rfl) (by kernel_rfl) (by kernel_rfl) rfl (fun _ _ h_ => TL.offU rfl rfl (TL.nil h_)) ?_
              refine Plan.v 23 [24, 25, 26, 27, 28] (by kernel_rfl) (by kernel_rfl) (by kernel_rfl) (by kernel_rfl) rfl (fun _ _ h_ => TL.offU rfl rfl (TL.nil h_)) ?_
              refine Plan.v 24 [25, 26, 27, 28] (by kernel_rfl) (by kernel_rfl) (by kernel_rfl) (by kernel_rfl) rfl (fun _ _ h_ => TL.offU rfl rfl (TL.nil h_)) ?_
              refine Plan.v 25 [26, 27, 28] (by kernel_rfl) (by kernel_rfl) (by kernel_rfl) (by kernel_rfl) rfl (fun _ _ h_ => TL.offU rfl rfl (TL.nil h_)) ?_
              refine Plan.v 26 [27, 28] (by kernel_rfl) (by kernel_rfl) (by kernel_rfl) (by kernel_rfl) rfl (fun _ _ h_ => TL.off rfl rfl rfl (TL.nil h_)) ?_
              refine Plan.v 27 [28] (by kernel_rfl) (by kernel_rfl) (by kernel_rfl) (by kernel_rfl) rfl (fun _ _ h_ => R.pkFE rfl rfl (by conv => lhs; whnf) (TL.nil h_)) ?_
              refine Plan.v 28 [] (by kernel_rfl) (by kernel_rfl) (by kernel_rfl) (by kernel_rfl) rfl (fun _ _ h_ => R.asE rfl (by conv => lhs; whnf) (TL.nil h_)) ?_
              refine Plan.done (Post.thnN ?_)
              -- cut r5, way yyn
              exact ⟨(), s5, ⟨rfl, rfl⟩, rfl, congrArg Value.bool (by rw [Bool.eq_iff_iff]; unfold goodB; simp only [decide_eq_true_eq, Bool.false_eq_true, false_iff, true_iff]; omega), rfl, rfl, rfl, trivial⟩
          · refine Plan.v 9 [10, 11, 12, 13, 14, 15, 16, 17, 18, 19, 20, 21, 22, 23, 24, 25, 26, 27, 28] (by kernel_rfl) (by kernel_rfl) (by kernel_rfl) (by kernel_rfl) rfl (fun _ _ h_ => TL.off rfl rfl rfl (TL.nil h_)) ?_
            refine Plan.v 10 [11, 12, 13, 14, 15, 16, 17, 18, 19, 20, 21, 22, 23, 24, 25, 26, 27, 28] (by kernel_rfl) (by kernel_rfl) (by kernel_rfl) (by kernel_rfl) rfl (fun _ _ h_ => TL.off rfl rfl rfl (TL.nil h_)) ?_
            refine Plan.v 11 [12, 13, 14, 15, 16, 17, 18, 19, 20, 21, 22, 23, 24, 25, 26, 27, 28] (by kernel_rfl) (by kernel_rfl) (by kernel_rfl) (by kernel_rfl) rfl (fun _ _ h_ => TL.off rfl rfl rfl (TL.nil h_)) ?_
            refine Plan.v 12 [13, 14, 15, 16, 17, 18, 19, 20, 21, 22, 23, 24, 25, 26, 27, 28] (by kernel_rfl) (by kernel_rfl) (by kernel_rfl) (by kernel_rfl) rfl (fun _ _ h_ => R.pkFE rfl rfl (by conv => lhs; whnf) (TL.nil h_)) ?_
            refine Plan.v 13 [14, 15, 16, 17, 18, 19, 20, 21, 22, 23, 24, 25, 26, 27, 28] (by kernel_rfl) (by kernel_rfl) (by kernel_rfl) (by kernel_rfl) rfl (fun _ _ h_ => R.mvE rfl (by conv => lhs; whnf) (TL.nil h_)) ?_
            refine Plan.v 14 [15, 16, 17, 18, 19, 20, 21, 22, 23, 24, 25, 26, 27, 28] (by kernel_rfl) (by kernel_rfl) (by kernel_rfl) (by kernel_rfl) rfl (fun _ _ h_ => TL.off rfl rfl rfl (TL.nil h_)) ?_
            refine Plan.v 15 [16, 17, 18, 19, 20, 21, 22, 23, 24, 25, 26, 27, 28] (by kernel_rfl) (by kernel_rfl) (by kernel_rfl) (by kernel_rfl) rfl (fun _ _ h_ => TL.off rfl rfl rfl (TL.nil h_)) ?_
            refine Plan.v 16 [17, 18, 19, 20, 21, 22, 23, 24, 25, 26, 27, 28] (by kernel_rfl) (by kernel_rfl) (by kernel_rfl) (by kernel_rfl) rfl (fun _ _ h_ => TL.off rfl rfl rfl (TL.nil h_)) ?_
            refine Plan.v 17 [18, 19, 20, 21, 22, 23, 24, 25, 26, 27, 28] (by kernel_rfl) (by kernel_rfl) (by kernel_rfl) (by kernel_rfl) rfl (fun _ _ h_ => TL.offU rfl rfl (TL.nil h_)) ?_
            refine Plan.v 18 [19, 20, 21, 22, 23, 24, 25, 26, 27, 28] (by kernel_rfl) (by kernel_rfl) (by kernel_rfl) (by kernel_rfl) rfl (fun _ _ h_ => TL.offU rfl rfl (TL.nil h_)) ?_
            refine Plan.v 19 [20, 21, 22, 23, 24, 25, 26, 27, 28] (by kernel_rfl) (by kernel_rfl) (by kernel_rfl) (by kernel_rfl) rfl (fun _ _ h_ => TL.offU rfl rfl (TL.nil h_)) ?_
            refine Plan.v 20 [21, 22, 23, 24, 25, 26, 27, 28] (by kernel_rfl) (by kernel_rfl) (by kernel_rfl) (by kernel_rfl) rfl (fun _ _ h_ => TL.offU rfl rfl (TL.nil h_)) ?_
            refine Plan.v 21 [22, 23, 24, 25, 26, 27, 28] (by kernel_rfl) (by kernel_rfl) (by kernel_rfl) (by kernel_rfl) rfl (fun _ _ h_ => TL.offU rfl rfl (TL.nil h_)) ?_
            refine Plan.v 22 [23, 24, 25, 26, 27, 28] (by kernel_rfl) (by kernel_rfl) (by kernel_rfl) (by kernel_rfl) rfl (fun _ _ h_ => TL.offU rfl rfl (TL.nil h_)) ?_
            refine Plan.v 23 [24, 25, 26, 27, 28] (by kernel_rfl) (by kernel_rfl) (by kernel_rfl) (by kernel_rfl) rfl (fun _ _ h_ => TL.offU rfl rfl (TL.nil h_)) ?_
            refine Plan.v 24 [25, 26, 27, 28] (by kernel_rfl) (by kernel_rfl) (by kernel_rfl) (by kernel_rfl) rfl (fun _ _ h_ => TL.offU rfl rfl (TL.nil h_)) ?_
            refine Plan.v 25 [26, 27, 28] (by kernel_rfl) (by kernel_rfl) (by kernel_rfl) (by kernel_rfl) rfl (fun _ _ h_ => TL.offU rfl rfl (TL.nil h_)) ?_
            refine Plan.v 26 [27, 28] (by kernel_rfl) (by kernel_rfl) (by kernel_rfl) (by kernel_rfl) rfl (fun _ _ h_ => TL.off rfl rfl rfl (TL.nil h_)) ?_
            refine Plan.v 27 [28] (by kernel_rfl) (by kernel_rfl) (by kernel_rfl) (by kernel_rfl) rfl (fun _ _ h_ => R.pkFE rfl rfl (by conv => lhs; whnf) (TL.nil h_)) ?_
            refine Plan.v 28 [] (by kernel_rfl) (by kernel_rfl) (by kernel_rfl) (by kernel_rfl) rfl (fun _ _ h_ => R.asE rfl (by conv => lhs; whnf) (TL.nil h_)) ?_
            refine Plan.done (Post.thnN ?_)
            -- cut r5, way yn
            exact ⟨(), s5, ⟨rfl, rfl⟩, rfl, congrArg Value.bool (by rw [Bool.eq_iff_iff]; unfold goodB; simp only [decide_eq_true_eq, Bool.false_eq_true, false_iff, true_iff]; omega), rfl, rfl, rfl, trivial⟩
        · refine Plan.v 4 [5, 6, 7, 8, 9, 10, 11, 12, 13, 14, 15, 16, 17, 18, 19, 20, 21, 22, 23, 24, 25, 26, 27, 28] (by kernel_rfl) (by kernel_rfl) (by kernel_rfl) (by kernel_rfl) rfl (fun _ _ h_ => TL.off rfl rfl rfl (TL.nil h_)) ?_
          refine Plan.v 5 [6, 7, 8, 9, 10, 11, 12, 13, 14, 15, 16, 17, 18, 19, 20, 21, 22, 23, 24, 25, 26, 27, 28] (by kernel_rfl) (by kernel_rfl) (by kernel_rfl) (by kernel_rfl) rfl (fun _ _ h_ => TL.off rfl rfl rfl (TL.nil h_)) ?_
          refine Plan.v 6 [7, 8, 9, 10, 11, 12, 13, 14, 15, 16, 17, 18, 19, 20, 21, 22, 23, 24, 25, 26, 27, 28] (by kernel_rfl) (by kernel_rfl) (by kernel_rfl) (by kernel_rfl) rfl (fun _ _ h_ => TL.off rfl rfl rfl (TL.nil h_)) ?_
          refine Plan.v 7 [8, 9, 10, 11, 12, 13, 14, 15, 16, 17, 18, 19, 20, 21, 22, 23, 24, 25, 26, 27, 28] (by kernel_rfl) (by kernel_rfl) (by kernel_rfl) (by kernel_rfl) rfl (fun _ _ h_ => R.pkFE rfl rfl (by conv => lhs; whnf) (TL.nil h_)) ?_
          refine Plan.v 8 [9, 10, 11, 12, 13, 14, 15, 16, 17, 18, 19, 20, 21, 22, 23, 24, 25, 26, 27, 28] (by kernel_rfl) (by kernel_rfl) (by kernel_rfl) (by kernel_rfl) rfl (fun _ _ h_ => R.mvE rfl (by conv => lhs; whnf) (TL.nil h_)) ?_
          refine Plan.v 9 [10, 11, 12, 13, 14, 15, 16, 17, 18, 19, 20, 21, 22, 23, 24, 25, 26, 27, 28] (by kernel_rfl) (by kernel_rfl) (by kernel_rfl) (by kernel_rfl) rfl (fun _ _ h_ => TL.off rfl rfl rfl (TL.nil h_)) ?_
          refine Plan.v 10 [11, 12, 13, 14, 15, 16, 17, 18, 19, 20, 21, 22, 23, 24, 25, 26, 27, 28] (by kernel_rfl) (by kernel_rfl) (by kernel_rfl) (by kernel_rfl) rfl (fun _ _ h_ => TL.off rfl rfl rfl (TL.nil h_)) ?_
          refine Plan.v 11 [12, 13, 14, 15, 16, 17, 18, 19, 20, 21, 22, 23, 24, 25, 26, 27, 28] (by kernel_rfl) (by kernel_rfl) (by kernel_rfl) (by kernel_rfl) rfl (fun _ _ h_ => TL.off rfl rfl rfl (TL.nil h_)) ?_
          refine Plan.v 12 [13, 14, 15, 16, 17, 18, 19, 20, 21, 22, 23, 24, 25, 26, 27, 28] (by kernel_rfl) (by kernel_rfl) (by kernel_rfl) (by kernel_rfl) rfl (fun _ _ h_ => R.pkFE rfl rfl (by conv => lhs; whnf) (TL.nil h_)) ?_
          refine Plan.v 13 [14, 15, 16, 17, 18, 19, 20, 21, 22, 23, 24, 25, 26, 27, 28] (by kernel_rfl) (by kernel_rfl) (by kernel_rfl) (by kernel_rfl) rfl (fun _ _ h_ => R.mvE rfl (by conv => lhs; whnf) (TL.nil h_)) ?_
          refine Plan.v 14 [15, 16, 17, 18, 19, 20, 21, 22, 23, 24, 25, 26, 27, 28] (by kernel_rfl) (by kernel_rfl) (by kernel_rfl) (by kernel_rfl) rfl (fun _ _ h_ => TL.off rfl rfl rfl (TL.nil h_)) ?_
          refine Plan.v 15 [16, 17, 18, 19, 20, 21, 22, 23, 24, 25, 26, 27, 28] (by kernel_rfl) (by kernel_rfl) (by kernel_rfl) (by kernel_rfl) rfl (fun _ _ h_ => TL.off rfl rfl rfl (TL.nil h_)) ?_
          refine Plan.v 16 [17, 18, 19, 20, 21, 22, 23, 24, 25, 26, 27, 28] (by kernel_rfl) (by kernel_rfl) (by kernel_rfl) (by kernel_rfl) rfl (fun _ _ h_ => TL.off rfl rfl rfl (TL.nil h_)) ?_
          refine Plan.v 17 [18, 19, 20, 21, 22, 23, 24, 25, 26, 27, 28] (by kernel_rfl) (by kernel_rfl) (by kernel_rfl) (by kernel_rfl) rfl (fun _ _ h_ => TL.offU rfl rfl (TL.nil h_)) ?_
          refine Plan.v 18 [19, 20, 21, 22, 23, 24, 25, 26, 27, 28] (by kernel_rfl) (by kernel_rfl) (by kernel_rfl) (by kernel_rfl) rfl (fun _ _ h_ => TL.offU rfl rfl (TL.nil h_)) ?_
          refine Plan.v 19 [20, 21, 22, 23, 24, 25, 26, 27, 28] (by kernel_rfl) (by kernel_rfl) (by kernel_rfl) (by kernel_rfl) rfl (fun _ _ h_ => TL.offU rfl rfl (TL.nil h_)) ?_
          refine Plan.v 20 [21, 22, 23, 24, 25, 26, 27, 28] (by kernel_rfl) (by kernel_rfl) (by kernel_rfl) (by kernel_rfl) rfl (fun _ _ h_ => TL.offU rfl rfl (TL.nil h_)) ?_
          refine Plan.v 21 [22, 23, 24, 25, 26, 27, 28] (by kernel_rfl) (by kernel_rfl) (by kernel_rfl) (by kernel_rfl) rfl (fun _ _ h_ => TL.offU rfl rfl (TL.nil h_)) ?_
          refine Plan.v 22 [23, 24, 25, 26, 27, 28] (by kernel_rfl) (by kernel_rfl) (by kernel_rfl) (by kernel_rfl) rfl (fun _ _ h_ => TL.offU rfl rfl (TL.nil h_)) ?_
          refine Plan.v 23 [24, 25, 26, 27, 28] (by kernel_rfl) (by kernel_rfl) (by kernel_rfl) (by kernel_rfl) rfl (fun _ _ h_ => TL.offU rfl rfl (TL.nil h_)) ?_
          refine Plan.v 24 [25, 26, 27, 28] (by kernel_rfl) (by kernel_rfl) (by kernel_rfl) (by kernel_rfl) rfl (fun _ _ h_ => TL.offU rfl rfl (TL.nil h_)) ?_
          refine Plan.v 25 [26, 27, 28] (by kernel_rfl) (by kernel_rfl) (by kernel_rfl) (by kernel_rfl) rfl (fun _ _ h_ => TL.offU rfl rfl (TL.nil h_)) ?_
          refine Plan.v 26 [27, 28] (by kernel_rfl) (by kernel_rfl) (by kernel_rfl) (by kernel_rfl) rfl (fun _ _ h_ => TL.off rfl rfl rfl (TL.nil h_)) ?_
          refine Plan.v 27 [28] (by kernel_rfl) (by kernel_rfl) (by kernel_rfl) (by kernel_rfl) rfl (fun _ _ h_ => R.pkFE rfl rfl (by conv => lhs; whnf) (TL.nil h_)) ?_
          refine Plan.v 28 [] (by kernel_rfl) (by kernel_rfl) (by kernel_rfl) (by kernel_rfl) rfl (fun _ _ h_ => R.asE rfl (by conv => lhs; whnf) (TL.nil h_)) ?_
          refine Plan.done (Post.thnN ?_)
          -- cut r5, way n
          exact ⟨(), s5, ⟨rfl, rfl⟩, rfl, congrArg Value.bool (by rw [Bool.eq_iff_iff]; unfold goodB; simp only [decide_eq_true_eq, Bool.false_eq_true, false_iff, true_iff]; omega), rfl, rfl, rfl, trivial⟩
      · intro _ σ_r5 H_r5 L_r5 ds_r5 s_r5 hI_r5
        obtain ⟨rfl, rfl⟩ := hI_r5
        refine T.seq ?_
        refine T.region ?_
        refine R.mvE rfl (by conv => lhs; whnf) ?_
        refine R.not rfl rfl ?_
        refine TL.nil (Post.thnN ?_)
        refine T.cond rfl (fun c42 => ?_) (fun c42 => ?_)
        · have hbad : rightD d = false := right_fail hy (by simpa using c42)
          refine T.exit (Post.blkE rfl (Post.thnE (Post.thnE (Post.blkX ?_))))
          refine id (Post.thnN ?_)
          refine T.seq ?_
          refine T.seq ?_
          refine T.region ?_
          refine R.mvE rfl (by conv => lhs; whnf) ?_
          refine R.not rfl rfl ?_
          refine TL.nil (Post.thnN ?_)
          refine T.set 45 (.bool true) (congrArg Value.bool (by simpa using c42)) ?_
          refine T.condY rfl ?_
          refine T.seq ?_
          refine T.region ?_
          refine R.asE rfl (by conv => lhs; whnf) ?_
          refine TL.nil (Post.thnN ?_)
          refine T.ret (Post.thnR (Post.ngR ?_))
          -- way yy
          exact fin1 rfl rfl ⟨rfl, congrArg (Value.int .i64) (by rw [hbad]; rfl)⟩
        · refine T.skip (Post.blkN ?_)
          refine id (Post.thnN ?_)
          refine T.region ?_
          refine R.addI rfl rfl rfl (by omega) ?_
          refine R.mvE rfl (by conv => lhs; whnf) ?_
          refine TL.nil (Post.thnN ?_)
          -- round's end, way yn
          have hgd : goodB d k y = true := by simpa using c42
          exact ⟨k + 1, s_0.trans s_r5, ⟨by omega, rfl, rfl, right_step hg hy hgd⟩, by omega, rfl, congrArg Value.bool hgd, rfl, rfl, rfl, trivial⟩
    · have hall : rightD d = true := by rw [show k = d.length by omega, List.take_length] at hg; exact hg
      refine T.exit (Post.thnE (Post.thnE (Post.blkX ?_)))
      refine id (Post.thnN ?_)
      refine T.seq ?_
      refine T.seq ?_
      refine T.region ?_
      refine R.mvE rfl (by conv => lhs; whnf) ?_
      refine R.not rfl rfl ?_
      refine TL.nil (Post.thnN ?_)
      refine T.condN rfl ?_
      refine T.skip (Post.thnN ?_)
      refine T.seq ?_
      refine T.region ?_
      refine R.asE rfl (by conv => lhs; whnf) ?_
      refine TL.nil (Post.thnN ?_)
      refine T.ret (Post.ngR ?_)
      -- way n
      exact fin1 rfl rfl ⟨rfl, congrArg (Value.int .i64) (by rw [hall]; rfl)⟩


set_option maxHeartbeats 1600000 in
theorem dat1_c (H : Heap) (y : Lk) (n : Int) : Fv Tryz.prog (fnv 135) [.agg #[.int .i64 y.1, .int .i64 y.2], .int .i64 n] H (.int .i64 (cmpI y.1 n)) := by
  refine Fc.of_body (N := 9) Tryz.func135 rfl (by kernel_rfl) rfl rfl ?_
  intro w0
  refine T.seq ?_
  refine T.region ?_
  refine R.box rfl (by conv => lhs; whnf) ?_
  intro b2
  refine R.asE rfl (by conv => lhs; whnf) ?_
  refine TL.nil (Post.thnN ?_)
  refine T.seq ?_
  refine T.shut .hd ?_
  intro H2 s2 q2
  have h2 : H2 b2 = some (.cells #[.int .i64 y.1, .int .i64 y.2] 29) := shut1 q2
  refine T.region ?_
  refine R.fldA Tryz.underlying29 rfl Tryz.sizeOf3 (by decide) rfl rfl ?_
  refine R.ldH Tryz.isAgg3 rfl rfl (h2) rfl ?_
  refine R.mvE rfl (by conv => lhs; whnf) ?_
  refine R.callv rfl rfl rfl (compareI3_c _ _ _) ?_
  refine R.asE rfl (by conv => lhs; whnf) ?_
  refine TL.nil (Post.thnN ?_)
  refine T.ret ?_
  exact fin1 rfl rfl ⟨rfl, rfl⟩


set_option maxHeartbeats 1600000 in
theorem dbs_c (H : Heap) (v : Value) (d : List Lk) (n : Int) (hr : RdS pairE H v d) (hl : d.length ≤ 1048576) (hd : rightD d = true) : Fp Tryz.prog (fnv 134) [v, .int .i64 n, fnv 135] H (fun v' _ => ∃ i : Nat, v' = .tuple #[.int .i64 i, .bool (match d[i]? with | some y => decide (y.1 = n) | none => false)] ∧ BSI d n i) := by
  refine Fc.of_body (N := 49) Tryz.func134 rfl (by kernel_rfl) rfl rfl ?_
  intro w0
  obtain ⟨A, c, rfl, hc1, hc2, hr⟩ := hr.shape
  have hup := up_fst hd
  have hml : (d.map (·.1)).length = d.length := List.length_map _
  refine T.seq ?_
  refine T.region ?_
  refine R.asE rfl (by conv => lhs; whnf) ?_
  refine R.asE rfl (by conv => lhs; whnf) ?_
  refine TL.nil (Post.thnN ?_)
  refine T.seq ?_
  refine T.region ?_
  refine R.mvE rfl (by conv => lhs; whnf) ?_
  refine R.len Tryz.underlying23 rfl rfl ?_
  refine R.asE rfl (by conv => lhs; whnf) ?_
  refine TL.nil (Post.thnN ?_)
  refine T.seq ?_
  refine T.region ?_
  refine R.mvE rfl (by conv => lhs; whnf) ?_
  refine R.asE rfl (by conv => lhs; whnf) ?_
  refine R.asE rfl (by conv => lhs; whnf) ?_
  refine TL.nil (Post.thnN ?_)
  refine T.seq ?_
  refine T.block ?_
  refine T.loop (ι := Nat × Nat) (fun q H' L' ds' => (q.1 ≤ q.2 ∧ q.2 ≤ d.length) ∧ (∀ (j : Nat) y, j < q.1 → (d.map (·.1))[j]? = some y → y < n) ∧ (∀ (j : Nat) y, q.2 ≤ j → (d.map (·.1))[j]? = some y → n ≤ y)) (fun q => [(0, .slice A d.length c), (1, .int .i64 n), (2, fnv 135), (8, .int .i64 d.length), (9, .int .i64 q.1), (10, .int .i64 q.2)]) (fun q => q.2 - q.1) ((0, d.length)) ?_ ?_ ?_
  · exact ⟨⟨Nat.zero_le _, Nat.le_refl _⟩, fun j y h => absurd h (Nat.not_lt_zero _), fun j y h1 h2 => absurd (List.getElem?_eq_some_iff.1 h2).1 (by have : d.length ≤ j := h1; omega)⟩
  · exact ⟨rfl, rfl, rfl, rfl, rfl, rfl, trivial⟩
  · intro q σ0 H_0 L_0 ds_0 s_0 hI_0
    obtain ⟨hq, hlo, hhi⟩ := hI_0
    refine T.seq ?_
    refine T.seq ?_
    refine T.region ?_
    refine R.mvE rfl (by conv => lhs; whnf) ?_
    refine R.mvE rfl (by conv => lhs; whnf) ?_
    refine R.lss rfl rfl rfl ?_
    refine TL.nil (Post.thnN ?_)
    refine T.condD rfl (fun c17 => ?_) (fun c17 => ?_)
    · have hlt : (q.1 + q.2) / 2 < d.length := by omega
      obtain ⟨y, hy⟩ := getk hlt
      have hy1 := get_fst hy
      refine T.skip (Post.thnN ?_)
      refine T.block ?_
      refine T.seq ?_
      refine T.region ?_
      refine R.mvE rfl (by conv => lhs; whnf) ?_
      refine R.mvE rfl (by conv => lhs; whnf) ?_
      refine R.addI rfl rfl rfl (by omega) ?_
      refine R.conv Tryz.underlying3 Tryz.underlying109 rfl rfl ?_
      refine R.shr rfl rfl rfl (by omega) ?_
      refine R.conv Tryz.underlying109 Tryz.underlying3 rfl rfl ?_
      refine TL.set 23 (.int .i64 (((q.1 + q.2) / 2 : Nat) : Int)) (congrArg _ (mid_eq _ _ (by omega))) ?_
      refine R.asE rfl (by conv => lhs; whnf) ?_
      refine TL.nil (Post.thnN ?_)
      refine T.seq ?_
      refine T.region ?_
      refine R.mvE rfl (by conv => lhs; whnf) ?_
      refine R.mvE rfl (by conv => lhs; whnf) ?_
      refine R.mvE rfl (by conv => lhs; whnf) ?_
      obtain ⟨b27, o27, i27, e27⟩ := (hr.mono s_0).elem (hy)
      refine R.ixp Tryz.underlying23 Tryz.sizeOf29 rfl rfl rfl (by omega) i27 ?_
      refine R.ldP Tryz.isAgg29 Tryz.sizeOf29 rfl rfl (e27) ?_
      refine R.mvE rfl (by conv => lhs; whnf) ?_
      refine R.callv rfl rfl rfl (dat1_c _ y n) ?_
      refine R.lss rfl rfl rfl ?_
      refine TL.nil (Post.thnN ?_)
      refine T.condD rfl (fun c31 => ?_) (fun c31 => ?_)
      · have hlt1 : y.1 < n := cmpI_lt0.1 c31
        refine T.region ?_
        refine R.mvE rfl (by conv => lhs; whnf) ?_
        refine R.addI rfl rfl rfl (by omega) ?_
        refine R.asE rfl (by conv => lhs; whnf) ?_
        refine TL.nil (Post.blkN ?_)
        refine id (Post.thnN ?_)
        -- round's end, way yy
        exact ⟨((q.1 + q.2) / 2 + 1, q.2), s_0, ⟨⟨by show (q.1 + q.2) / 2 + 1 ≤ q.2; omega, hq.2⟩, fun j z h1 h2 => bs_lo hup hy1 hlt1 (by have : j < (q.1 + q.2) / 2 + 1 := h1; omega) h2, hhi⟩, by show q.2 - ((q.1 + q.2) / 2 + 1) < q.2 - q.1; omega, ⟨rfl, rfl, rfl, rfl, rfl, rfl, trivial⟩⟩
      · have hlt1 : ¬ y.1 < n := fun h => c31 (cmpI_lt0.2 h)
        refine T.region ?_
        refine R.mvE rfl (by conv => lhs; whnf) ?_
        refine R.asE rfl (by conv => lhs; whnf) ?_
        refine TL.nil (Post.blkN ?_)
        refine id (Post.thnN ?_)
        -- round's end, way yn
        exact ⟨(q.1, (q.1 + q.2) / 2), s_0, ⟨⟨by show q.1 ≤ (q.1 + q.2) / 2; omega, by show (q.1 + q.2) / 2 ≤ d.length; omega⟩, hlo, fun j z h1 h2 => bs_hi hup hy1 hlt1 (by have : (q.1 + q.2) / 2 ≤ j := h1; omega) h2⟩, by show (q.1 + q.2) / 2 - q.1 < q.2 - q.1; omega, ⟨rfl, rfl, rfl, rfl, rfl, rfl, trivial⟩⟩
    · have hqq : q.2 = q.1 := by omega
      rw [hqq] at hhi
      have hB := at_pos hd (show q.1 ≤ d.length by omega) hlo hhi
      refine T.exit (Post.thnE (Post.thnE (Post.blkX ?_)))
      refine id (Post.thnN ?_)
      refine T.seq ?_
      refine T.region ?_
      refine R.mvE rfl (by conv => lhs; whnf) ?_
      refine R.mvE rfl (by conv => lhs; whnf) ?_
      refine R.mvE rfl (by conv => lhs; whnf) ?_
      refine R.lss rfl rfl rfl ?_
      refine R.mvE rfl (by conv => lhs; whnf) ?_
      refine TL.gsplitD 39 rfl (fun g39 => ?_) (fun g39 => ?_)
      · have hlt : q.1 < d.length := by omega
        obtain ⟨y0, hy0⟩ := getk hlt
        refine R.mvE rfl (by conv => lhs; whnf) ?_
        refine R.mvE rfl (by conv => lhs; whnf) ?_
        refine R.mvE rfl (by conv => lhs; whnf) ?_
        obtain ⟨b43, o43, i43, e43⟩ := (hr.mono s_0).elem (hy0)
        refine R.ixp Tryz.underlying23 Tryz.sizeOf29 rfl rfl rfl (by omega) i43 ?_
        refine R.ldP Tryz.isAgg29 Tryz.sizeOf29 rfl rfl (e43) ?_
        refine R.mvE rfl (by conv => lhs; whnf) ?_
        refine R.callv rfl rfl rfl (dat1_c _ y0 n) ?_
        refine R.eql rfl rfl rfl ?_
        refine R.pkTE rfl rfl (by conv => lhs; whnf) ?_
        refine R.asE rfl (by conv => lhs; whnf) ?_
        refine R.asE rfl (by conv => lhs; whnf) ?_
        refine TL.nil (Post.thnN ?_)
        refine T.ret ?_
        -- way ny
        exact fin2 rfl rfl rfl ⟨rfl, q.1, by rw [hy0]; exact congrArg (fun b => Value.tuple #[.int .i64 (q.1 : Int), .bool b]) (decide_eq_decide.2 cmpI_zero0), hB⟩
      · have hno : d[q.1]? = none := List.getElem?_eq_none (by omega)
        refine TL.off rfl rfl rfl ?_
        refine TL.off rfl rfl rfl ?_
        refine TL.off rfl rfl rfl ?_
        refine TL.off rfl rfl rfl ?_
        refine TL.off rfl rfl rfl ?_
        refine TL.off rfl rfl rfl ?_
        refine TL.off rfl rfl rfl ?_
        refine TL.off rfl rfl rfl ?_
        refine R.pkFE rfl rfl (by conv => lhs; whnf) ?_
        refine R.asE rfl (by conv => lhs; whnf) ?_
        refine R.asE rfl (by conv => lhs; whnf) ?_
        refine TL.nil (Post.thnN ?_)
        refine T.ret ?_
        -- way nn
        exact fin2 rfl rfl rfl ⟨rfl, q.1, by rw [hno]; rfl, hB⟩


set_option maxHeartbeats 1600000 in
theorem dat_c (H : Heap) (v : Value) (d : List Lk) (n : Int) (hr : RdS pairE H v d) (hl : d.length ≤ 1048576) (hd : rightD d = true) : Fv Tryz.prog (fnv 67) [v, .int .i64 n] H (.int .i64 (atD d n)) := by
  refine Fc.of_body (N := 20) Tryz.func67 rfl (by kernel_rfl) rfl rfl ?_
  intro w0
  obtain ⟨A, c, rfl, hc1, hc2, hr⟩ := hr.shape
  refine T.seq ?_
  refine T.region ?_
  refine R.asE rfl (by conv => lhs; whnf) ?_
  refine TL.nil (Post.thnN ?_)
  refine T.seq ?_
  refine T.region ?_
  refine R.mvE rfl (by conv => lhs; whnf) ?_
  refine R.mvE rfl (by conv => lhs; whnf) ?_
  refine R.callp rfl rfl rfl (dbs_c _ _ d n hr hl hd) ?_
  intro v10 H10 s10 q10
  obtain ⟨i, rfl, hB⟩ := q10
  have hat := bs_at hd hB
  refine R.mvE rfl (by conv => lhs; whnf) ?_
  refine R.ext rfl rfl rfl ?_
  refine R.ext rfl rfl rfl ?_
  refine R.asE rfl (by conv => lhs; whnf) ?_
  refine R.asE rfl (by conv => lhs; whnf) ?_
  refine TL.nil (Post.thnN ?_)
  refine T.seq ?_
  refine T.seq ?_
  refine T.region ?_
  refine R.mvE rfl (by conv => lhs; whnf) ?_
  refine R.not rfl rfl ?_
  refine TL.nil (Post.thnN ?_)
  refine T.cond rfl (fun c14 => ?_) (fun c14 => ?_)
  · refine T.seq ?_
    refine T.region ?_
    refine R.asE rfl (by conv => lhs; whnf) ?_
    refine TL.nil (Post.thnN ?_)
    refine T.ret (Post.thnR ?_)
    -- way y
    exact fin1 rfl rfl ⟨rfl, congrArg (Value.int .i64) (by
      rw [hat]
      cases e : d[i]? with
      | none => rfl
      | some y =>
        rw [e] at c14
        have : y.1 ≠ n := by simpa using c14
        simp [this])⟩
  · obtain ⟨y, hy⟩ : ∃ y, d[i]? = some y := by
      cases e : d[i]? with
      | some y => exact ⟨y, rfl⟩
      | none => rw [e] at c14; cases c14
    rw [hy] at c14 hat
    have hyn : y.1 = n := by simpa using c14
    refine T.skip (Post.thnN ?_)
    refine T.seq ?_
    refine T.region ?_
    refine R.mvE rfl (by conv => lhs; whnf) ?_
    refine R.mvE rfl (by conv => lhs; whnf) ?_
    obtain ⟨b17, o17, i17, e17⟩ := (hr.mono s10).elem (hy)
    refine R.ixp Tryz.underlying23 Tryz.sizeOf29 rfl rfl rfl (by omega) i17 ?_
    refine R.fldA Tryz.underlying29 rfl Tryz.sizeOf3 (by decide) rfl rfl ?_
    refine R.ldC Tryz.isAgg3 rfl rfl (ElemAt.snd1 e17) ?_
    refine R.asE rfl (by conv => lhs; whnf) ?_
    refine TL.nil (Post.thnN ?_)
    refine T.ret ?_
    -- way n
    exact fin1 rfl rfl ⟨rfl, congrArg (Value.int .i64) (by rw [hat]; simp [hyn])⟩


set_option maxHeartbeats 1600000 in
theorem dAt_c (H : Heap) (v : Value) (d : List Lk) (n : Int) (hr : RdS pairE H v d) (hl : d.length ≤ 1048576) : Fv Tryz.prog (fnv 20) [v, .int .i64 n] H (.int .i64 (if rightD d then atD d n else 0)) := by
  refine Fc.of_body (N := 11) Tryz.func20 rfl (by kernel_rfl) rfl rfl ?_
  intro w0
  obtain ⟨A, c, rfl, hc1, hc2, hr⟩ := hr.shape
  refine T.seq ?_
  refine T.region ?_
  refine R.asE rfl (by conv => lhs; whnf) ?_
  refine TL.nil (Post.thnN ?_)
  refine T.seq ?_
  refine T.seq ?_
  refine T.region ?_
  refine R.mvE rfl (by conv => lhs; whnf) ?_
  refine R.callv rfl rfl rfl (dcheck_c _ _ d hr) ?_
  refine R.neq rfl rfl rfl ?_
  refine TL.nil (Post.thnN ?_)
  refine T.condD rfl (fun c7 => ?_) (fun c7 => ?_)
  · have hd : rightD d = false := by
      cases h : rightD d with
      | false => rfl
      | true => rw [h] at c7; exact absurd rfl c7
    refine T.seq ?_
    refine T.region ?_
    refine R.asE rfl (by conv => lhs; whnf) ?_
    refine TL.nil (Post.thnN ?_)
    refine T.ret (Post.thnR ?_)
    -- way y
    exact fin1 rfl rfl ⟨rfl, congrArg (Value.int .i64) (by rw [hd]; rfl)⟩
  · have hd : rightD d = true := by
      cases h : rightD d with
      | true => rfl
      | false => rw [h] at c7; exact absurd c7 (by decide)
    refine T.skip (Post.thnN ?_)
    refine T.seq ?_
    refine T.region ?_
    refine R.mvE rfl (by conv => lhs; whnf) ?_
    refine R.mvE rfl (by conv => lhs; whnf) ?_
    refine R.callv rfl rfl rfl (dat_c _ _ d n hr hl hd) ?_
    refine R.asE rfl (by conv => lhs; whnf) ?_
    refine TL.nil (Post.thnN ?_)
    refine T.ret ?_
    -- way n
    exact fin1 rfl rfl ⟨rfl, congrArg (Value.int .i64) (by rw [hd]; rfl)⟩


set_option maxHeartbeats 1600000 in
theorem dord1_c (H : Heap) (b2 : Nat) (u : Value) (d : List Lk) (h2 : H b2 = some (.cells #[u] 23)) (hr : RdS pairE H u d) (hl : d.length ≤ 1048576) (hd : rightD d = true) (a b : Int) : Fv Tryz.prog (.func (.func 69) #[] ([.pointer (some ⟨b2, 0, none⟩)] : List Value).toArray) [.int .i64 a, .int .i64 b] H (.int .i64 (cmpO d a b)) := by
  refine Fc.of_body (N := 18) Tryz.func69 rfl (by kernel_rfl) rfl rfl ?_
  intro w0
  refine T.seq ?_
  refine T.region ?_
  refine R.asE rfl (by conv => lhs; whnf) ?_
  refine TL.nil (Post.thnN ?_)
  refine T.seq ?_
  refine T.draw Tryz_mixed (by kernel_rfl) ?_
  refine Plan.v 0 [1, 2, 3, 4, 5, 6, 7, 8, 9, 10, 11, 12] (by kernel_rfl) (by kernel_rfl) (by kernel_rfl) (by kernel_rfl) rfl (fun _ _ h_ => R.ldH Tryz.isAgg23 rfl rfl (h2) rfl (TL.nil h_)) ?_
  refine Plan.v 1 [2, 3, 4, 5, 6, 7, 8, 9, 10, 11, 12] (by kernel_rfl) (by kernel_rfl) (by kernel_rfl) (by kernel_rfl) rfl (fun _ _ h_ => R.mvE rfl (by conv => lhs; whnf) (TL.nil h_)) ?_
  refine Plan.v 2 [3, 4, 5, 6, 7, 8, 9, 10, 11, 12] (by kernel_rfl) (by kernel_rfl) (by kernel_rfl) (by kernel_rfl) rfl (fun _ _ h_ => R.callv rfl rfl rfl (dat_c _ _ d a hr hl hd) (TL.nil h_)) ?_
  refine Plan.v 3 [4, 5, 6, 7, 8, 9, 10, 11, 12] (by kernel_rfl) (by kernel_rfl) (by kernel_rfl) (by kernel_rfl) rfl (fun _ _ h_ => R.ldH Tryz.isAgg23 rfl rfl (h2) rfl (TL.nil h_)) ?_
  refine Plan.v 4 [5, 6, 7, 8, 9, 10, 11, 12] (by kernel_rfl) (by kernel_rfl) (by kernel_rfl) (by kernel_rfl) rfl (fun _ _ h_ => R.mvE rfl (by conv => lhs; whnf) (TL.nil h_)) ?_
  refine Plan.v 5 [6, 7, 8, 9, 10, 11, 12] (by kernel_rfl) (by kernel_rfl) (by kernel_rfl) (by kernel_rfl) rfl (fun _ _ h_ => R.callv rfl rfl rfl (dat_c _ _ d b hr hl hd) (TL.nil h_)) ?_
  refine Plan.v 6 [7, 8, 9, 10, 11, 12] (by kernel_rfl) (by kernel_rfl) (by kernel_rfl) (by kernel_rfl) rfl (fun _ _ h_ => R.callv rfl rfl rfl (compareI3_c _ _ _) (TL.nil h_)) ?_
  refine Plan.v 7 [8, 9, 10, 11, 12] (by kernel_rfl) (by kernel_rfl) (by kernel_rfl) (by kernel_rfl) rfl (fun _ _ h_ => R.mvE rfl (by conv => lhs; whnf) (TL.nil h_)) ?_
  refine Plan.v 8 [9, 10, 11, 12] (by kernel_rfl) (by kernel_rfl) (by kernel_rfl) (by kernel_rfl) rfl (fun _ _ h_ => R.mvE rfl (by conv => lhs; whnf) (TL.nil h_)) ?_
  refine Plan.v 9 [10, 11, 12] (by kernel_rfl) (by kernel_rfl) (by kernel_rfl) (by kernel_rfl) rfl (fun _ _ h_ => R.callv rfl rfl rfl (compareI3_c _ _ _) (TL.nil h_)) ?_
  refine Plan.s1 10 [11, 12] (by kernel_rfl) (by kernel_rfl) rfl ?_
  refine R.bsN [_, _] rfl Tryz.underlying24 Tryz.sizeOf3 Tryz.zeroValue3 rfl rfl rfl rfl rfl rfl ?_
  intro b16
  refine TL.shut .hd ?_
  intro H16 s16 q16
  refine TL.nil (Plan.e1 (s16) ?_)
  refine Plan.v 11 [12] (by kernel_rfl) (by kernel_rfl) (by kernel_rfl) (by kernel_rfl) rfl (fun _ _ h_ => R.callv rfl rfl rfl (or_c _ _ _ (RdS.lit2 q16)) (TL.nil h_)) ?_
  refine Plan.v 12 [] (by kernel_rfl) (by kernel_rfl) (by kernel_rfl) (by kernel_rfl) rfl (fun _ _ h_ => R.asE rfl (by conv => lhs; whnf) (TL.nil h_)) ?_
  refine Plan.done (Post.thnN ?_)
  refine T.ret ?_
  exact fin1 rfl rfl ⟨rfl, congrArg (Value.int .i64) (cmpP_or (atD d a, a) (atD d b, b))⟩


theorem dsort_c (H : Heap) (b2 : Nat) (u : Value) (d : List Lk) (h2 : H b2 = some (.cells #[u] 23)) (hr : RdS pairE H u d) (hl : d.length ≤ 1048576) (hd : rightD d = true) (v : Value) (xs : List Int) (ch : Chunk) (ho : OwnS (intE .i64) 3 H v xs ch) (hx : xs.length ≤ 1099511627776) :
    Fc Tryz.prog (fnv 68) [v, (.func (.func 69) #[] ([.pointer (some ⟨b2, 0, none⟩)] : List Value).toArray)] H [ch] (fun _ H' L' => H' = H ∧ ∃ c', L' = [c'] ∧ OwnS (intE .i64) 3 H v (refO d xs) c') := by
  rw [← sortO_eq]
  exact sortF1_fc Tryz.func68 rfl (by kernel_rfl) (fun blk off size w h1 h3 => cmp_lays1 Tryz.func69 rfl (by kernel_rfl) (fun a b => dord1_c H b2 u d h2 hr hl hd a b) blk off size w h1 h3)
    (fun blk off cap da w hlay hH hblk hsz => Any.slices_SortFunc_total Tryz.sortF1 (Value.int .i64) (fun _ => rfl) (cmpO d) (swo_cmpO d) 69 _ blk off cap da w (enters_of Tryz.func69 (by kernel_rfl) rfl) hlay hH hblk hsz (tot_cmpO d))
    (fun p cap fv w => AnyF.slices_SortFunc_none { Tryz.sortF1 with } p cap fv w) ho hx

set_option maxHeartbeats 1600000 in
theorem dOrder_c (H : Heap) (v u : Value) (d : List Lk) (xs : List Int) (hr : RdS pairE H v d) (hl : d.length ≤ 1048576) (hr2 : RdS (intE .i64) H u xs) (hx : xs.length ≤ 1048576) : Fc Tryz.prog (fnv 22) [v, u] H [] (fun v' H' L' => ∃ c, L' = [c] ∧ OwnS (intE .i64) 3 H' v' (refO (okD d) xs) c) := by
  refine Fc.of_body (N := 19) Tryz.func22 rfl (by kernel_rfl) rfl rfl ?_
  intro w0
  obtain ⟨A, c, rfl, hc1, hc2, hr⟩ := hr.shape
  obtain ⟨A2, c2, rfl, hc3, hc4, hr2⟩ := hr2.shape
  refine T.seq ?_
  refine T.region ?_
  refine R.box rfl (by conv => lhs; whnf) ?_
  intro b2
  refine R.asE rfl (by conv => lhs; whnf) ?_
  refine TL.nil (Post.thnN ?_)
  refine T.seq ?_
  refine T.region ?_
  refine R.mvE rfl (by conv => lhs; whnf) ?_
  refine R.len Tryz.underlying24 rfl rfl ?_
  refine R.mks (z0 := 0) (zc := [.int .i64 0]) Tryz_ty24 (zcells_of (z := .int .i64 0) (by kernel_rfl)) (fun _ => rfl) rfl rfl rfl (by omega) (by omega) ?_
  intro v8 c8 w8
  refine R.asE rfl (by conv => lhs; whnf) ?_
  refine TL.nil (Post.thnN ?_)
  refine T.seq ?_
  refine T.region ?_
  refine R.mvE rfl (by conv => lhs; whnf) ?_
  refine R.mvE rfl (by conv => lhs; whnf) ?_
  obtain ⟨cs11, y11, r11⟩ := Src.rdA hr2
  refine R.copy (dd := some 11) Tryz_ty24 rfl (fun q h => by cases h; rfl) rfl rfl w8 .hd (r11 _) y11 (by simp) ?_
  intro c11 w11
  refine TL.nil (Post.thnN ?_)
  refine T.cut (ι := Value) (fun w H' L' ds' => L' = [c11, [(b2, .cells #[w] 23)]] ∧ ds' = [] ∧ RdS pairE H' w (okD d)) (fun w => [(2, .pointer (some ⟨b2, 0, none⟩)), (5, v8)]) ?_ ?_
  · refine T.seq ?_
    refine T.region ?_
    refine R.ld Tryz.isAgg23 rfl rfl (by repeat (first | exact .hd | refine .tl ?_)) rfl ?_
    refine R.callv rfl rfl rfl (dcheck_c _ _ d hr) ?_
    refine R.neq rfl rfl rfl ?_
    refine TL.nil (Post.thnN ?_)
    refine T.condD rfl (fun c14 => ?_) (fun c14 => ?_)
    · have hd : rightD d = false := by
        cases h : rightD d with
        | false => rfl
        | true => rw [h] at c14; exact absurd rfl c14
      refine T.region ?_
      refine R.st Tryz.sizeOf23 rfl rfl (by conv => lhs; whnf) rfl (by first | exact .hd | exact .tl .hd | exact .tl (.tl .hd) | exact .tl (.tl (.tl .hd)) | exact .tl (.tl (.tl (.tl .hd))) | exact .tl (.tl (.tl (.tl (.tl .hd)))) | exact .tl (.tl (.tl (.tl (.tl (.tl .hd))))) | exact .tl (.tl (.tl (.tl (.tl (.tl (.tl .hd)))))) | exact .tl (.tl (.tl (.tl (.tl (.tl (.tl (.tl .hd))))))) | exact .tl (.tl (.tl (.tl (.tl (.tl (.tl (.tl (.tl .hd))))))))) ?_
      refine TL.nil (Post.thnN ?_)
      -- cut c14, way y
      exact ⟨.slice none 0 0, HLe.refl _, ⟨rfl, rfl, by unfold okD; rw [hd]; exact RdS.nil⟩, rfl, rfl, trivial⟩
    · have hd : rightD d = true := by
        cases h : rightD d with
        | true => rfl
        | false => rw [h] at c14; exact absurd c14 (by decide)
      refine T.skip (Post.thnN ?_)
      -- cut c14, way n
      exact ⟨.slice A d.length c, HLe.refl _, ⟨rfl, rfl, by unfold okD; rw [hd]; exact hr⟩, rfl, rfl, trivial⟩
  · intro w σ_c14 H_c14 L_c14 ds_c14 s_c14 hI_c14
    obtain ⟨rfl, rfl, hw⟩ := hI_c14
    have hokl : (okD d).length ≤ 1048576 := by unfold okD; split <;> first | omega | simp
    refine T.seq ?_
    refine T.shut (.tl .hd) ?_
    intro H2 s2 q2
    have h2 : H2 b2 = some (.cells #[w] 23) := shut1 q2
    refine T.region ?_
    refine R.mvE rfl (by conv => lhs; whnf) ?_
    refine R.mkf (cs := [_]) rfl rfl ?_
    refine TL.call [true] rfl rfl rfl (dsort_c _ b2 w (okD d) h2 (hw.mono s2) hokl (okD_right d) _ xs c11 (w11.mono (s_c14.trans s2)) (by omega)) ?_
    intro v17 H17 L17 s17 q17
    obtain ⟨rfl, c17, rfl, w17⟩ := q17
    refine TL.nil (Post.thnN ?_)
    refine T.seq ?_
    refine T.region ?_
    refine R.mvE rfl (by conv => lhs; whnf) ?_
    refine R.asE rfl (by conv => lhs; whnf) ?_
    refine TL.nil (Post.thnN ?_)
    refine T.ret ?_
    exact fin1L [c17] rfl rfl (List.Sublist.refl _) ⟨_, rfl, w17⟩

end Go.SX

set_option linter.unusedVariables false
set_option linter.unusedSimpArgs false
namespace Go.SX
open Go Go.Proofs

theorem Tryzc_eqD (a b : Int × Int) (w : World) : (Op.equalIn 10000 29 (.agg #[.int .i64 a.1, .int .i64 a.2]) (.agg #[.int .i64 b.1, .int .i64 b.2])).run Tryz.prog w = .ok (decide (a = b)) w :=
  run_eq_pair Tryz.underlying29 (by kernel_rfl) (by decide) (by decide) rfl rfl rfl rfl Tryz.underlying3 Tryz.isAgg3 a b w
theorem Tryzc_eqE : Tryz.prog.eqGuardType Tryz.prog.depth 29 = false := by kernel_rfl

set_option maxHeartbeats 1600000 in
theorem equalD_c (H : Heap) (v u : Value) (xs ys : List Lk) (hr : RdS pairE H v xs) (hr2 : RdS pairE H u ys) : Fv Tryz.prog (fnv 16) [v, u] H (.bool (decide (xs = ys))) := by
  refine Fc.of_body (N := 26) Tryz.func16 rfl (by kernel_rfl) rfl rfl ?_
  intro w0
  obtain ⟨A, c, rfl, hc1, hc2, hr⟩ := hr.shape
  obtain ⟨A2, c2, rfl, hc3, hc4, hr2⟩ := hr2.shape
  refine T.seq ?_
  refine T.region ?_
  refine R.asE rfl (by conv => lhs; whnf) ?_
  refine TL.nil (Post.thnN ?_)
  refine T.seq ?_
  refine T.seq ?_
  refine T.region ?_
  refine R.mvE rfl (by conv => lhs; whnf) ?_
  refine R.len Tryz.underlying23 rfl rfl ?_
  refine R.mvE rfl (by conv => lhs; whnf) ?_
  refine R.len Tryz.underlying23 rfl rfl ?_
  refine R.neq rfl rfl rfl ?_
  refine TL.nil (Post.thnN ?_)
  refine T.condD rfl (fun c10 => ?_) (fun c10 => ?_)
  · refine T.seq ?_
    refine T.region ?_
    refine R.asE rfl (by conv => lhs; whnf) ?_
    refine TL.nil (Post.thnN ?_)
    refine T.ret (Post.thnR ?_)
    -- way y
    exact fin1 rfl rfl ⟨rfl, congrArg Value.bool (decide_eq_false (fun e => c10 (by rw [e]))).symm⟩
  · refine T.skip (Post.thnN ?_)
    refine T.seq ?_
    refine T.seq ?_
    refine T.region ?_
    refine R.mvE rfl (by conv => lhs; whnf) ?_
    refine R.len Tryz.underlying23 rfl rfl ?_
    refine R.mvE rfl (by conv => lhs; whnf) ?_
    refine TL.nil (Post.thnN ?_)
    refine T.block ?_
    refine T.loop (ι := Nat) (fun k H' L' ds' => k ≤ xs.length ∧ xs.take k = ys.take k) (fun k => [(0, .slice A xs.length c), (1, .slice A2 ys.length c2), (12, .int .i64 xs.length), (13, .int .i64 k)]) (fun k => xs.length - k) (0) ?_ ?_ ?_
    · exact ⟨Nat.zero_le _, rfl⟩
    · exact ⟨rfl, rfl, rfl, rfl, trivial⟩
    · intro k σ0 H_0 L_0 ds_0 s_0 hI_0
      obtain ⟨hk, hw⟩ := hI_0
      refine T.seq ?_
      refine T.region ?_
      refine R.lss rfl rfl rfl ?_
      refine TL.nil (Post.thnN ?_)
      refine T.seq ?_
      refine T.condD rfl (fun c14 => ?_) (fun c14 => ?_)
      · have hlt : k < xs.length := by omega
        obtain ⟨a, hx⟩ := getk hlt
        obtain ⟨b, hy⟩ := getk (xs := ys) (k := k) (by omega)
        refine T.skip (Post.thnN ?_)
        refine T.seq ?_
        refine T.block ?_
        refine T.seq ?_
        refine T.region ?_
        refine R.mvE rfl (by conv => lhs; whnf) ?_
        refine R.asE rfl (by conv => lhs; whnf) ?_
        refine TL.nil (Post.thnN ?_)
        refine T.seq ?_
        refine T.draw Tryz_mixed (by kernel_rfl) ?_
        refine Plan.v 0 [1, 2, 3, 4, 5, 6, 7, 8] (by kernel_rfl) (by kernel_rfl) (by kernel_rfl) (by kernel_rfl) rfl (fun _ _ h_ => R.mvE rfl (by conv => lhs; whnf) (TL.nil h_)) ?_
        refine Plan.v 1 [2, 3, 4, 5, 6, 7, 8] (by kernel_rfl) (by kernel_rfl) (by kernel_rfl) (by kernel_rfl) rfl (fun _ _ h_ => R.mvE rfl (by conv => lhs; whnf) (TL.nil h_)) ?_
        obtain ⟨b18, o18, i18, e18⟩ := (hr.mono s_0).elem (hx)
        refine Plan.v 2 [3, 4, 5, 6, 7, 8] (by kernel_rfl) (by kernel_rfl) (by kernel_rfl) (by kernel_rfl) rfl (fun _ _ h_ => R.ixp Tryz.underlying23 Tryz.sizeOf29 rfl rfl rfl (by omega) i18 (TL.nil h_)) ?_
        refine Plan.v 3 [4, 5, 6, 7, 8] (by kernel_rfl) (by kernel_rfl) (by kernel_rfl) (by kernel_rfl) rfl (fun _ _ h_ => R.ldP Tryz.isAgg29 Tryz.sizeOf29 rfl rfl (e18) (TL.nil h_)) ?_
        refine Plan.v 4 [5, 6, 7, 8] (by kernel_rfl) (by kernel_rfl) (by kernel_rfl) (by kernel_rfl) rfl (fun _ _ h_ => R.mvE rfl (by conv => lhs; whnf) (TL.nil h_)) ?_
        refine Plan.v 5 [6, 7, 8] (by kernel_rfl) (by kernel_rfl) (by kernel_rfl) (by kernel_rfl) rfl (fun _ _ h_ => R.mvE rfl (by conv => lhs; whnf) (TL.nil h_)) ?_
        obtain ⟨b22, o22, i22, e22⟩ := (hr2.mono s_0).elem (hy)
        refine Plan.v 6 [7, 8] (by kernel_rfl) (by kernel_rfl) (by kernel_rfl) (by kernel_rfl) rfl (fun _ _ h_ => R.ixp Tryz.underlying23 Tryz.sizeOf29 rfl rfl rfl (by omega) i22 (TL.nil h_)) ?_
        refine Plan.v 7 [8] (by kernel_rfl) (by kernel_rfl) (by kernel_rfl) (by kernel_rfl) rfl (fun _ _ h_ => R.ldP Tryz.isAgg29 Tryz.sizeOf29 rfl rfl (e22) (TL.nil h_)) ?_
        refine Plan.v 8 [] (by kernel_rfl) (by kernel_rfl) (by kernel_rfl) (by kernel_rfl) rfl (fun _ _ h_ => R.neP (a := a) (b := b) Tryzc_eqD Tryzc_eqE rfl rfl rfl (TL.nil h_)) ?_
        refine Plan.done (Post.thnN ?_)
        refine T.condD rfl (fun c24 => ?_) (fun c24 => ?_)
        · refine T.seq ?_
          refine T.region ?_
          refine R.asE rfl (by conv => lhs; whnf) ?_
          refine TL.nil (Post.thnN ?_)
          refine T.ret (Post.blkR (Post.thnR (Post.thnR (Post.blkR (Post.thnR ?_)))))
          -- way nyy
          exact fin1 rfl rfl ⟨rfl, congrArg Value.bool (decide_eq_false (ne_of_get hx hy c24)).symm⟩
        · refine T.skip (Post.blkN ?_)
          refine id (Post.thnN ?_)
          refine T.region ?_
          refine R.addI rfl rfl rfl (by omega) ?_
          refine R.mvE rfl (by conv => lhs; whnf) ?_
          refine TL.nil (Post.thnN ?_)
          -- round's end, way nyn
          exact ⟨k + 1, s_0, ⟨by omega, take_eq_of hw hx (by rw [hy]; exact congrArg some (Decidable.of_not_not c24).symm)⟩, by omega, ⟨rfl, rfl, rfl, rfl, trivial⟩⟩
      · refine T.exit (Post.thnE (Post.thnE (Post.blkX ?_)))
        refine id (Post.thnN ?_)
        refine T.seq ?_
        refine T.region ?_
        refine R.asE rfl (by conv => lhs; whnf) ?_
        refine TL.nil (Post.thnN ?_)
        refine T.ret ?_
        -- way nn
        obtain rfl : k = xs.length := by omega
        have e1 : xs = ys := by
          rw [List.take_length, show xs.length = ys.length by omega, List.take_length] at hw; exact hw
        exact fin1 rfl rfl ⟨rfl, congrArg Value.bool (decide_eq_true e1).symm⟩


end Go.SX

set_option linter.unusedVariables false
set_option linter.unusedSimpArgs false
namespace Go.SX
open Go Go.Proofs

end Go.SX

set_option linter.unusedVariables false
set_option linter.unusedSimpArgs false
namespace Go.SX
open Go Go.Proofs

set_option maxHeartbeats 1600000 in
theorem dsame_c (H : Heap) (v u : Value) (d xs : List Lk) (m : Lk) (hrd : RdS pairE H v d) (hr : RdS pairE H u xs) (hl : xs.length ≤ 500) : Fv Tryz.prog (fnv 80) [v, u, .agg #[.int .i64 m.1, .int .i64 m.2]] H (.int .i64 (sameR d xs m)) := by
  refine Fc.of_body (N := 31) Tryz.func80 rfl (by kernel_rfl) rfl rfl ?_
  intro w0
  refine T.seq ?_
  refine T.region ?_
  refine R.box rfl (by conv => lhs; whnf) ?_
  intro b5
  refine R.asE rfl (by conv => lhs; whnf) ?_
  refine TL.nil (Post.thnN ?_)
  refine T.seq ?_
  refine T.shut .hd ?_
  intro H5 s5 q5
  have h5 : H5 b5 = some (.cells #[.int .i64 m.1, .int .i64 m.2] 45) := shut1 q5
  refine T.region ?_
  refine R.mvE rfl (by conv => lhs; whnf) ?_
  refine R.callp rfl rfl rfl (dOf_c _ _ xs (hr.mono s5) (by omega)) ?_
  intro v13 H13 s13 q13
  obtain ⟨w13, rfl, g13⟩ := q13
  refine R.mvE rfl (by conv => lhs; whnf) ?_
  refine R.ext rfl rfl rfl ?_
  refine R.ext rfl rfl rfl ?_
  refine R.asE rfl (by conv => lhs; whnf) ?_
  refine R.asE rfl (by conv => lhs; whnf) ?_
  refine TL.nil (Post.thnN ?_)
  refine T.seq ?_
  refine T.seq ?_
  refine T.region ?_
  refine R.mvE rfl (by conv => lhs; whnf) ?_
  refine R.neq rfl rfl rfl ?_
  refine TL.nil (Post.thnN ?_)
  refine T.condD rfl (fun c17 => ?_) (fun c17 => ?_)
  · refine T.seq ?_
    refine T.region ?_
    refine R.mvE rfl (by conv => lhs; whnf) ?_
    refine R.asE rfl (by conv => lhs; whnf) ?_
    refine TL.nil (Post.thnN ?_)
    refine T.ret (Post.thnR ?_)
    -- way y
    exact fin1 rfl rfl ⟨rfl, congrArg (Value.int .i64) (by unfold sameR; rw [if_pos c17])⟩
  · refine T.skip (Post.thnN ?_)
    refine T.seq ?_
    refine T.seq ?_
    refine T.region ?_
    refine R.mvE rfl (by conv => lhs; whnf) ?_
    refine R.mvE rfl (by conv => lhs; whnf) ?_
    refine R.callv rfl rfl rfl (equalD_c _ _ _ _ _ (hrd.mono (s5.trans s13)) g13) ?_
    refine R.not rfl rfl ?_
    refine TL.nil (Post.thnN ?_)
    refine T.cond rfl (fun c22 => ?_) (fun c22 => ?_)
    · have hne : d ≠ (ofDR xs).1 := by simpa using c22
      refine T.seq ?_
      refine T.region ?_
      refine R.asE rfl (by conv => lhs; whnf) ?_
      refine TL.nil (Post.thnN ?_)
      refine T.ret (Post.thnR ?_)
      -- way ny
      exact fin1 rfl rfl ⟨rfl, congrArg (Value.int .i64) (by unfold sameR; rw [if_neg c17, if_pos hne])⟩
    · have heq : d = (ofDR xs).1 := by simpa using c22
      refine T.skip (Post.thnN ?_)
      refine T.seq ?_
      refine T.seq ?_
      refine T.region ?_
      refine R.ldAH Tryz.isAgg45 Tryz.sizeOf45 rfl rfl rfl (s13 _ _ h5) ?_
      refine R.bs (e := 45) (cs := [.int .i64 m.1, .int .i64 m.2]) rfl (fun _ => by kernel_rfl) ?_
      intro b25
      refine TL.shut .hd ?_
      intro H25 s25 q25
      have l25 : RdS pairE H25 _ [m] := RdS.litP [m] q25 rfl
      refine R.callp rfl rfl rfl (of_c _ _ [m] l25 (by simp)) ?_
      intro v26 H26 s26 q26
      obtain ⟨w26, rfl, g26⟩ := q26
      refine R.mvE rfl (by conv => lhs; whnf) ?_
      refine R.ext rfl rfl rfl ?_
      refine R.ext rfl rfl rfl ?_
      refine R.asE rfl (by conv => lhs; whnf) ?_
      refine R.asE rfl (by conv => lhs; whnf) ?_
      refine TL.nil (Post.thnN ?_)
      refine T.seq ?_
      refine T.region ?_
      refine R.mvE rfl (by conv => lhs; whnf) ?_
      refine R.neq rfl rfl rfl ?_
      refine TL.nil (Post.thnN ?_)
      refine T.condD rfl (fun c30 => ?_) (fun c30 => ?_)
      · have hlk : linkB m = false := by
          cases h : linkB m with
          | false => rfl
          | true => rw [ofR_one, h] at c30; exact absurd rfl c30
        refine T.seq ?_
        refine T.region ?_
        refine R.asE rfl (by conv => lhs; whnf) ?_
        refine TL.nil (Post.thnN ?_)
        refine T.ret (Post.thnR ?_)
        -- way nny
        exact fin1 rfl rfl ⟨rfl, congrArg (Value.int .i64) (by unfold sameR; rw [if_neg c17, if_neg (fun h => h heq), if_pos hlk])⟩
      · have hlk : linkB m = true := by
          cases h : linkB m with
          | true => rfl
          | false => rw [ofR_one, h] at c30; exact absurd c30 (by decide)
        refine T.skip (Post.thnN ?_)
        refine T.seq ?_
        refine T.region ?_
        refine R.asE rfl (by conv => lhs; whnf) ?_
        refine TL.nil (Post.thnN ?_)
        refine T.ret ?_
        -- way nnn
        exact fin1 rfl rfl ⟨rfl, congrArg (Value.int .i64) (by unfold sameR; rw [if_neg c17, if_neg (fun h => h heq), if_neg (by rw [hlk]; simp)])⟩


set_option maxHeartbeats 1600000 in
theorem danew_c (H : Heap) (v u : Value) (d xs : List Lk) (a : Int) (hrd : RdS pairE H v d) (hr : RdS pairE H u xs) (hA : Acyc xs) (hl : xs.length ≤ 1000) (hld : d.length ≤ 100000) (hkeep : ∀ y ∈ d, y.1 ∉ (wavesL true xs a).flatten → y.2 = depL xs y.1) : Fc Tryz.prog (fnv 82) [v, u, .int .i64 a] H [] (fun v' H' L' => ∃ c, L' = [c] ∧ OwnS pairE 29 H' v' (ofD xs) c) := by
  refine Fc.of_body (N := 87) Tryz.func82 rfl (by kernel_rfl) rfl rfl ?_
  intro w0
  obtain ⟨A, c, rfl, hc1, hc2, hr⟩ := hr.shape
  obtain ⟨A2, c2, rfl, hc3, hc4, hrd⟩ := hrd.shape
  have hall := all_len xs
  refine T.seq ?_
  refine T.region ?_
  refine R.asE rfl (by conv => lhs; whnf) ?_
  refine TL.nil (Post.thnN ?_)
  refine T.seq ?_
  refine T.region ?_
  refine R.mkm rfl ?_
  intro b20
  refine R.asE rfl (by conv => lhs; whnf) ?_
  refine TL.nil (Post.thnN ?_)
  refine T.seq ?_
  refine T.seq ?_
  refine T.region ?_
  refine R.mvE rfl (by conv => lhs; whnf) ?_
  refine R.mvE rfl (by conv => lhs; whnf) ?_
  refine R.callp rfl rfl rfl (cwaves_c _ _ xs a hr hl true) ?_
  intro v23 H23 s23 q23
  obtain ⟨A23, c23, rfl, m23, n23, q23⟩ := q23.shape
  refine R.len Tryz.underlying114 rfl rfl ?_
  refine R.mvE rfl (by conv => lhs; whnf) ?_
  refine TL.nil (Post.thnN ?_)
  refine T.block ?_
  refine T.loop (ι := Nat × Array MapEntry × Nat × MapL) (fun ⟨k, es, ck, m⟩ H' L' ds' => k ≤ (wavesL true xs a).length ∧ ds' = [] ∧ L' = [[(b20, .map es ck)]] ∧ MapIs .i64 es m ∧ MetIs m ((wavesL true xs a).take k).flatten) (fun ⟨k, es, ck, m⟩ => [(0, .slice A2 d.length c2), (1, .slice A xs.length c), (7, .map (some b20)), (23, .slice A23 (wavesL true xs a).length c23), (24, .int .i64 (wavesL true xs a).length), (25, .int .i64 k)]) (fun ⟨k, es, ck, m⟩ => (wavesL true xs a).length - k) ((0, #[], 0, [])) ?_ ?_ ?_
  · exact ⟨Nat.zero_le _, rfl, rfl, mapIs_nil _, MetIs.nil⟩
  · exact ⟨rfl, rfl, rfl, rfl, rfl, rfl, trivial⟩
  · intro ⟨k, es, ck, m⟩ σ0 H_0 L_0 ds_0 s_0 hI_0
    obtain ⟨hk, rfl, rfl, hm, hM⟩ := hI_0
    refine T.seq ?_
    refine T.region ?_
    refine R.lss rfl rfl rfl ?_
    refine TL.nil (Post.thnN ?_)
    refine T.seq ?_
    refine T.condD rfl (fun c26 => ?_) (fun c26 => ?_)
    · have hlt : k < (wavesL true xs a).length := by omega
      obtain ⟨w, hw⟩ := getk hlt
      refine T.skip (Post.thnN ?_)
      refine T.seq ?_
      refine T.block ?_
      refine T.seq ?_
      refine T.region ?_
      obtain ⟨b27, o27, i27, e27⟩ := (q23.mono s_0).elem (hw)
      refine R.ixp Tryz.underlying114 Tryz.sizeOf24 rfl rfl rfl (by omega) i27 ?_
      obtain ⟨v28, k28, r28⟩ := (e27).sl
      obtain ⟨A28, c28, rfl, m28, n28, r28⟩ := r28.shape
      refine R.ldC Tryz.isAgg24 rfl rfl k28 ?_
      refine R.asE rfl (by conv => lhs; whnf) ?_
      refine TL.nil (Post.thnN ?_)
      refine T.seq ?_
      refine T.region ?_
      refine R.mvE rfl (by conv => lhs; whnf) ?_
      refine R.len Tryz.underlying24 rfl rfl ?_
      refine R.mvE rfl (by conv => lhs; whnf) ?_
      refine TL.nil (Post.thnN ?_)
      refine T.block ?_
      refine T.loop (ι := Nat × Array MapEntry × Nat × MapL) (fun ⟨i, es2, ck2, m2⟩ H' L' ds' => i ≤ w.length ∧ ds' = [] ∧ L' = [[(b20, .map es2 ck2)]] ∧ MapIs .i64 es2 m2 ∧ MetIs m2 (((wavesL true xs a).take k).flatten ++ w.take i)) (fun ⟨i, es2, ck2, m2⟩ => [(0, .slice A2 d.length c2), (1, .slice A xs.length c), (7, .map (some b20)), (9, .slice A28 w.length c28), (23, .slice A23 (wavesL true xs a).length c23), (24, .int .i64 (wavesL true xs a).length), (25, .int .i64 k), (29, .slice A28 w.length c28), (30, .int .i64 w.length), (31, .int .i64 i)]) (fun ⟨i, es2, ck2, m2⟩ => w.length - i) ((0, es, ck, m)) ?_ ?_ ?_
      · exact ⟨Nat.zero_le _, rfl, rfl, hm, by rw [List.take_zero, List.append_nil]; exact hM⟩
      · exact ⟨rfl, rfl, rfl, rfl, rfl, rfl, rfl, rfl, rfl, rfl, trivial⟩
      · intro ⟨i, es2, ck2, m2⟩ σ1 H_1 L_1 ds_1 s_1 hI_1
        obtain ⟨hi, rfl, rfl, hm2, hM2⟩ := hI_1
        refine T.seq ?_
        refine T.region ?_
        refine R.lss rfl rfl rfl ?_
        refine TL.nil (Post.thnN ?_)
        refine T.seq ?_
        refine T.condD rfl (fun c32 => ?_) (fun c32 => ?_)
        · have hlt2 : i < w.length := by omega
          obtain ⟨v, hv⟩ := getk hlt2
          refine T.skip (Post.thnN ?_)
          refine T.seq ?_
          refine T.block ?_
          refine T.seq ?_
          refine T.region ?_
          obtain ⟨b33, o33, i33, e33⟩ := (r28.mono s_1).elem (hv)
          refine R.ixp Tryz.underlying24 Tryz.sizeOf3 rfl rfl rfl (by omega) i33 ?_
          refine R.ldC Tryz.isAgg3 rfl rfl (e33).int ?_
          refine R.asE rfl (by conv => lhs; whnf) ?_
          refine TL.nil (Post.thnN ?_)
          refine T.region ?_
          refine R.mvE rfl (by conv => lhs; whnf) ?_
          refine R.mvE rfl (by conv => lhs; whnf) ?_
          refine R.mup Tryz.underlying157 Tryz.underlying3 rfl rfl rfl rfl .hd hm2 ?_
          intro es36 ck36 i36
          refine TL.nil (Post.blkN ?_)
          refine id (Post.thnN ?_)
          refine T.region ?_
          refine R.addI rfl rfl rfl (by omega) ?_
          refine R.mvE rfl (by conv => lhs; whnf) ?_
          refine TL.nil (Post.thnN ?_)
          -- round's end, way yy
          exact ⟨(i + 1, es36, ck36, mput m2 v (.bool true)), s_1, ⟨by show i + 1 ≤ _; omega, rfl, rfl, i36, by rw [flat_snoc hv]; exact hM2.put v⟩, by show w.length - (i + 1) < w.length - i; omega, ⟨rfl, rfl, rfl, rfl, rfl, rfl, rfl, rfl, rfl, rfl, trivial⟩⟩
        · refine T.exit (Post.thnE (Post.thnE (Post.blkX ?_)))
          refine id (Post.blkN ?_)
          refine id (Post.thnN ?_)
          refine T.region ?_
          refine R.addI rfl rfl rfl (by omega) ?_
          refine R.mvE rfl (by conv => lhs; whnf) ?_
          refine TL.nil (Post.thnN ?_)
          -- round's end, way yn
          have hfull : i = w.length := by omega
          rw [hfull, List.take_length] at hM2
          exact ⟨(k + 1, es2, ck2, m2), s_0.trans s_1, ⟨by show k + 1 ≤ _; omega, rfl, rfl, hm2, by rw [take_snoc _ _ _ hw, List.flatten_append, List.flatten_cons, List.flatten_nil, List.append_nil]; exact hM2⟩, by show (wavesL true xs a).length - (k + 1) < (wavesL true xs a).length - k; omega, ⟨rfl, rfl, rfl, rfl, rfl, rfl, trivial⟩⟩
    · have hkx : k = (wavesL true xs a).length := by omega
      rw [hkx, List.take_length] at hM
      refine T.exit (Post.thnE (Post.thnE (Post.blkX ?_)))
      refine id (Post.thnN ?_)
      refine T.seq ?_
      refine T.region ?_
      refine R.mkm rfl ?_
      intro b39
      refine R.alloc Tryz.zeroValue93 rfl ?_
      intro b12
      refine R.st Tryz.sizeOf93 rfl rfl (by conv => lhs; whnf) rfl (by first | exact .hd | exact .tl .hd | exact .tl (.tl .hd) | exact .tl (.tl (.tl .hd)) | exact .tl (.tl (.tl (.tl .hd))) | exact .tl (.tl (.tl (.tl (.tl .hd)))) | exact .tl (.tl (.tl (.tl (.tl (.tl .hd))))) | exact .tl (.tl (.tl (.tl (.tl (.tl (.tl .hd)))))) | exact .tl (.tl (.tl (.tl (.tl (.tl (.tl (.tl .hd))))))) | exact .tl (.tl (.tl (.tl (.tl (.tl (.tl (.tl (.tl .hd))))))))) ?_
      refine TL.nil (Post.thnN ?_)
      refine T.seq ?_
      refine T.shut .hd ?_
      intro H12 s12 q12
      have h12 : H12 b12 = some (.cells #[.map (some b39)] 93) := shut1 q12
      refine T.region ?_
      refine R.mvE rfl (by conv => lhs; whnf) ?_
      refine R.callp rfl rfl rfl (outs_c _ _ xs (hr.mono (s23.trans (s_0.trans s12))) hA.1 hl) ?_
      intro v41 H41 s41 q41
      obtain ⟨b41, es41, ck41, m41, rfl, hb41, hm41, hAt41⟩ := q41
      refine R.asE rfl (by conv => lhs; whnf) ?_
      refine TL.nil (Post.thnN ?_)
      refine T.seq ?_
      refine T.seq ?_
      refine T.region ?_
      refine R.mvE rfl (by conv => lhs; whnf) ?_
      refine R.len Tryz.underlying23 rfl rfl ?_
      refine R.mvE rfl (by conv => lhs; whnf) ?_
      refine TL.nil (Post.thnN ?_)
      refine T.block ?_
      refine T.loop (ι := Nat × Array MapEntry × Nat × MapL) (fun ⟨j, es2, ck2, m2⟩ H' L' ds' => j ≤ d.length ∧ ds' = [] ∧ L' = [[(b39, .map es2 ck2)], [(b20, .map es ck)]] ∧ MapIs .i64 es2 m2 ∧ KOK xs m2) (fun ⟨j, es2, ck2, m2⟩ => [(0, .slice A2 d.length c2), (1, .slice A xs.length c), (7, .map (some b20)), (12, .pointer (some ⟨b12, 0, none⟩)), (13, .map (some b41)), (42, .slice A2 d.length c2), (43, .int .i64 d.length), (44, .int .i64 j)]) (fun ⟨j, es2, ck2, m2⟩ => d.length - j) ((0, #[], 0, [])) ?_ ?_ ?_
      · exact ⟨Nat.zero_le _, rfl, rfl, mapIs_nil _, KOK.nil xs⟩
      · exact ⟨rfl, rfl, rfl, rfl, rfl, rfl, rfl, rfl, trivial⟩
      · intro ⟨j, es2, ck2, m2⟩ σ2 H_2 L_2 ds_2 s_2 hI_2
        obtain ⟨hj, rfl, rfl, hm2, hK2⟩ := hI_2
        refine T.seq ?_
        refine T.region ?_
        refine R.lss rfl rfl rfl ?_
        refine TL.nil (Post.thnN ?_)
        refine T.seq ?_
        refine T.condD rfl (fun c45 => ?_) (fun c45 => ?_)
        · have hlt : j < d.length := by omega
          obtain ⟨y, hy⟩ := getk hlt
          refine T.skip (Post.thnN ?_)
          refine T.seq ?_
          refine T.block ?_
          refine T.seq ?_
          refine T.region ?_
          obtain ⟨b46, o46, i46, e46⟩ := (hrd.mono (s23.trans (s_0.trans (s12.trans (s41.trans s_2))))).elem (hy)
          refine R.ixp Tryz.underlying23 Tryz.sizeOf29 rfl rfl rfl (by omega) i46 ?_
          refine R.ldP Tryz.isAgg29 Tryz.sizeOf29 rfl rfl (e46) ?_
          refine R.alloc Tryz.zeroValue29 rfl ?_
          intro b15
          refine R.stA (old := [.int .i64 0, .int .i64 0]) Tryz.sizeOf29 rfl rfl rfl rfl rfl (by intro v hv; simp at hv; rcases hv with rfl | rfl <;> rfl) .hd ?_
          refine TL.nil (Post.thnN ?_)
          refine T.seq ?_
          refine T.shut .hd ?_
          intro H15 s15 q15
          have h15 : H15 b15 = some (.cells #[.int .i64 y.1, .int .i64 y.2] 29) := shut1 q15
          refine T.region ?_
          refine R.mvE rfl (by conv => lhs; whnf) ?_
          refine R.fldA Tryz.underlying29 rfl Tryz.sizeOf3 (by decide) rfl rfl ?_
          refine R.ldH Tryz.isAgg3 rfl rfl (h15) rfl ?_
          refine R.lku Tryz.underlying157 Tryz.underlying3 Tryz.zeroValue4 rfl rfl rfl (.tl .hd) hm ?_
          refine TL.set 51 (.bool (decide (y.1 ∈ (wavesL true xs a).flatten))) (hM y.1) ?_
          refine R.notD rfl rfl ?_
          refine TL.nil (Post.thnN ?_)
          refine T.condD rfl (fun c52 => ?_) (fun c52 => ?_)
          · refine T.region ?_
            refine R.ldH Tryz.isAgg93 rfl rfl (((s41.trans (s_2.trans s15)) _ _ h12)) rfl ?_
            refine R.fldA Tryz.underlying29 rfl Tryz.sizeOf3 (by decide) rfl rfl ?_
            refine R.ldH Tryz.isAgg3 rfl rfl (h15) rfl ?_
            refine R.fldA Tryz.underlying29 rfl Tryz.sizeOf3 (by decide) rfl rfl ?_
            refine R.ldH Tryz.isAgg3 rfl rfl (h15) rfl ?_
            refine R.mup Tryz.underlying93 Tryz.underlying3 rfl rfl rfl rfl .hd hm2 ?_
            intro es57 ck57 i57
            refine TL.nil (Post.blkN ?_)
            refine id (Post.thnN ?_)
            refine T.region ?_
            refine R.addI rfl rfl rfl (by omega) ?_
            refine R.mvE rfl (by conv => lhs; whnf) ?_
            refine TL.nil (Post.thnN ?_)
            -- round's end, way nyy
            exact ⟨(j + 1, es57, ck57, mput m2 y.1 (.int .i64 y.2)), s_2.trans s15, ⟨by show j + 1 ≤ _; omega, rfl, rfl, i57, hK2.put (hkeep y (List.mem_of_getElem? hy) c52)⟩, by show d.length - (j + 1) < d.length - j; omega, ⟨rfl, rfl, rfl, rfl, rfl, rfl, rfl, rfl, trivial⟩⟩
          · refine T.skip (Post.blkN ?_)
            refine id (Post.thnN ?_)
            refine T.region ?_
            refine R.addI rfl rfl rfl (by omega) ?_
            refine R.mvE rfl (by conv => lhs; whnf) ?_
            refine TL.nil (Post.thnN ?_)
            -- round's end, way nyn
            exact ⟨(j + 1, es2, ck2, m2), s_2.trans s15, ⟨by show j + 1 ≤ _; omega, rfl, rfl, hm2, hK2⟩, by show d.length - (j + 1) < d.length - j; omega, ⟨rfl, rfl, rfl, rfl, rfl, rfl, rfl, rfl, trivial⟩⟩
        · refine T.exit (Post.thnE (Post.thnE (Post.blkX ?_)))
          refine id (Post.thnN ?_)
          refine T.seq ?_
          refine T.seq ?_
          refine T.draw Tryz_mixed (by kernel_rfl) ?_
          refine Plan.v 0 [1, 2, 3, 4] (by kernel_rfl) (by kernel_rfl) (by kernel_rfl) (by kernel_rfl) rfl (fun _ _ h_ => R.mvE rfl (by conv => lhs; whnf) (TL.nil h_)) ?_
          refine Plan.v 1 [2, 3, 4] (by kernel_rfl) (by kernel_rfl) (by kernel_rfl) (by kernel_rfl) rfl (fun _ _ h_ => R.mvE rfl (by conv => lhs; whnf) (TL.nil h_)) ?_
          refine Plan.v 3 [2, 4] (by kernel_rfl) (by kernel_rfl) (by kernel_rfl) (by kernel_rfl) rfl (fun _ _ h_ => R.ldH Tryz.isAgg93 rfl rfl (((s41.trans s_2) _ _ h12)) rfl (TL.nil h_)) ?_
          refine Plan.s1 2 [4] (by kernel_rfl) (by kernel_rfl) rfl ?_
          refine TL.call [] rfl rfl rfl (all_c _ _ xs (hr.mono (s23.trans (s_0.trans (s12.trans (s41.trans s_2))))) hl) ?_
          intro v61 H61 L61 s61 q61
          obtain ⟨c61, rfl, w61⟩ := q61
          refine TL.shut .hd ?_
          intro HF61 sF61 qF61
          have f61 := w61.read sF61 qF61
          refine TL.nil (Plan.e1 ((s61.trans sF61)) ?_)
          refine Plan.s1 4 [] (by kernel_rfl) (by kernel_rfl) rfl ?_
          refine R.callp rfl rfl rfl (rises_c _ b39 b41 es41 ck41 m41 xs ((s_2.trans (s61.trans sF61)) _ _ hb41) hm41 (fun j => (hAt41 j).mono (s_2.trans (s61.trans sF61))) hA hl _ (allL xs) f61 (fun n hn => all_pos hA hn)) ?_
          intro v63 H63 s63 q63
          obtain ⟨lb, rfl, hit⟩ := q63
          refine TL.nil (Plan.e1 (s63) ?_)
          refine Plan.done (Post.thnN ?_)
          refine T.block ?_
          refine T.rangeFuncR rfl rfl (enters_of Tryz.func131 (by kernel_rfl) rfl) hit (fun _ _ _ h => by subst h; rfl) rfl (fun pre H' L' => L' = [[(b20, .map es ck)]]) (fun c pre H' L' => False) (fun _ _ _ _ _ h => h) (fun _ _ _ _ _ _ h => h) (⟨es2, ck2, m2, rfl, hm2, hK2, fun y h => by simp at h⟩) ?_ ?_ ?_ ?_
          · rfl
          · intro l0 r0 w0 pre y vs Hr0 cR0 Lr0 sr0 hp0 hI0 hR0 hY0
            obtain rfl := hI0
            obtain rfl := hY0
            obtain ⟨es3, ck3, m3, rfl, hm3, hK3, hn3⟩ := hR0
            have hyd : y.2 = depL xs y.1 := by
              obtain ⟨n, hn, e⟩ := List.mem_map.1 (hp0.subset (List.mem_append_right _ (List.mem_singleton.2 rfl)))
              rw [← e]
            refine T.region ?_
            refine R.alloc Tryz.zeroValue29 rfl ?_
            intro b16
            refine R.stA (old := [.int .i64 0, .int .i64 0]) Tryz.sizeOf29 rfl rfl rfl rfl rfl (by intro v hv; simp at hv; rcases hv with rfl | rfl <;> rfl) .hd ?_
            refine TL.nil ?_
            refine onlyN.mk ?_
            refine T.block ?_
            refine T.shut .hd ?_
            intro H16 s16 q16
            have h16 : H16 b16 = some (.cells #[.int .i64 y.1, .int .i64 y.2] 29) := shut1 q16
            refine T.region ?_
            refine R.ldH Tryz.isAgg93 rfl rfl (((s41.trans (s_2.trans (s61.trans (sF61.trans (s63.trans (sr0.trans s16)))))) _ _ h12)) rfl ?_
            refine R.fldA Tryz.underlying29 rfl Tryz.sizeOf3 (by decide) rfl rfl ?_
            refine R.ldH Tryz.isAgg3 rfl rfl (h16) rfl ?_
            refine R.fldA Tryz.underlying29 rfl Tryz.sizeOf3 (by decide) rfl rfl ?_
            refine R.ldH Tryz.isAgg3 rfl rfl (h16) rfl ?_
            refine R.mup Tryz.underlying93 Tryz.underlying3 rfl rfl rfl rfl .hd hm3 ?_
            intro es69 ck69 i69
            refine TL.nil (Post.blkN ?_)
            refine id ?_
            -- way nnb
            exact ⟨_, _, rfl, ⟨es69, ck69, _, rfl, i69, hK3.put hyd, fun z hz => KLe.put m3 y.1 _ z.1 (hn3 z hz)⟩, rfl⟩
          · intro D0 Hr0 cR0 Lr0 sr0 hR0 hI0
            obtain rfl := hI0
            obtain ⟨es4, ck4, m4, rfl, hm4, hK4, hn4⟩ := hR0
            refine id (Post.blkN ?_)
            refine id (Post.thnN ?_)
            refine T.seq ?_
            refine T.region ?_
            refine R.asE rfl (by conv => lhs; whnf) ?_
            refine TL.nil (Post.thnN ?_)
            refine T.seq ?_
            refine T.seq ?_
            refine T.nilc ?_
            refine T.region ?_
            refine R.mvE rfl (by conv => lhs; whnf) ?_
            refine TL.call [] rfl rfl rfl (all_c _ _ xs (hr.mono (s23.trans (s_0.trans (s12.trans (s41.trans (s_2.trans (s61.trans (sF61.trans (s63.trans sr0))))))))) hl) ?_
            intro v71 H71 L71 s71 q71
            obtain ⟨c71, rfl, w71⟩ := q71
            refine TL.shut .hd ?_
            intro HF71 sF71 qF71
            have f71 := w71.read sF71 qF71
            obtain ⟨A71, k71, hv71, m71, n71, f71⟩ := f71.shape
            refine TL.set 71 (.slice A71 (allL xs).length k71) hv71 ?_
            refine R.len Tryz.underlying24 rfl rfl ?_
            refine R.mvE rfl (by conv => lhs; whnf) ?_
            refine TL.nil (Post.thnN ?_)
            refine T.block ?_
            refine T.loop (ι := Nat × Value × Chunk) (fun ⟨q, vw, cw⟩ H' L' ds' => q ≤ (allL xs).length ∧ ds' = [D0] ∧ L' = [cw, [(b39, .map es4 ck4)], [(b20, .map es ck)]] ∧ OwnS pairE 29 H' vw (((allL xs).take q).map (fun n => (n, depL xs n))) cw) (fun ⟨q, vw, cw⟩ => [(12, .pointer (some ⟨b12, 0, none⟩)), (17, vw), (71, .slice A71 (allL xs).length k71), (72, .int .i64 (allL xs).length), (73, .int .i64 q)]) (fun ⟨q, vw, cw⟩ => (allL xs).length - q) ((0, .slice none 0 0, [])) ?_ ?_ ?_
            · exact ⟨Nat.zero_le _, rfl, rfl, OwnS.nil⟩
            · exact ⟨rfl, rfl, rfl, rfl, rfl, trivial⟩
            · intro ⟨q, vw, cw⟩ σ3 H_3 L_3 ds_3 s_3 hI_3
              obtain ⟨hq, rfl, rfl, ho⟩ := hI_3
              refine T.seq ?_
              refine T.region ?_
              refine R.lss rfl rfl rfl ?_
              refine TL.nil (Post.thnN ?_)
              refine T.seq ?_
              refine T.condD rfl (fun c74 => ?_) (fun c74 => ?_)
              · have hlt : q < (allL xs).length := by omega
                obtain ⟨y, hy⟩ := getk hlt
                refine T.skip (Post.thnN ?_)
                refine T.seq ?_
                refine T.block ?_
                refine T.seq ?_
                refine T.region ?_
                obtain ⟨b75, o75, i75, e75⟩ := (f71.mono s_3).elem (hy)
                refine R.ixp Tryz.underlying24 Tryz.sizeOf3 rfl rfl rfl (by omega) i75 ?_
                refine R.ldC Tryz.isAgg3 rfl rfl (e75).int ?_
                refine R.asE rfl (by conv => lhs; whnf) ?_
                refine TL.nil (Post.thnN ?_)
                refine T.region ?_
                refine R.mvE rfl (by conv => lhs; whnf) ?_
                refine R.mvE rfl (by conv => lhs; whnf) ?_
                refine R.ldH Tryz.isAgg93 rfl rfl (((s41.trans (s_2.trans (s61.trans (sF61.trans (s63.trans (sr0.trans (s71.trans (sF71.trans s_3)))))))) _ _ h12)) rfl ?_
                refine R.mvE rfl (by conv => lhs; whnf) ?_
                refine R.lku Tryz.underlying93 Tryz.underlying3 Tryz.zeroValue3 rfl rfl rfl (.tl .hd) hm4 ?_
                refine TL.set 81 (.int .i64 (depL xs y)) (hK4.is (hn4 (y, depL xs y) (List.mem_map.2 ⟨y, List.mem_of_getElem? hy, rfl⟩))) ?_
                refine R.bld (cs := [.int .i64 y, .int .i64 (depL xs y)]) rfl (fun _ => by kernel_rfl) ?_
                refine R.bs (e := 29) (cs := [.int .i64 y, .int .i64 (depL xs y)]) rfl (fun _ => by kernel_rfl) ?_
                intro b83
                refine R.app (ys := [(y, depL xs y)]) Tryz_ty23 rfl rfl rfl ho (.tl .hd) (Src.lit (vs := [.int .i64 y, .int .i64 (depL xs y)]) .hd) ⟨[.int .i64 y, .int .i64 (depL xs y)], [], rfl, rfl, rfl⟩ (by simp; omega) (by simp; omega) ?_
                intro v84 c84 w84
                refine TL.del (.tl .hd) ?_
                refine R.asE rfl (by conv => lhs; whnf) ?_
                refine TL.nil (Post.blkN ?_)
                refine id (Post.thnN ?_)
                refine T.region ?_
                refine R.addI rfl rfl rfl (by omega) ?_
                refine R.mvE rfl (by conv => lhs; whnf) ?_
                refine TL.nil (Post.thnN ?_)
                -- round's end, way nndy
                exact ⟨(q + 1, v84, c84), s_3, ⟨by show q + 1 ≤ _; omega, rfl, rfl, by rw [take_snoc _ _ _ hy, List.map_append]; exact w84⟩, by show (allL xs).length - (q + 1) < (allL xs).length - q; omega, ⟨rfl, rfl, rfl, rfl, rfl, trivial⟩⟩
              · have hqx : q = (allL xs).length := by omega
                rw [hqx, List.take_length] at ho
                refine T.exit (Post.thnE (Post.thnE (Post.blkX ?_)))
                refine id (Post.thnN ?_)
                refine T.seq ?_
                refine T.region ?_
                refine R.mvE rfl (by conv => lhs; whnf) ?_
                refine R.asE rfl (by conv => lhs; whnf) ?_
                refine TL.nil (Post.thnN ?_)
                refine T.ret ?_
                -- way nndn
                exact fin1L [cw] rfl rfl (List.Sublist.cons_cons _ (List.nil_sublist _)) ⟨_, rfl, ho⟩
          · intro D0 c0 pre y Hr0 cR0 Lr0 sr0 hp0 hR0 hI0
            exact hI0.elim


set_option maxHeartbeats 1600000 in
theorem dmore_c (H : Heap) (v u : Value) (d xs : List Lk) (m : Lk) (hrd : RdS pairE H v d) (hr : RdS pairE H u xs) (hl : xs.length ≤ 500) (hld : d.length ≤ 100000) : Fp Tryz.prog (fnv 32) [v, u, .agg #[.int .i64 m.1, .int .i64 m.2]] H (fun v' H' => ∃ w, v' = .tuple #[w, .int .i64 (moreR d xs m).2] ∧ RdS pairE H' w (moreR d xs m).1) := by
  refine Fc.of_body (N := 46) Tryz.func32 rfl (by kernel_rfl) rfl rfl ?_
  intro w0
  obtain ⟨A, c, rfl, hc1, hc2, hr⟩ := hr.shape
  refine T.seq ?_
  refine T.region ?_
  refine R.box rfl (by conv => lhs; whnf) ?_
  intro b5
  refine R.asE rfl (by conv => lhs; whnf) ?_
  refine R.asE rfl (by conv => lhs; whnf) ?_
  refine TL.nil (Post.thnN ?_)
  refine T.seq ?_
  refine T.seq ?_
  refine T.shut .hd ?_
  intro H5 s5 q5
  have h5 : H5 b5 = some (.cells #[.int .i64 m.1, .int .i64 m.2] 45) := shut1 q5
  refine T.region ?_
  refine R.mvE rfl (by conv => lhs; whnf) ?_
  refine R.mvE rfl (by conv => lhs; whnf) ?_
  refine R.ldAH Tryz.isAgg45 Tryz.sizeOf45 rfl rfl rfl h5 ?_
  refine R.callv rfl rfl rfl (dsame_c _ _ _ d xs m (hrd.mono s5) (hr.mono s5) hl) ?_
  refine R.asE rfl (by conv => lhs; whnf) ?_
  refine TL.nil (Post.thnN ?_)
  refine T.seq ?_
  refine T.region ?_
  refine R.mvE rfl (by conv => lhs; whnf) ?_
  refine R.neq rfl rfl rfl ?_
  refine TL.nil (Post.thnN ?_)
  refine T.condD rfl (fun c16 => ?_) (fun c16 => ?_)
  · refine T.seq ?_
    refine T.region ?_
    refine R.mvE rfl (by conv => lhs; whnf) ?_
    refine R.asE rfl (by conv => lhs; whnf) ?_
    refine R.asE rfl (by conv => lhs; whnf) ?_
    refine TL.nil (Post.thnN ?_)
    refine T.ret (Post.thnR ?_)
    -- way y
    exact fin2 rfl rfl rfl ⟨rfl, _, by rw [moreR_a c16]; rfl, by rw [moreR_a c16]; exact RdS.nil⟩
  · have hs0 : sameR d xs m = 0 := Decidable.of_not_not c16
    obtain ⟨hA, hd, hm⟩ := sameR_ok hs0
    refine T.skip (Post.thnN ?_)
    refine T.seq ?_
    refine T.block ?_
    refine T.seq ?_
    refine T.region ?_
    refine R.mvE rfl (by conv => lhs; whnf) ?_
    refine R.ldAH Tryz.isAgg45 Tryz.sizeOf45 rfl rfl rfl h5 ?_
    refine R.callv rfl rfl rfl (containsP_c _ _ xs m (hr.mono s5)) ?_
    refine R.asE rfl (by conv => lhs; whnf) ?_
    refine TL.nil (Post.thnN ?_)
    refine T.cond rfl (fun c18 => ?_) (fun c18 => ?_)
    · have hin : m ∈ xs := anyD_mem.1 c18
      refine T.seq ?_
      refine T.region ?_
      refine R.asE rfl (by conv => lhs; whnf) ?_
      refine R.asE rfl (by conv => lhs; whnf) ?_
      refine TL.nil (Post.thnN ?_)
      refine T.ret (Post.blkR (Post.thnR ?_))
      -- way ny
      exact fin2 rfl rfl rfl ⟨rfl, _, by rw [moreR_b hs0 hin]; rfl, by rw [moreR_b hs0 hin]; exact RdS.nil⟩
    · have hin : m ∉ xs := anyD_not c18
      refine T.seq ?_
      refine T.region ?_
      refine R.mvE rfl (by conv => lhs; whnf) ?_
      refine R.fldA Tryz.underlying45 rfl Tryz.sizeOf3 (by decide) rfl rfl ?_
      refine R.ldH Tryz.isAgg3 rfl rfl (h5) rfl ?_
      refine R.fldA Tryz.underlying45 rfl Tryz.sizeOf3 (by decide) rfl rfl ?_
      refine R.ldH Tryz.isAgg3 rfl rfl (h5) rfl ?_
      refine R.callv rfl rfl rfl (closes_c _ _ xs m.1 (hr.mono s5) (by omega) m.2) ?_
      refine R.asE rfl (by conv => lhs; whnf) ?_
      refine TL.nil (Post.thnN ?_)
      refine T.cond rfl (fun c22 => ?_) (fun c22 => ?_)
      · refine T.seq ?_
        refine T.region ?_
        refine R.asE rfl (by conv => lhs; whnf) ?_
        refine R.asE rfl (by conv => lhs; whnf) ?_
        refine TL.nil (Post.thnN ?_)
        refine T.ret (Post.blkR (Post.thnR ?_))
        -- way nny
        exact fin2 rfl rfl rfl ⟨rfl, _, by rw [moreR_c hs0 hin c22]; rfl, by rw [moreR_c hs0 hin c22]; exact RdS.nil⟩
      · refine T.skip (Post.blkN ?_)
        refine id (Post.thnN ?_)
        refine T.seq ?_
        refine T.draw Tryz_mixed (by kernel_rfl) ?_
        refine Plan.v 0 [1, 2, 3, 4, 5, 6, 7, 8, 9, 10] (by kernel_rfl) (by kernel_rfl) (by kernel_rfl) (by kernel_rfl) rfl (fun _ _ h_ => R.mvE rfl (by conv => lhs; whnf) (TL.nil h_)) ?_
        refine Plan.v 2 [1, 3, 4, 5, 6, 7, 8, 9, 10] (by kernel_rfl) (by kernel_rfl) (by kernel_rfl) (by kernel_rfl) rfl (fun _ _ h_ => R.ldAH Tryz.isAgg45 Tryz.sizeOf45 rfl rfl rfl h5 (TL.nil h_)) ?_
        refine Plan.s2 1 3 [3, 4, 5, 6, 7, 8, 9, 10] [1, 4, 5, 6, 7, 8, 9, 10] (by kernel_rfl) (by kernel_rfl) (by kernel_rfl) rfl rfl ?_ ?_
        · refine TL.call [] rfl rfl rfl (cloneP22_c _ _ _ (hr.mono s5) (by omega)) ?_
          intro v31 H31 L31 s31 q31
          obtain ⟨c31, rfl, w31⟩ := q31
          refine TL.nil (Plan.e1 (s31) ?_)
          refine Plan.s1 3 [4, 5, 6, 7, 8, 9, 10] (by kernel_rfl) (by kernel_rfl) rfl ?_
          refine R.bs (e := 45) (cs := [.int .i64 m.1, .int .i64 m.2]) rfl (fun _ => by kernel_rfl) ?_
          intro b33
          refine TL.nil (Plan.e1 (HLe.refl _) ?_)
          refine Plan.s1 4 [5, 6, 7, 8, 9, 10] (by kernel_rfl) (by kernel_rfl) rfl ?_
          refine R.app (ys := [m]) Tryz_ty22 rfl rfl rfl w31 (by first | exact .hd | exact .tl .hd | exact .tl (.tl .hd) | exact .tl (.tl (.tl .hd)) | exact .tl (.tl (.tl (.tl .hd))) | exact .tl (.tl (.tl (.tl (.tl .hd)))) | exact .tl (.tl (.tl (.tl (.tl (.tl .hd))))) | exact .tl (.tl (.tl (.tl (.tl (.tl (.tl .hd)))))) | exact .tl (.tl (.tl (.tl (.tl (.tl (.tl (.tl .hd))))))) | exact .tl (.tl (.tl (.tl (.tl (.tl (.tl (.tl (.tl .hd))))))))) (Src.lit (vs := [.int .i64 m.1, .int .i64 m.2]) (by first | exact .hd | exact .tl .hd | exact .tl (.tl .hd) | exact .tl (.tl (.tl .hd)) | exact .tl (.tl (.tl (.tl .hd))) | exact .tl (.tl (.tl (.tl (.tl .hd)))) | exact .tl (.tl (.tl (.tl (.tl (.tl .hd))))) | exact .tl (.tl (.tl (.tl (.tl (.tl (.tl .hd)))))) | exact .tl (.tl (.tl (.tl (.tl (.tl (.tl (.tl .hd))))))) | exact .tl (.tl (.tl (.tl (.tl (.tl (.tl (.tl (.tl .hd)))))))))) ⟨[.int .i64 m.1, .int .i64 m.2], [], rfl, rfl, rfl⟩ (by simp; omega) (by simp; omega) ?_
          intro v34 c34 w34
          refine TL.shut .hd ?_
          intro H34 s34 q34
          have g34 := w34.read s34 q34
          refine TL.nil (Plan.e1 (s34) ?_)
          refine Plan.s1 5 [6, 7, 8, 9, 10] (by kernel_rfl) (by kernel_rfl) rfl ?_
          refine R.callp rfl rfl rfl (of_c _ _ (xs ++ [m]) g34 (by simp; omega)) ?_
          intro v35 H35 s35 q35
          obtain ⟨w35, rfl, g35⟩ := q35
          have hof := more_of hA (by omega) hm
          refine TL.nil (Plan.e1 (s35) ?_)
          refine Plan.v 6 [7, 8, 9, 10] (by kernel_rfl) (by kernel_rfl) (by kernel_rfl) (by kernel_rfl) rfl (fun _ _ h_ => R.mvE rfl (by conv => lhs; whnf) (TL.nil h_)) ?_
          refine Plan.v 7 [8, 9, 10] (by kernel_rfl) (by kernel_rfl) (by kernel_rfl) (by kernel_rfl) rfl (fun _ _ h_ => R.ext rfl rfl rfl (TL.nil h_)) ?_
          refine Plan.v 8 [9, 10] (by kernel_rfl) (by kernel_rfl) (by kernel_rfl) (by kernel_rfl) rfl (fun _ _ h_ => R.ext rfl rfl rfl (TL.nil h_)) ?_
          refine Plan.v 9 [10] (by kernel_rfl) (by kernel_rfl) (by kernel_rfl) (by kernel_rfl) rfl (fun _ _ h_ => R.asE rfl (by conv => lhs; whnf) (TL.nil h_)) ?_
          refine Plan.v 10 [] (by kernel_rfl) (by kernel_rfl) (by kernel_rfl) (by kernel_rfl) rfl (fun _ _ h_ => R.asE rfl (by conv => lhs; whnf) (TL.nil h_)) ?_
          refine Plan.done (Post.thnN ?_)
          refine T.seq ?_
          refine T.seq ?_
          refine T.region ?_
          refine R.mvE rfl (by conv => lhs; whnf) ?_
          refine R.neq rfl rfl rfl ?_
          refine TL.nil (Post.thnN ?_)
          refine T.set 39 (.bool false) (congrArg Value.bool (decide_eq_false (fun h => h (by rw [hof])))) ?_
          refine T.condN rfl ?_
          refine T.skip (Post.thnN ?_)
          refine T.seq ?_
          refine T.region ?_
          refine R.mvE rfl (by conv => lhs; whnf) ?_
          refine R.mvE rfl (by conv => lhs; whnf) ?_
          refine R.fldA Tryz.underlying45 rfl Tryz.sizeOf3 (by decide) rfl rfl ?_
          refine R.ldH Tryz.isAgg3 rfl rfl (((s31.trans (s34.trans s35)) _ _ h5)) rfl ?_
          refine TL.call [] rfl rfl rfl (danew_c _ _ _ d (ofP (xs ++ [m])) m.1 (hrd.mono (s5.trans (s31.trans (s34.trans s35)))) (by rw [hof] at g35; exact g35) (more_acyc hA (by omega) hm c22) (by have := ofP_len (xs ++ [m]); simp at this; omega) hld (by rw [hd]; exact more_keep hA (by omega) hm c22)) ?_
          intro v45 H45 L45 s45 q45
          obtain ⟨c45, rfl, w45⟩ := q45
          refine TL.shut .hd ?_
          intro HF45 sF45 qF45
          have f45 := w45.read sF45 qF45
          refine R.asE rfl (by conv => lhs; whnf) ?_
          refine R.asE rfl (by conv => lhs; whnf) ?_
          refine TL.nil (Post.thnN ?_)
          refine T.ret ?_
          -- way nnn0
          exact fin2 rfl rfl rfl ⟨rfl, _, by rw [moreR_d hs0 hin c22]; rfl, by rw [moreR_d hs0 hin c22]; exact f45⟩
        · refine R.bs (e := 45) (cs := [.int .i64 m.1, .int .i64 m.2]) rfl (fun _ => by kernel_rfl) ?_
          intro b33
          refine TL.nil (Plan.e1 (HLe.refl _) ?_)
          refine Plan.s1 1 [4, 5, 6, 7, 8, 9, 10] (by kernel_rfl) (by kernel_rfl) rfl ?_
          refine TL.call [] rfl rfl rfl (cloneP22_c _ _ _ (hr.mono s5) (by omega)) ?_
          intro v31 H31 L31 s31 q31
          obtain ⟨c31, rfl, w31⟩ := q31
          refine TL.nil (Plan.e1 (s31) ?_)
          refine Plan.s1 4 [5, 6, 7, 8, 9, 10] (by kernel_rfl) (by kernel_rfl) rfl ?_
          refine R.app (ys := [m]) Tryz_ty22 rfl rfl rfl w31 (by first | exact .hd | exact .tl .hd | exact .tl (.tl .hd) | exact .tl (.tl (.tl .hd)) | exact .tl (.tl (.tl (.tl .hd))) | exact .tl (.tl (.tl (.tl (.tl .hd)))) | exact .tl (.tl (.tl (.tl (.tl (.tl .hd))))) | exact .tl (.tl (.tl (.tl (.tl (.tl (.tl .hd)))))) | exact .tl (.tl (.tl (.tl (.tl (.tl (.tl (.tl .hd))))))) | exact .tl (.tl (.tl (.tl (.tl (.tl (.tl (.tl (.tl .hd))))))))) (Src.lit (vs := [.int .i64 m.1, .int .i64 m.2]) (by first | exact .hd | exact .tl .hd | exact .tl (.tl .hd) | exact .tl (.tl (.tl .hd)) | exact .tl (.tl (.tl (.tl .hd))) | exact .tl (.tl (.tl (.tl (.tl .hd)))) | exact .tl (.tl (.tl (.tl (.tl (.tl .hd))))) | exact .tl (.tl (.tl (.tl (.tl (.tl (.tl .hd)))))) | exact .tl (.tl (.tl (.tl (.tl (.tl (.tl (.tl .hd))))))) | exact .tl (.tl (.tl (.tl (.tl (.tl (.tl (.tl (.tl .hd)))))))))) ⟨[.int .i64 m.1, .int .i64 m.2], [], rfl, rfl, rfl⟩ (by simp; omega) (by simp; omega) ?_
          intro v34 c34 w34
          refine TL.shut .hd ?_
          intro H34 s34 q34
          have g34 := w34.read s34 q34
          refine TL.nil (Plan.e1 (s34) ?_)
          refine Plan.s1 5 [6, 7, 8, 9, 10] (by kernel_rfl) (by kernel_rfl) rfl ?_
          refine R.callp rfl rfl rfl (of_c _ _ (xs ++ [m]) g34 (by simp; omega)) ?_
          intro v35 H35 s35 q35
          obtain ⟨w35, rfl, g35⟩ := q35
          have hof := more_of hA (by omega) hm
          refine TL.nil (Plan.e1 (s35) ?_)
          refine Plan.v 6 [7, 8, 9, 10] (by kernel_rfl) (by kernel_rfl) (by kernel_rfl) (by kernel_rfl) rfl (fun _ _ h_ => R.mvE rfl (by conv => lhs; whnf) (TL.nil h_)) ?_
          refine Plan.v 7 [8, 9, 10] (by kernel_rfl) (by kernel_rfl) (by kernel_rfl) (by kernel_rfl) rfl (fun _ _ h_ => R.ext rfl rfl rfl (TL.nil h_)) ?_
          refine Plan.v 8 [9, 10] (by kernel_rfl) (by kernel_rfl) (by kernel_rfl) (by kernel_rfl) rfl (fun _ _ h_ => R.ext rfl rfl rfl (TL.nil h_)) ?_
          refine Plan.v 9 [10] (by kernel_rfl) (by kernel_rfl) (by kernel_rfl) (by kernel_rfl) rfl (fun _ _ h_ => R.asE rfl (by conv => lhs; whnf) (TL.nil h_)) ?_
          refine Plan.v 10 [] (by kernel_rfl) (by kernel_rfl) (by kernel_rfl) (by kernel_rfl) rfl (fun _ _ h_ => R.asE rfl (by conv => lhs; whnf) (TL.nil h_)) ?_
          refine Plan.done (Post.thnN ?_)
          refine T.seq ?_
          refine T.seq ?_
          refine T.region ?_
          refine R.mvE rfl (by conv => lhs; whnf) ?_
          refine R.neq rfl rfl rfl ?_
          refine TL.nil (Post.thnN ?_)
          refine T.set 39 (.bool false) (congrArg Value.bool (decide_eq_false (fun h => h (by rw [hof])))) ?_
          refine T.condN rfl ?_
          refine T.skip (Post.thnN ?_)
          refine T.seq ?_
          refine T.region ?_
          refine R.mvE rfl (by conv => lhs; whnf) ?_
          refine R.mvE rfl (by conv => lhs; whnf) ?_
          refine R.fldA Tryz.underlying45 rfl Tryz.sizeOf3 (by decide) rfl rfl ?_
          refine R.ldH Tryz.isAgg3 rfl rfl (((s31.trans (s34.trans s35)) _ _ h5)) rfl ?_
          refine TL.call [] rfl rfl rfl (danew_c _ _ _ d (ofP (xs ++ [m])) m.1 (hrd.mono (s5.trans (s31.trans (s34.trans s35)))) (by rw [hof] at g35; exact g35) (more_acyc hA (by omega) hm c22) (by have := ofP_len (xs ++ [m]); simp at this; omega) hld (by rw [hd]; exact more_keep hA (by omega) hm c22)) ?_
          intro v45 H45 L45 s45 q45
          obtain ⟨c45, rfl, w45⟩ := q45
          refine TL.shut .hd ?_
          intro HF45 sF45 qF45
          have f45 := w45.read sF45 qF45
          refine R.asE rfl (by conv => lhs; whnf) ?_
          refine R.asE rfl (by conv => lhs; whnf) ?_
          refine TL.nil (Post.thnN ?_)
          refine T.ret ?_
          -- way nnn1
          exact fin2 rfl rfl rfl ⟨rfl, _, by rw [moreR_d hs0 hin c22]; rfl, by rw [moreR_d hs0 hin c22]; exact f45⟩


end Go.SX

set_option linter.unusedVariables false
set_option linter.unusedSimpArgs false
namespace Go.SX
open Go Go.Proofs

theorem sortA_c (H : Heap) (v : Value) (xs : List Int) (ch : Chunk) (ho : OwnS (intE .i64) 3 H v xs ch) (hl : xs.length ≤ 1099511627776) : Fc Tryz.prog (fnv 31) [v] H [ch] (fun _ H' L' => H' = H ∧ ∃ c', L' = [c'] ∧ OwnS (intE .i64) 3 H v (sortI xs) c') := by
  by_cases hne : xs = []
  · intro w hs
    obtain ⟨A, cap, rfl, _, _⟩ := ho.shape
    subst hne
    have he := Go.Proofs.enters_of (P := Tryz.prog) Tryz.func31 (by kernel_rfl) rfl #[.slice A 0 cap] w
    refine ⟨.enter 31 #[.slice A 0 cap], w, by simp [Deferred.ofValue, invoke, he], ?_⟩
    refine CallsIn.mono (callsIn_wide.2 (Go.Proofs.Any.slices_Sort_int_none Tryz.lays189 A cap w)) ?_
    rintro e' w' ⟨rfl, rfl⟩
    exact ⟨_, H, [ch], rfl, St.init hs, rfl, ch, rfl, by simpa [sortI] using ho⟩
  · exact sort_c H v xs ch ho hne hl

set_option maxHeartbeats 1600000 in
theorem own17_c (H : Heap) (v : Value) (xs : List Lk) (hr : RdS pairE H v xs) : Fc Tryz.prog (fnv 11) [v] H [] (fun v' H' L' => ∃ c, L' = [c] ∧ OwnS pairE 45 H' v' (xs.take 22) c) := by
  refine Fc.of_body (N := 9) Tryz.func11 rfl (by kernel_rfl) rfl rfl ?_
  intro w0
  obtain ⟨A, c, rfl, hc1, hc2, hr⟩ := hr.shape
  have hm : min xs.length 22 ≤ xs.length := Nat.min_le_left _ _
  refine T.seq ?_
  refine T.region ?_
  refine R.asE rfl (by conv => lhs; whnf) ?_
  refine TL.nil (Post.thnN ?_)
  refine T.seq ?_
  refine T.region ?_
  refine R.mvE rfl (by conv => lhs; whnf) ?_
  refine R.mvE rfl (by conv => lhs; whnf) ?_
  refine R.len Tryz.underlying22 rfl rfl ?_
  refine R.min2 rfl rfl rfl ?_
  refine TL.set 6 (.int .i64 ((min xs.length 22 : Nat) : Int)) (congrArg _ (minN _ 22)) ?_
  refine R.sH Tryz.underlying22 Tryz.sizeOf45 rfl rfl rfl  (by omega) (by omega)  ?_
  refine TL.call [] rfl rfl rfl (cloneP22_c _ _ _ (hr.takeC hm hc1) (by simp; omega)) ?_
  intro v8 H8 L8 s8 q8
  obtain ⟨c8, rfl, w8⟩ := q8
  rw [Int.toNat_natCast, takeMin] at w8
  refine R.asE rfl (by conv => lhs; whnf) ?_
  refine TL.nil (Post.thnN ?_)
  refine T.ret ?_
  exact fin1L [c8] rfl rfl (List.Sublist.refl _) ⟨_, rfl, w8⟩


set_option maxHeartbeats 1600000 in
theorem small17_c (H : Heap) : Fp Tryz.prog (fnv 59) [] H (fun v' H' => RdS pairE H' v' smallD) := by
  refine Fc.of_body (N := 5) Tryz.func59 rfl (by kernel_rfl) rfl rfl ?_
  intro w0
  refine T.seq ?_
  refine T.region ?_
  refine R.asE rfl (by conv => lhs; whnf) ?_
  refine TL.nil (Post.thnN ?_)
  refine T.seq ?_
  refine T.region ?_
  refine R.bld (cs := [.int .i64 3, .int .i64 4]) rfl (fun _ => by kernel_rfl) ?_
  refine R.bld (cs := [.int .i64 3, .int .i64 5]) rfl (fun _ => by kernel_rfl) ?_
  refine R.bld (cs := [.int .i64 4, .int .i64 5]) rfl (fun _ => by kernel_rfl) ?_
  refine R.bs (e := 45) (cs := [.int .i64 3, .int .i64 4, .int .i64 3, .int .i64 5, .int .i64 4, .int .i64 5]) rfl (fun _ => by kernel_rfl) ?_
  intro b4
  refine TL.shut .hd ?_
  intro H4 s4 q4
  have l4 : RdS pairE H4 _ [(3, 4), (3, 5), (4, 5)] := RdS.litP [(3, 4), (3, 5), (4, 5)] q4 rfl
  refine R.asE rfl (by conv => lhs; whnf) ?_
  refine TL.nil (Post.thnN ?_)
  refine T.ret ?_
  exact fin1 rfl rfl ⟨rfl, l4⟩


set_option maxHeartbeats 1600000 in
theorem wakes17_c (H : Heap) : Fv Tryz.prog (fnv 10) [] H (.bool true) := by
  refine Fc.of_body (N := 60) Tryz.func10 rfl (by kernel_rfl) rfl rfl ?_
  intro w0
  refine T.seq ?_
  refine T.region ?_
  refine R.asE rfl (by conv => lhs; whnf) ?_
  refine TL.nil (Post.thnN ?_)
  refine T.seq ?_
  refine T.region ?_
  refine R.callp rfl rfl rfl (small17_c _) ?_
  intro v8 H8 s8 q8
  refine R.callp rfl rfl rfl (dOf_c _ _ smallD q8 (by decide)) ?_
  intro v9 H9 s9 q9
  rw [smallD_of] at q9
  obtain ⟨w9, rfl, g9⟩ := q9
  refine R.mvE rfl (by conv => lhs; whnf) ?_
  refine R.ext rfl rfl rfl ?_
  refine R.ext rfl rfl rfl ?_
  refine R.asE rfl (by conv => lhs; whnf) ?_
  refine R.asE rfl (by conv => lhs; whnf) ?_
  refine TL.nil (Post.thnN ?_)
  refine T.seq ?_
  refine T.region ?_
  refine R.mvE rfl (by conv => lhs; whnf) ?_
  refine R.callp rfl rfl rfl (small17_c _) ?_
  intro v14 H14 s14 q14
  refine R.bld (cs := [.int .i64 5, .int .i64 6]) rfl (fun _ => by kernel_rfl) ?_
  refine R.callp rfl rfl rfl (dmore_c _ _ _ [(3, 2), (4, 1)] smallD (5, 6) (g9.mono s14) q14 (by decide) (by decide)) ?_
  intro v16 H16 s16 q16
  rw [smallD_more] at q16
  obtain ⟨w16, rfl, g16⟩ := q16
  obtain ⟨A16, k16, rfl, m16, n16, g16⟩ := g16.shape
  refine R.mvE rfl (by conv => lhs; whnf) ?_
  refine R.ext rfl rfl rfl ?_
  refine R.ext rfl rfl rfl ?_
  refine R.asE rfl (by conv => lhs; whnf) ?_
  refine R.asE rfl (by conv => lhs; whnf) ?_
  refine TL.nil (Post.thnN ?_)
  refine T.seq ?_
  refine T.region ?_
  refine R.mvE rfl (by conv => lhs; whnf) ?_
  refine R.callp rfl rfl rfl (small17_c _) ?_
  intro v21 H21 s21 q21
  refine R.bld (cs := [.int .i64 5, .int .i64 3]) rfl (fun _ => by kernel_rfl) ?_
  refine R.callp rfl rfl rfl (dmore_c _ _ _ [(3, 2), (4, 1)] smallD (5, 3) (g9.mono (s14.trans (s16.trans s21))) q21 (by decide) (by decide)) ?_
  intro v23 H23 s23 q23
  rw [smallD_cyc] at q23
  obtain ⟨w23, rfl, g23⟩ := q23
  refine R.mvE rfl (by conv => lhs; whnf) ?_
  refine R.ext rfl rfl rfl ?_
  refine R.ext rfl rfl rfl ?_
  refine R.asE rfl (by conv => lhs; whnf) ?_
  refine R.asE rfl (by conv => lhs; whnf) ?_
  refine TL.nil (Post.thnN ?_)
  refine T.seq ?_
  refine T.region ?_
  refine R.mvE rfl (by conv => lhs; whnf) ?_
  refine R.eql rfl rfl rfl ?_
  refine R.mvE rfl (by conv => lhs; whnf) ?_
  refine TL.set 28 (.bool true) (by kernel_rfl) ?_
  refine R.mvE rfl (by conv => lhs; whnf) ?_
  refine R.eql rfl rfl rfl ?_
  refine R.pkTE rfl rfl (by conv => lhs; whnf) ?_
  refine R.mvE rfl (by conv => lhs; whnf) ?_
  refine TL.set 32 (.bool true) (by kernel_rfl) ?_
  refine R.mvE rfl (by conv => lhs; whnf) ?_
  refine R.eql rfl rfl rfl ?_
  refine R.pkTE rfl rfl (by conv => lhs; whnf) ?_
  refine R.mvE rfl (by conv => lhs; whnf) ?_
  refine TL.set 36 (.bool true) (by kernel_rfl) ?_
  refine R.mvE rfl (by conv => lhs; whnf) ?_
  refine R.bld (cs := [.int .i64 3, .int .i64 2]) rfl (fun _ => by kernel_rfl) ?_
  refine R.bld (cs := [.int .i64 4, .int .i64 1]) rfl (fun _ => by kernel_rfl) ?_
  refine R.bs (e := 29) (cs := [.int .i64 3, .int .i64 2, .int .i64 4, .int .i64 1]) rfl (fun _ => by kernel_rfl) ?_
  intro b40
  refine TL.shut .hd ?_
  intro H40 s40 q40
  have l40 : RdS pairE H40 _ [(3, 2), (4, 1)] := RdS.litP [(3, 2), (4, 1)] q40 rfl
  refine R.callv rfl rfl rfl (equalD_c _ _ _ _ _ (g9.mono (s14.trans (s16.trans (s21.trans (s23.trans s40))))) l40) ?_
  refine R.pkTE rfl rfl (by conv => lhs; whnf) ?_
  refine R.mvE rfl (by conv => lhs; whnf) ?_
  refine TL.set 43 (.bool true) (by kernel_rfl) ?_
  refine R.mvE rfl (by conv => lhs; whnf) ?_
  refine R.len Tryz.underlying23 rfl rfl ?_
  refine R.eql rfl rfl rfl ?_
  refine R.pkTE rfl rfl (by conv => lhs; whnf) ?_
  refine R.mvE rfl (by conv => lhs; whnf) ?_
  refine TL.set 48 (.bool true) (by kernel_rfl) ?_
  refine R.mvE rfl (by conv => lhs; whnf) ?_
  refine R.callv rfl rfl rfl (dAt_c _ _ [(3, 3), (4, 2), (5, 1)] 3 (g16.mono (s21.trans (s23.trans s40))) (by decide)) ?_
  refine R.eql rfl rfl rfl ?_
  refine R.pkTE rfl rfl (by conv => lhs; whnf) ?_
  refine R.mvE rfl (by conv => lhs; whnf) ?_
  refine TL.set 53 (.bool true) (by kernel_rfl) ?_
  refine R.mvE rfl (by conv => lhs; whnf) ?_
  refine R.bsN [_, _, _, _] rfl Tryz.underlying24 Tryz.sizeOf3 Tryz.zeroValue3 rfl rfl rfl rfl rfl rfl ?_
  intro b55
  refine TL.shut .hd ?_
  intro H55 s55 q55
  have l55 : RdS (intE .i64) H55 _ [3, 5, 4, 9] := RdS.litN [3, 5, 4, 9] q55 rfl
  refine TL.call [] rfl rfl rfl (dOrder_c _ _ _ [(3, 2), (4, 1)] [3, 5, 4, 9] (g9.mono (s14.trans (s16.trans (s21.trans (s23.trans (s40.trans s55)))))) (by decide) l55 (by decide)) ?_
  intro v56 H56 L56 s56 q56
  obtain ⟨c56, rfl, w56⟩ := q56
  refine TL.shut .hd ?_
  intro HF56 sF56 qF56
  have f56 := w56.read sF56 qF56
  refine R.bsN [_, _, _, _] rfl Tryz.underlying24 Tryz.sizeOf3 Tryz.zeroValue3 rfl rfl rfl rfl rfl rfl ?_
  intro b57
  refine TL.shut .hd ?_
  intro H57 s57 q57
  have l57 : RdS (intE .i64) H57 _ [5, 9, 4, 3] := RdS.litN [5, 9, 4, 3] q57 rfl
  refine R.callv rfl rfl rfl (equalI24_c _ _ _ _ [5, 9, 4, 3] (f56.mono s57) l57) ?_
  refine R.pkTE rfl rfl (by conv => lhs; whnf) ?_
  refine R.asE rfl (by conv => lhs; whnf) ?_
  refine TL.nil (Post.thnN ?_)
  refine T.ret ?_
  exact fin1 rfl rfl ⟨rfl, congrArg Value.bool (by kernel_rfl)⟩

end Go.SX

set_option linter.unusedVariables false
set_option linter.unusedSimpArgs false
namespace Go.SX
open Go Go.Proofs

set_option maxHeartbeats 1600000 in
theorem depthOrder_c (H : Heap) (v u : Value) (xs : List Lk) (ns : List Int) (hr : RdS pairE H v xs) (hr2 : RdS (intE .i64) H u ns) : Fv Tryz.prog (fnv 5) [v, u] H (.bool true) := by
  refine Fc.of_body (N := 81) Tryz.func5 rfl (by kernel_rfl) rfl rfl ?_
  intro w0
  obtain ⟨A, c, rfl, hc1, hc2, hr⟩ := hr.shape
  obtain ⟨A2, c2, rfl, hc3, hc4, hr2⟩ := hr2.shape
  obtain ⟨fx, hfx⟩ : ∃ l, l = xs.take 22 := ⟨_, rfl⟩
  have hfl : fx.length ≤ 22 := by rw [hfx, List.length_take]; omega
  obtain ⟨fn, hfn⟩ : ∃ l, l = ns.take 12 := ⟨_, rfl⟩
  have hfnl : fn.length ≤ 12 := by rw [hfn, List.length_take]; omega
  have hm2 : min ns.length 12 ≤ ns.length := Nat.min_le_left _ _
  refine T.seq ?_
  refine T.region ?_
  refine R.asE rfl (by conv => lhs; whnf) ?_
  refine TL.nil (Post.thnN ?_)
  refine T.seq ?_
  refine T.seq ?_
  refine T.region ?_
  refine R.callv rfl rfl rfl (wakes17_c _) ?_
  refine R.not rfl rfl ?_
  refine TL.nil (Post.thnN ?_)
  refine T.condN rfl ?_
  refine T.skip (Post.thnN ?_)
  refine T.seq ?_
  refine T.region ?_
  refine R.mvE rfl (by conv => lhs; whnf) ?_
  refine TL.call [] rfl rfl rfl (own17_c _ _ _ hr) ?_
  intro v18 H18 L18 s18 q18
  obtain ⟨c18, rfl, w18⟩ := q18
  rw [← hfx] at w18
  refine TL.shut .hd ?_
  intro HF18 sF18 qF18
  have f18 := w18.read sF18 qF18
  obtain ⟨AF18, pF18, rfl, mF18, nF18, f18⟩ := f18.shape
  refine R.asE rfl (by conv => lhs; whnf) ?_
  refine TL.nil (Post.thnN ?_)
  refine T.seq ?_
  refine T.region ?_
  refine R.mvE rfl (by conv => lhs; whnf) ?_
  refine R.callp rfl rfl rfl (dOf_c _ _ fx f18 (by omega)) ?_
  intro v21 H21 s21 q21
  obtain ⟨w21, rfl, g21⟩ := q21
  obtain ⟨D, hD⟩ : ∃ D, D = (ofDR fx).1 := ⟨_, rfl⟩
  rw [← hD] at g21
  obtain ⟨A21, k21, rfl, m21, n21, g21⟩ := g21.shape
  refine R.mvE rfl (by conv => lhs; whnf) ?_
  refine R.ext rfl rfl rfl ?_
  refine R.ext rfl rfl rfl ?_
  refine R.asE rfl (by conv => lhs; whnf) ?_
  refine R.asE rfl (by conv => lhs; whnf) ?_
  refine TL.nil (Post.thnN ?_)
  refine T.seq ?_
  refine T.seq ?_
  refine T.region ?_
  refine R.mvE rfl (by conv => lhs; whnf) ?_
  refine R.neq rfl rfl rfl ?_
  refine TL.nil (Post.thnN ?_)
  refine T.condD rfl (fun c25 => ?_) (fun c25 => ?_)
  · refine T.seq ?_
    refine T.region ?_
    refine R.asE rfl (by conv => lhs; whnf) ?_
    refine TL.nil (Post.thnN ?_)
    refine T.ret (Post.thnR ?_)
    -- way y
    exact fin1 rfl rfl ⟨rfl, rfl⟩
  · have he : (ofDR fx).2 = 0 := Decidable.of_not_not c25
    obtain ⟨hA, he⟩ := ofDR_ok he
    have hDe : D = ofD fx := by rw [hD, he]
    subst hDe
    refine T.skip (Post.thnN ?_)
    refine T.seq ?_
    refine T.region ?_
    refine R.mvE rfl (by conv => lhs; whnf) ?_
    refine R.mvE rfl (by conv => lhs; whnf) ?_
    refine R.len Tryz.underlying24 rfl rfl ?_
    refine R.min2 rfl rfl rfl ?_
    refine TL.set 29 (.int .i64 ((min ns.length 12 : Nat) : Int)) (congrArg _ (minN _ 12)) ?_
    have g30 := (hr2.mono (s18.trans (sF18.trans s21))).takeC hm2 hc3
    rw [takeMin, ← hfn] at g30
    obtain ⟨A30, k30, hv30, m30, n30, g30⟩ := g30.shape
    refine R.sH Tryz.underlying24 Tryz.sizeOf3 rfl rfl rfl (by omega) (by omega) ?_
    refine TL.set 30 (.slice A30 fn.length k30) hv30 ?_
    refine R.asE rfl (by conv => lhs; whnf) ?_
    refine TL.nil (Post.thnN ?_)
    refine T.seq ?_
    refine T.region ?_
    refine R.mvE rfl (by conv => lhs; whnf) ?_
    refine R.mvE rfl (by conv => lhs; whnf) ?_
    refine TL.call [] rfl rfl rfl (dOrder_c _ _ _ (ofD fx) fn g21 (by have := ofD_len fx; omega) g30 (by omega)) ?_
    intro v33 H33 L33 s33 q33
    obtain ⟨c33, rfl, w33⟩ := q33
    rw [okD_of hA] at w33
    refine TL.shut .hd ?_
    intro HF33 sF33 qF33
    have f33 := w33.read sF33 qF33
    obtain ⟨AF33, pF33, rfl, mF33, nF33, f33⟩ := f33.shape
    have hol := refO_len (ofD fx) fn
    refine R.asE rfl (by conv => lhs; whnf) ?_
    refine TL.nil (Post.thnN ?_)
    refine T.seq ?_
    refine T.seq ?_
    refine T.region ?_
    refine R.mvE rfl (by conv => lhs; whnf) ?_
    refine R.len Tryz.underlying24 rfl rfl ?_
    refine R.mvE rfl (by conv => lhs; whnf) ?_
    refine TL.nil (Post.thnN ?_)
    refine T.block ?_
    refine T.loop (ι := Nat) (fun i H' L' ds' => i ≤ (refO (ofD fx) fn).length ∧ L' = [] ∧ ds' = []) (fun i => [(1, .slice A30 fn.length k30), (5, .slice AF18 fx.length pF18), (6, .slice A21 (ofD fx).length k21), (8, .slice AF33 (refO (ofD fx) fn).length pF33), (34, .slice AF33 (refO (ofD fx) fn).length pF33), (35, .int .i64 (refO (ofD fx) fn).length), (36, .int .i64 i)]) (fun i => (refO (ofD fx) fn).length - i) (0) ?_ ?_ ?_
    · exact ⟨Nat.zero_le _, rfl, rfl⟩
    · exact ⟨rfl, rfl, rfl, rfl, rfl, rfl, rfl, trivial⟩
    · intro i σ0 H_0 L_0 ds_0 s_0 hI_0
      obtain ⟨hi, rfl, rfl⟩ := hI_0
      refine T.seq ?_
      refine T.region ?_
      refine R.lss rfl rfl rfl ?_
      refine TL.nil (Post.thnN ?_)
      refine T.seq ?_
      refine T.condD rfl (fun c37 => ?_) (fun c37 => ?_)
      · have hlt : i < (refO (ofD fx) fn).length := by omega
        obtain ⟨a, ha⟩ := getk hlt
        refine T.skip (Post.thnN ?_)
        refine T.seq ?_
        refine T.block ?_
        refine T.seq ?_
        refine T.region ?_
        refine R.mvE rfl (by conv => lhs; whnf) ?_
        obtain ⟨b39, o39, i39, e39⟩ := (f33.mono s_0).elem (ha)
        refine R.ixp Tryz.underlying24 Tryz.sizeOf3 rfl rfl rfl (by omega) i39 ?_
        refine R.ldC Tryz.isAgg3 rfl rfl (e39).int ?_
        refine R.asE rfl (by conv => lhs; whnf) ?_
        refine R.asE rfl (by conv => lhs; whnf) ?_
        refine TL.nil (Post.thnN ?_)
        refine T.seq ?_
        refine T.region ?_
        refine R.mvE rfl (by conv => lhs; whnf) ?_
        refine R.mvE rfl (by conv => lhs; whnf) ?_
        refine R.addI rfl rfl rfl (by omega) ?_
        have g44 := (f33.mono s_0).drop (i := i + 1) (by omega) mF33
        obtain ⟨A44, k44, hv44, m44, n44, g44⟩ := g44.shape
        refine R.sL Tryz.underlying24 Tryz.sizeOf3 rfl rfl rfl (by omega) (by omega) ?_
        refine TL.set 44 (.slice A44 ((refO (ofD fx) fn).drop (i + 1)).length k44) hv44 ?_
        refine R.len Tryz.underlying24 rfl rfl ?_
        refine R.mvE rfl (by conv => lhs; whnf) ?_
        refine TL.nil (Post.thnN ?_)
        refine T.block ?_
        refine T.loop (ι := Nat) (fun j H' L' ds' => j ≤ ((refO (ofD fx) fn).drop (i + 1)).length ∧ L' = [] ∧ ds' = []) (fun j => [(1, .slice A30 fn.length k30), (5, .slice AF18 fx.length pF18), (6, .slice A21 (ofD fx).length k21), (8, .slice AF33 (refO (ofD fx) fn).length pF33), (10, .int .i64 a), (34, .slice AF33 (refO (ofD fx) fn).length pF33), (35, .int .i64 (refO (ofD fx) fn).length), (36, .int .i64 i), (44, .slice A44 ((refO (ofD fx) fn).drop (i + 1)).length k44), (45, .int .i64 ((refO (ofD fx) fn).drop (i + 1)).length), (46, .int .i64 j)]) (fun j => ((refO (ofD fx) fn).drop (i + 1)).length - j) (0) ?_ ?_ ?_
        · exact ⟨Nat.zero_le _, rfl, rfl⟩
        · exact ⟨rfl, rfl, rfl, rfl, rfl, rfl, rfl, rfl, rfl, rfl, rfl, trivial⟩
        · intro j σ1 H_1 L_1 ds_1 s_1 hI_1
          obtain ⟨hj, rfl, rfl⟩ := hI_1
          refine T.seq ?_
          refine T.region ?_
          refine R.lss rfl rfl rfl ?_
          refine TL.nil (Post.thnN ?_)
          refine T.seq ?_
          refine T.condD rfl (fun c47 => ?_) (fun c47 => ?_)
          · have hlt2 : j < ((refO (ofD fx) fn).drop (i + 1)).length := by omega
            obtain ⟨b, hb⟩ := getk hlt2
            have hab := order_at ha hb
            refine T.skip (Post.thnN ?_)
            refine T.seq ?_
            refine T.block ?_
            refine T.seq ?_
            refine T.region ?_
            obtain ⟨b48, o48, i48, e48⟩ := (g44.mono s_1).elem (hb)
            refine R.ixp Tryz.underlying24 Tryz.sizeOf3 rfl rfl rfl (by omega) i48 ?_
            refine R.ldC Tryz.isAgg3 rfl rfl (e48).int ?_
            refine R.asE rfl (by conv => lhs; whnf) ?_
            refine TL.nil (Post.thnN ?_)
            refine T.cut (ι := Unit) (fun _ H' L' ds' => L' = [] ∧ ds' = []) (fun _ => [(1, .slice A30 fn.length k30), (5, .slice AF18 fx.length pF18), (6, .slice A21 (ofD fx).length k21), (8, .slice AF33 (refO (ofD fx) fn).length pF33), (10, .int .i64 a), (34, .slice AF33 (refO (ofD fx) fn).length pF33), (35, .int .i64 (refO (ofD fx) fn).length), (36, .int .i64 i), (44, .slice A44 ((refO (ofD fx) fn).drop (i + 1)).length k44), (45, .int .i64 ((refO (ofD fx) fn).drop (i + 1)).length), (46, .int .i64 j), (67, .bool false)]) ?_ ?_
            · refine T.region ?_
              refine R.mvE rfl (by conv => lhs; whnf) ?_
              refine R.mvE rfl (by conv => lhs; whnf) ?_
              refine R.neq rfl rfl rfl ?_
              refine R.mvE rfl (by conv => lhs; whnf) ?_
              refine TL.gsplitD 53 rfl (fun g53 => ?_) (fun g53 => ?_)
              · refine R.mvE rfl (by conv => lhs; whnf) ?_
                refine R.mvE rfl (by conv => lhs; whnf) ?_
                refine R.mvE rfl (by conv => lhs; whnf) ?_
                refine R.callv rfl rfl rfl (leads_c _ _ fx a (f18.mono (s21.trans (s33.trans (sF33.trans (s_0.trans s_1))))) (by omega) b) ?_
                refine R.pkTE rfl rfl (by conv => lhs; whnf) ?_
                refine R.mvE rfl (by conv => lhs; whnf) ?_
                refine TL.set 59 (.bool false) (congrArg Value.bool (order_lead hA hab)) ?_
                refine R.mvE rfl (by conv => lhs; whnf) ?_
                refine R.mvE rfl (by conv => lhs; whnf) ?_
                refine R.callv rfl rfl rfl (dAt_c _ _ (ofD fx) a (g21.mono (s33.trans (sF33.trans (s_0.trans s_1)))) (by have := ofD_len fx; omega)) ?_
                refine R.mvE rfl (by conv => lhs; whnf) ?_
                refine R.mvE rfl (by conv => lhs; whnf) ?_
                refine R.callv rfl rfl rfl (dAt_c _ _ (ofD fx) b (g21.mono (s33.trans (sF33.trans (s_0.trans s_1)))) (by have := ofD_len fx; omega)) ?_
                refine R.gtr rfl rfl rfl ?_
                refine R.pkFE rfl rfl (by conv => lhs; whnf) ?_
                refine TL.nil (Post.thnN ?_)
                -- cut r15, way y
                exact ⟨(), HLe.refl _, ⟨rfl, rfl⟩, rfl, rfl, rfl, rfl, rfl, rfl, rfl, rfl, rfl, rfl, rfl, congrArg Value.bool (decide_eq_false (by rw [if_pos (ofD_right hA), if_pos (ofD_right hA)]; unfold leO at hab; omega)), trivial⟩
              · refine TL.off rfl rfl rfl ?_
                refine TL.off rfl rfl rfl ?_
                refine TL.off rfl rfl rfl ?_
                refine TL.off rfl rfl rfl ?_
                refine R.pkFE rfl rfl (by conv => lhs; whnf) ?_
                refine R.mvE rfl (by conv => lhs; whnf) ?_
                refine R.mvE rfl (by conv => lhs; whnf) ?_
                refine R.mvE rfl (by conv => lhs; whnf) ?_
                refine R.callv rfl rfl rfl (dAt_c _ _ (ofD fx) a (g21.mono (s33.trans (sF33.trans (s_0.trans s_1)))) (by have := ofD_len fx; omega)) ?_
                refine R.mvE rfl (by conv => lhs; whnf) ?_
                refine R.mvE rfl (by conv => lhs; whnf) ?_
                refine R.callv rfl rfl rfl (dAt_c _ _ (ofD fx) b (g21.mono (s33.trans (sF33.trans (s_0.trans s_1)))) (by have := ofD_len fx; omega)) ?_
                refine R.gtr rfl rfl rfl ?_
                refine R.pkFE rfl rfl (by conv => lhs; whnf) ?_
                refine TL.nil (Post.thnN ?_)
                -- cut r15, way n
                exact ⟨(), HLe.refl _, ⟨rfl, rfl⟩, rfl, rfl, rfl, rfl, rfl, rfl, rfl, rfl, rfl, rfl, rfl, congrArg Value.bool (decide_eq_false (by rw [if_pos (ofD_right hA), if_pos (ofD_right hA)]; unfold leO at hab; omega)), trivial⟩
            · intro _ σ_r15 H_r15 L_r15 ds_r15 s_r15 hI_r15
              obtain ⟨rfl, rfl⟩ := hI_r15
              refine T.condN rfl ?_
              refine T.skip (Post.blkN ?_)
              refine id (Post.thnN ?_)
              refine T.region ?_
              refine R.addI rfl rfl rfl (by omega) ?_
              refine R.mvE rfl (by conv => lhs; whnf) ?_
              refine TL.nil (Post.thnN ?_)
              -- round's end, way nyy
              exact ⟨j + 1, s_1.trans s_r15, ⟨by omega, rfl, rfl⟩, by omega, ⟨rfl, rfl, rfl, rfl, rfl, rfl, rfl, rfl, rfl, rfl, rfl, trivial⟩⟩
          · refine T.exit (Post.thnE (Post.thnE (Post.blkX ?_)))
            refine id (Post.blkN ?_)
            refine id (Post.thnN ?_)
            refine T.region ?_
            refine R.addI rfl rfl rfl (by omega) ?_
            refine R.mvE rfl (by conv => lhs; whnf) ?_
            refine TL.nil (Post.thnN ?_)
            -- round's end, way nyn
            exact ⟨i + 1, s_0.trans s_1, ⟨by omega, rfl, rfl⟩, by omega, ⟨rfl, rfl, rfl, rfl, rfl, rfl, rfl, trivial⟩⟩
      · refine T.exit (Post.thnE (Post.thnE (Post.blkX ?_)))
        refine id (Post.thnN ?_)
        refine T.seq ?_
        refine T.region ?_
        refine R.mvE rfl (by conv => lhs; whnf) ?_
        refine TL.call [] rfl rfl rfl (cloneI24_c _ _ _ (g30.mono (s33.trans (sF33.trans s_0))) (by omega)) ?_
        intro v71 H71 L71 s71 q71
        obtain ⟨c71, rfl, w71⟩ := q71
        refine R.asE rfl (by conv => lhs; whnf) ?_
        refine TL.nil (Post.thnN ?_)
        refine T.seq ?_
        refine T.region ?_
        refine R.mvE rfl (by conv => lhs; whnf) ?_
        refine TL.call [true] rfl rfl rfl (sortA_c _ _ _ _ w71 (by omega)) ?_
        intro v73 H73 L73 s73 q73
        obtain ⟨rfl, c73, rfl, w73⟩ := q73
        refine TL.nil (Post.thnN ?_)
        refine T.seq ?_
        refine T.region ?_
        refine R.mvE rfl (by conv => lhs; whnf) ?_
        refine TL.call [] rfl rfl rfl (cloneI24_c _ _ _ (f33.mono (s_0.trans s71)) (by omega)) ?_
        intro v75 H75 L75 s75 q75
        obtain ⟨c75, rfl, w75⟩ := q75
        refine R.asE rfl (by conv => lhs; whnf) ?_
        refine TL.nil (Post.thnN ?_)
        refine T.seq ?_
        refine T.region ?_
        refine R.mvE rfl (by conv => lhs; whnf) ?_
        refine TL.call [true] rfl rfl rfl (sortA_c _ _ _ _ w75 (by omega)) ?_
        intro v77 H77 L77 s77 q77
        obtain ⟨rfl, c77, rfl, w77⟩ := q77
        refine TL.shut .hd ?_
        intro HA sA qA
        have fA := w77.read sA qA
        refine TL.shut .hd ?_
        intro HB sB qB
        have fB := (w73.mono (s75.trans sA)).read sB qB
        refine TL.nil (Post.thnN ?_)
        refine T.seq ?_
        refine T.region ?_
        refine R.mvE rfl (by conv => lhs; whnf) ?_
        refine R.mvE rfl (by conv => lhs; whnf) ?_
        refine R.callv rfl rfl rfl (equalI24_c _ _ _ _ _ fB (fA.mono sB)) ?_
        refine R.asE rfl (by conv => lhs; whnf) ?_
        refine TL.nil (Post.thnN ?_)
        refine T.ret ?_
        -- way nn
        exact fin1 rfl rfl ⟨rfl, congrArg Value.bool (decide_eq_true (sortI_same (refO_perm _ _).symm))⟩

end Go.SX

set_option linter.unusedVariables false
set_option linter.unusedSimpArgs false
namespace Go.SX
open Go Go.ChangeShapes Go.WideShapes Go.ChangeAt Go.RowKit

/-- All that stands in a world's memory can be read. -/
def heapOf (W : World) : Heap := fun b => W.heap[b]?
theorem sat_heapOf (W : World) : Sat (heapOf W) [] W := ⟨fun _ _ h => h, fun p h => (by cases h), List.nodup_nil, fun p h => (by cases h)⟩

/-- A contract of a function that hands back v, at a world. -/
theorem calls_of_Fv {P : Program} {f : FuncId} {fn : Func} {c : Code} {vs : List Value} {v : Value} {W : World} (hf : P.funcs[f]? = some fn) (hb : fn.body = some c) (hname : (fn.name == "runtime.NumGoroutine") = false)
    (h : Fv P (fnv f) vs (heapOf W) v) : Calls P f vs.toArray W fun e W' => e = .returned v ∧ Below W.heap.size W W' := by
  obtain ⟨nx, w1, h1, h2⟩ := h W (sat_heapOf W)
  have he := Go.Proofs.enters_of (P := P) hf hname hb vs.toArray W
  have hrun : Sem.run P (do let d ← Deferred.ofValue (fnv f) vs.toArray; invoke d.target d.args) W = .ok (.enter f vs.toArray) W := by
    simp [Deferred.ofValue, invoke, he]
  rw [hrun] at h1
  injection h1 with h1 h3
  subst h1; subst h3
  refine callsIn_wide.1 (CallsIn.mono h2 ?_)
  rintro e w' ⟨u, H', L', rfl, hst, rfl, rfl⟩
  exact ⟨rfl, hst.chg.os, hst.chg.tape, hst.chg.output, hst.chg.size, fun b hb => hst.chg.same b hb (by simp [keys])⟩

section
variable {H : Type} {enc : TypeId × Value → H} {P : Program}

theorem trodAll_below (hl : laidOutB P = true) {W W' : World} (hb : Below W.heap.size W W') {sp : Nat → Bool} : ∀ {ts : List TypeId} {vs : List Value} {ds : List (DataW H)} {p : List MemPlace},
    (∀ t ∈ ts, P.readableRec t = true ∧ t < P.types.size) → DataW.TrodAll enc P W 0 (fun _ => true) true ts vs ds p → (∀ q ∈ p, q.block < W.heap.size ∧ sp q.block = true) → DataW.TrodAll enc P W' 0 sp true ts vs ds p
  | [], _, _, _, _, h, _ => by
    obtain ⟨rfl, rfl, rfl⟩ := trodAll_nil h
    exact trodAll_mk0
  | t :: ts, _, _, _, ht, h, hp => by
    obtain ⟨v, vs, d, ds, a, b, rfl, rfl, rfl, h1, h2⟩ := trodAll_cons h
    have h3 := WideElems.Trod_stays (sp' := sp) hl (ht t (List.mem_cons_self ..)).1 (ht t (List.mem_cons_self ..)).2 h1 (fun x hx => hb.same (hp x (List.mem_append_left _ hx)).1) (fun x hx => (hp x (List.mem_append_left _ hx)).2)
    exact ⟨a, b, h3, trodAll_below hl hb (fun t' h' => ht t' (List.mem_cons_of_mem _ h')) h2 (fun x hx => hp x (List.mem_append_right _ hx)), rfl⟩

/-- What is asked behind a call that turned nothing of what there was, and says true. -/
theorem post_true {f : Func} {s : ChangeSpec} {fresh handsOn again : Bool} {W W' : World} {args : Array Value} {ds gs : List (DataW H)} {before : List MemPlace} {tb : TypeId} (hl : laidOutB P = true)
    (hW : DataW.Whole enc P f.params.toList s.vars false W args.toList ds gs before) (hvars : s.vars = []) (hpar : ∀ t ∈ f.params.toList, P.readableRec t = true ∧ t < P.types.size)
    (hs : s.fn H (ds ++ gs) = { results := [.lit (.bool true)], args := ds }) (hrt : f.resultTypes = #[tb]) (htb : P.underlying tb = some .bool) (hb : Below W.heap.size W W') :
    s.post enc P f false fresh handsOn again W args (.bool true) W' := by
  have hlt := hW.lt
  have hW0 := hW
  obtain ⟨p, q, hA, hV, rfl, hfz, hnd⟩ := hW
  rw [hvars] at hV
  obtain ⟨rfl, rfl⟩ := trodVars_none hV
  rw [List.append_nil] at hfz hlt
  have hres : ∀ (b : Nat) (sp : Nat → Bool) (hd : Bool), DataW.TrodAll enc P W' b sp hd f.resultTypes.toList ((Value.bool true).resultList f.resultTypes.size) [.lit (.bool true)] [] := by
    intro b sp hd
    rw [hrt]
    exact trodAll_mk1 (shut_bool htb true)
  have hargs : ∀ sp : Nat → Bool, (∀ x ∈ p, sp x.block = true) → DataW.TrodAll enc P W' 0 sp true f.params.toList args.toList ds p := fun sp hsp =>
    trodAll_below hl hb hpar hA (fun x hx => ⟨hlt x hx, hsp x hx⟩)
  have hvr : ∀ sp : Nat → Bool, DataW.TrodVars enc P W' sp s.vars ([] : List (DataW H)) [] := fun sp => by rw [hvars]; rfl
  refine ⟨ds, [], p ++ [], [], p, [], hW0, ?_, ?_, ?_, World.keptBut_mono (fun x hx => ⟨hx, ?_⟩) (hb.frame (· ∈ p ++ [])), fun _ => ?_⟩
  · rw [hs]; exact hres _ _ _
  · rw [hs]; exact hargs _ (fun x hx => by simpa using hlt x hx)
  · rw [hs]; exact hvr _
  · exact Or.inr (by simpa using hx)
  · refine ⟨ok_one hrt rfl (okWide_bool_mk htb true), _, _, ([] ++ p) ++ [], ⟨[] ++ p, [], trodAll_append (hargs _ (fun _ _ => rfl)) (hres _ _ _), hvr _, rfl, ?_, fun h => by cases h⟩, ?_⟩
    · intro b off hp
      have hp' : MemPlace.cell b off ∈ p := by simpa using hp
      have := hb.frozen (p := ⟨b, off, none⟩) (hlt _ hp')
      rw [this]
      exact hfz b off hp'
    · intro x hx _
      simpa using hx

theorem cellAt_heapOf {W : World} {b o : Nat} {v : Value} (h : W.cell? ⟨b, o, none⟩ = some v) : cellAt (heapOf W) b o = some v := by
  unfold World.cell? at h
  unfold cellAt heapOf
  simp only at h
  revert h
  cases hb : W.heap[b]? with
  | none => intro h; simp at h
  | some ob => cases ob <;> intro h <;> simp_all

end
end Go.SX

set_option linter.unusedVariables false
set_option linter.unusedSimpArgs false
namespace Go.SX
open Go Go.ChangeShapes Go.WideShapes Go.ChangeAt Go.RowKit Go.Deep
/-- What can be read at the type stands as E says. -/
def Opn (P : Program) (t : TypeId) {α : Type} (E : ER α) (Q : α → Prop) : Prop :=
  ∀ (H : Type) (enc : TypeId × Value → H) (W : World) (sp : Nat → Bool) (hd : Bool) (n : Nat) (cs : List Value) (x : DataW H × List MemPlace), DataW.trod enc P W 0 sp hd n t cs = some x → ∃ a, E.R (heapOf W) cs a ∧ Q a
theorem Opn.int {P : Program} {t : TypeId} {k : IntKind} (ht : P.underlying t = some (.int k)) : Opn P t (intE k) (fun x => (Lit.int k x).wf = true) := fun H enc W sp hd n cs x h => by
  obtain ⟨n, rfl, _, hw⟩ := DataW.trod_int ht h
  exact ⟨n, rfl, hw⟩
theorem Opn.bool {P : Program} {t : TypeId} (ht : P.underlying t = some .bool) : Opn P t boolE (fun _ => True) := fun H enc W sp hd n cs x h => by
  obtain ⟨b, rfl, _⟩ := DataW.trod_bool ht h
  exact ⟨b, rfl, trivial⟩
theorem Opn.weak {P : Program} {t : TypeId} {α : Type} {E : ER α} {Q Q' : α → Prop} (h : Opn P t E Q) (hq : ∀ a, Q a → Q' a) : Opn P t E Q' := fun H enc W sp hd n cs x hx => by
  obtain ⟨a, h1, h2⟩ := h H enc W sp hd n cs x hx
  exact ⟨a, h1, hq a h2⟩
/-- A struct of two ints. -/
theorem Opn.pair {P : Program} {t i : TypeId} {f0 f1 : Field} (ht : P.underlying t = some (.struct #[f0, f1])) (ct : P.cellsOf t = 2) (o0 : f0.offset = 0) (o1 : f1.offset = 1) (t0 : f0.type = i) (t1 : f1.type = i)
    (hi : P.underlying i = some (.int .i64)) (ci : P.cellsOf i = 1) : Opn P t pairE (fun _ => True) := fun H enc W sp hd n cs x h => by
  obtain ⟨xs, m, _, _, hl, hxl, hf⟩ := DataW.trod_struct ht h
  rw [ct] at hl
  match cs, hl, xs, hxl with
  | [v0, v1], _, [y0, y1], _ =>
    have g0 := hf 0 f0 rfl
    have g1 := hf 1 f1 rfl
    rw [o0, t0, ci] at g0
    rw [o1, t1, ci] at g1
    simp at g0 g1
    obtain ⟨a, ha, _⟩ := DataW.trod_int hi g0
    obtain ⟨b, hb, _⟩ := DataW.trod_int hi g1
    simp at ha hb
    subst ha; subst hb
    exact ⟨(a, b), rfl, trivial⟩
/-- An array of two ints. -/
theorem Opn.two {P : Program} {t i : TypeId} (ht : P.underlying t = some (.array 2 i)) (ct : P.cellsOf t = 2) (hi : P.underlying i = some (.int .i64)) (ci : P.cellsOf i = 1) : Opn P t pairE (fun _ => True) := fun H enc W sp hd n cs x h => by
  obtain ⟨xs, m, _, _, hl, hxl, hf⟩ := DataW.trod_array ht h
  rw [ct] at hl
  match cs, hl, xs, hxl with
  | [v0, v1], _, [y0, y1], _ =>
    have g0 := hf 0 (by omega)
    have g1 := hf 1 (by omega)
    rw [ci] at g0 g1
    simp at g0 g1
    obtain ⟨a, ha, _⟩ := DataW.trod_int hi g0
    obtain ⟨b, hb, _⟩ := DataW.trod_int hi g1
    simp at ha hb
    subst ha; subst hb
    exact ⟨(a, b), rfl, trivial⟩
/-- A slice. -/
theorem Opn.slice {P : Program} {t e : TypeId} {α : Type} {E : ER α} {Q : α → Prop} (ht : P.underlying t = some (.slice e)) (hc : P.cellsOf e = E.size) (he : Opn P e E Q) (hs : 0 < E.size) : Opn P t (slE E) (fun xs => ∀ x ∈ xs, Q x) := fun H enc W sp hd n cs x h => by
  rcases open_slice ht h with ⟨rfl, _⟩ | ⟨a, len, cap, m, n', D, Pl, rfl, _, hl, hm, hmm, _, hx⟩
  · exact ⟨[], ⟨_, rfl, RdS.nil⟩, fun x hx => by simp at hx⟩
  · have key : ∀ i, i < len → ∃ x, (∃ b o, a = ⟨b, o, none⟩ ∧ ElemAt E (heapOf W) b (o + i * E.size) x) ∧ Q x := fun i hi => by
      obtain ⟨cs', h1, h2⟩ := hx i (by rw [hmm]; split <;> omega)
      obtain ⟨x, h3, h4⟩ := he H enc W sp hd n' cs' _ h2
      refine ⟨x, ?_, h4⟩
      rw [hc] at h1
      obtain ⟨_, hlen, hcell⟩ := World.cells?_some h1
      obtain ⟨ab, ao, asp⟩ := a
      cases asp with
      | none =>
        refine ⟨ab, ao, rfl, cs', h3, fun j u hj => ?_⟩
        have hjl : j < E.size := by rw [← hlen]; exact (List.getElem?_eq_some_iff.1 hj).1
        have h5 := hcell j hjl
        rw [hj, add_add, Addr.add_lit] at h5
        have := cellAt_heapOf h5
        rw [show ao + i * E.size + j = ao + (i * E.size + j) by omega]
        exact this
      | some s =>
        exfalso
        obtain ⟨cs0, k1, _⟩ := hx 0 (by rw [hmm]; split <;> omega)
        rw [hc, Nat.zero_mul, Addr.add_zero'] at k1
        obtain ⟨_, klen, kcell⟩ := World.cells?_some k1
        have h5 := kcell 0 hs
        rw [Addr.add_zero'] at h5
        obtain ⟨u, hu⟩ : ∃ u, cs0[0]? = some u := ⟨cs0[0], List.getElem?_eq_getElem (by omega)⟩
        rw [hu] at h5
        unfold World.cell? at h5
        revert h5
        cases hb : W.heap[ab]? with
        | none => intro h; simp [hb] at h
        | some ob => cases ob <;> intro h <;> simp [hb] at h
    obtain ⟨f, hf⟩ : ∃ f : Nat → Option α, ∀ i, i < len → ∃ x, f i = some x ∧ (∃ b o, a = ⟨b, o, none⟩ ∧ ElemAt E (heapOf W) b (o + i * E.size) x) ∧ Q x := by
      classical
      refine ⟨fun i => if hi : i < len then some (Classical.choose (key i hi)) else none, fun i hi => ?_⟩
      exact ⟨_, dif_pos hi, Classical.choose_spec (key i hi)⟩
    have hxs : ∀ n, n ≤ len → ∃ xs : List α, xs.length = n ∧ ∀ i, i < n → xs[i]? = f i := fun n => by
      induction n with
      | zero => exact fun _ => ⟨[], rfl, fun i hi => absurd hi (Nat.not_lt_zero _)⟩
      | succ n ih =>
        intro hn
        obtain ⟨xs, h1, h2⟩ := ih (by omega)
        obtain ⟨x, h3, _⟩ := hf n (by omega)
        refine ⟨xs ++ [x], by simp [h1], fun i hi => ?_⟩
        by_cases h : i < n
        · rw [List.getElem?_append_left (by omega)]; exact h2 i h
        · obtain rfl : i = n := by omega
          rw [List.getElem?_append_right (by omega), h1, Nat.sub_self, h3]; rfl
    obtain ⟨xs, h1, h2⟩ := hxs len (Nat.le_refl _)
    subst h1
    refine ⟨xs, ⟨_, rfl, some a, cap, rfl, hl, hm, fun i x hx => ?_⟩, fun x hx => ?_⟩
    · have hi : i < xs.length := (List.getElem?_eq_some_iff.1 hx).1
      obtain ⟨y, h3, ⟨b, o, h4, h5⟩, _⟩ := hf i hi
      rw [h2 i hi, h3] at hx
      injection hx with hx
      subst hx
      exact ⟨b, o, by rw [h4], h5⟩
    · obtain ⟨i, hi, rfl⟩ := List.mem_iff_getElem.1 hx
      obtain ⟨y, h3, _, h4⟩ := hf i hi
      have := h2 i hi
      rw [h3, List.getElem?_eq_getElem hi] at this
      injection this with this
      rw [this]; exact h4
section
variable {P : Program} {H : Type} {enc : TypeId × Value → H} {W : World} {r : Reach} {b0 : Nat} {t : TypeId} {v : Value} {d : DataW H} {p : List MemPlace} {α : Type} {E : ER α} {Q : α → Prop}
/-- A slice that is handed in. -/
theorem open_sl {e : TypeId} (ht : P.underlying t = some (.slice e)) (ho : Opn P t (slE E) (fun xs => ∀ x ∈ xs, Q x)) (hval : Value.okWide P W r b0 t v) (h : DataW.Trod enc P W 0 (fun _ => true) true t v d p) :
    ∃ xs : List α, RdS E (heapOf W) v xs ∧ ∀ x ∈ xs, Q x := by
  obtain ⟨a0, len, cap, rfl⟩ := okWide_slice ht hval
  obtain ⟨n, hn⟩ := h
  obtain ⟨xs, ⟨u, h1, h2⟩, h3⟩ := ho H enc W _ _ n _ _ hn
  have : Value.slice a0 len cap = u := by simpa [Value.cells] using h1
  rw [this]
  exact ⟨xs, h2, h3⟩
end
end Go.SX

set_option linter.unusedVariables false
namespace Go.Proofs.YtfidlmknejooeaaGreat
open Go.ChangeShapes Go.WideShapes Go.ChangeAt Go.RowKit Go.SX

theorem depthOrder_own : ownKnob Tryz.prog.godebug = none := by kernel_rfl
theorem depthOrder_laid : laidOutB Tryz.prog = true := by kernel_rfl

set_option maxRecDepth 100000 in
theorem depthOrder_lifted (os : Os) (started : os.Started) (H : Type) (enc : TypeId × Value → H) :
    ReturnsInHanded {} Tryz.checked os 5 .any (Rows.depthOrderSpec.pre6 enc Tryz.prog Tryz.f5 Rows.depthOrderRow.domain false) (Rows.depthOrderSpec.post enc Tryz.prog Tryz.f5 false true false false) := by
  refine returnsInHanded_of_change (C := Tryz.checked) depthOrder_own started (by kernel_rfl) Tryz.func5
    (ChangeSpec.witness6 (enc := enc) (C := Tryz.checked) false ⟨#[], #[.slice none 0 0, .slice none 0 0], []⟩ 8 (by kernel_rfl) (by kernel_rfl) (by kernel_rfl) (by kernel_rfl)) ?_
  intro W base args ds gs before hval0 hW hcnd _
  have hval : ∀ (j : Nat) t v, Tryz.f5.params[j]? = some t → args[j]? = some v → Value.okWide Tryz.prog W .any base t v := hval0
  have hW' := hW
  obtain ⟨p, q, hA0, hV, rfl, hfz, hnd⟩ := hW
  have hA : DataW.TrodAll enc Tryz.prog W 0 (fun _ => true) true Tryz.f5.params.toList args.toList ds p := hA0
  rw [Tryz.params5] at hA hval
  clear hA0 hval0
  obtain ⟨v0, vs0, d0, ds0, p0, q0, e0, rfl, rfl, h0, r0⟩ := trodAll_cons hA
  obtain ⟨v1, vs1, d1, ds1, p1, q1, e1, rfl, rfl, h1, r1⟩ := trodAll_cons r0
  subst e1
  obtain ⟨e2, rfl, rfl⟩ := trodAll_nil r1
  subst e2
  obtain rfl : args = #[v0, v1] := by cases args; simp_all
  obtain ⟨rfl, rfl⟩ := trodVars_none hV
  obtain ⟨xs0, hr0, hw0⟩ := open_sl Tryz.underlying22 (Opn.slice Tryz.underlying22 (by kernel_rfl) (Opn.pair Tryz.underlying45 (by kernel_rfl) rfl rfl rfl rfl Tryz.underlying3 (by kernel_rfl)) (by decide)) (hval 0 22 v0 rfl rfl) h0
  obtain ⟨xs1, hr1, hw1⟩ := open_sl Tryz.underlying24 (Opn.slice Tryz.underlying24 (by kernel_rfl) (Opn.int Tryz.underlying3) (by decide)) (hval 1 24 v1 rfl rfl) h1
  have hpar : ∀ t ∈ Tryz.f5.params.toList, Tryz.prog.readableRec t = true ∧ t < Tryz.prog.types.size := by
    intro t ht
    rw [Tryz.params5] at ht
    simp only [List.mem_cons, List.not_mem_nil, or_false] at ht
    rcases ht with rfl | rfl
    · exact ⟨by kernel_rfl, of_decide_eq_true (by kernel_rfl)⟩
    · exact ⟨by kernel_rfl, of_decide_eq_true (by kernel_rfl)⟩
  refine (calls_of_Fv Tryz.func5 rfl (by kernel_rfl) (depthOrder_c _ _ _ xs0 xs1 hr0 hr1)).mono fun e W' ⟨he, hb⟩ => ?_
  subst he
  exact ⟨_, rfl, post_true depthOrder_laid hW' rfl hpar rfl rfl Tryz.underlying4 hb⟩

theorem depthOrder_holds : Rows.DepthOrderSaid :=
  OpenClaim.holds_of_wide 5 Tryz.f5 rfl rfl rfl rfl rfl rfl rfl ⟨rfl, rfl, rfl, rfl, rfl⟩ rfl rfl rfl rfl rfl (by kernel_rfl) Tryz.func5 (by kernel_rfl)
    (of_decide_eq_true (by kernel_rfl)) (by unfold Func.isWrapper; first | (rw [if_pos (by decide +kernel)]; kernel_rfl) | (rw [if_neg (by decide +kernel)]; exact ⟨rfl, rfl⟩))
    (fun os started H enc _ => depthOrder_lifted os started H enc)
end Go.Proofs.YtfidlmknejooeaaGreat
