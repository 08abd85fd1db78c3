/- 'AllocRoom' answers true, whatever it is handed, and what it is handed reads behind it as it did: the row, and its tied card. -/
import Derived.RangeFuncNested
import Derived.RangeFuncBound
import Derived.RangeFuncCalls
import Derived.RangeFuncLeaves
import Derived.Shelf.Abstract
import Derived.Laws.AppendOwn
import Derived.Laws.OwnMore
import Derived.KernelRfl
import Derived.IntWalk
import Derived.Laws.Append
import Derived.WideLaws
import Derived.Laws.Slices
import Derived.Laws.MakeOwn
import Derived.OrdersIn
import Derived.Laws.Cover3
import Derived.Test.YtmhoclmjgjopfaaDoorProg
import Derived.Laws.StructEq
import Derived.Shelf.Sort.Plain
import Derived.Sort.OwnSortedInts
import Derived.Shelf.Slices.In.SortNone
import Derived.ProofKit
import Derived.ChangeSlices
import Derived.Carry
import Derived.Deep.Slices
import Derived.OpenShut
import Derived.Test.YtmhoclmjgjopfaaDoorCards
import Derived.Test.YtmhoclmjgjopfaaDoorTie
import Derived.LaidMore
import Derived.Stop.Joined
import Derived.MakeChecks
import Derived.Test.YtmhoclmjgjopfaaDoorKR2
set_option linter.unusedVariables false
set_option linter.unusedSimpArgs false
namespace Go.SX
open Go Go.Proofs

def alloc_Room_m (a0 : Int × (List (Int × Bool)) × (List Int)) : Int :=
  if ((alloc_Check_m a0) : Int) ≠ 0 then 0 else ((if (IntKind.i64.wrap ((IntKind.i64.wrap ((IntKind.i64.wrap ((a0.2.2.length : Int) + a0.1)) + 2)) - (a0.2.1.length : Int))) < (IntKind.i64.wrap (a0.1 - (alloc_many_m a0))) then (IntKind.i64.wrap ((IntKind.i64.wrap ((IntKind.i64.wrap ((a0.2.2.length : Int) + a0.1)) + 2)) - (a0.2.1.length : Int))) else (IntKind.i64.wrap (a0.1 - (alloc_many_m a0)))))
set_option maxHeartbeats 3200000 in
theorem alloc_Room_c (H : Heap) {tG0 : TypeId} (hG0 : H 0 = some (.cells #[.int .i64 0, .bool true] tG0)) (a0 : Int × (List (Int × Bool)) × (List Int)) (va0_1 : Value) (ha0_1 : RdS slotE H va0_1 a0.2.1) (va0_2 : Value) (ha0_2 : RdS (intE .i64) H va0_2 a0.2.2) (hs : a0.2.1.length ≤ 2000000) (hf : a0.2.2.length ≤ 2000000) : Fv Tryd.prog (fnv 28) [.agg #[.int .i64 a0.1, va0_1, va0_2]] H (.int .i64 (alloc_Room_m a0)) := by
  refine Fc.of_body (N := 23) Tryd.func28 rfl (by kernel_rfl) rfl rfl ?_
  intro w0
  obtain ⟨Aa0_1, ca0_1, rfl, hca0_1, hda0_1, ha0_1⟩ := ha0_1.shape
  obtain ⟨Aa0_2, ca0_2, rfl, hca0_2, hda0_2, ha0_2⟩ := ha0_2.shape
  refine T.seq ?_
  refine T.region ?_
  refine R.box rfl (by conv => lhs; whnf) ?_
  intro b1
  refine R.asE rfl (by conv => lhs; whnf) ?_
  refine TL.shut .hd ?_
  intro Hb1_1 sb1_1 qb1_1
  have hb1_1 : Hb1_1 b1 = some (.cells #[.int .i64 (a0.1), .slice Aa0_1 a0.2.1.length ca0_1, .slice Aa0_2 a0.2.2.length ca0_2] 25) := shut1 qb1_1
  refine TL.nil (Post.thnN ?_)
  refine T.seq ?_
  refine T.seq ?_
  refine T.region ?_
  refine R.ldXH (cs := [.int .i64 (a0.1), .slice Aa0_1 a0.2.1.length ca0_1, .slice Aa0_2 a0.2.2.length ca0_2]) (l := [.int .i64 (a0.1), .slice Aa0_1 a0.2.1.length ca0_1, .slice Aa0_2 a0.2.2.length ca0_2]) Tryd.isAgg25 Tryd.sizeOf25 rfl rfl hb1_1 rfl rfl ?_
  refine R.callv rfl rfl rfl (alloc_Check_c _ (sb1_1 _ _ hG0) a0 _ (ha0_1.mono sb1_1) _ (ha0_2.mono sb1_1) (by first | omega | (simp; done) | (simp; omega) | (simp at *; omega)) (by first | omega | (simp; done) | (simp; omega) | (simp at *; omega))) ?_
  refine R.neq rfl rfl rfl ?_
  refine TL.nil (Post.thnN ?_)
  refine T.condD rfl (fun c5 => ?_) (fun c5 => ?_)
  · refine T.set 5 (.bool true) (congrArg Value.bool (decide_eq_true c5)) ?_
    refine T.seq ?_
    refine T.region ?_
    refine R.asE rfl (by conv => lhs; whnf) ?_
    refine TL.nil (Post.thnN ?_)
    refine T.has Has.nil ?_
    refine T.ret (Post.thnR ?_)
    have hM : alloc_Room_m a0 = 0 := by rw [alloc_Room_m, if_pos c5]
    exact fin1L (v := .int .i64 0) [] rfl rfl (List.Sublist.refl _) ⟨rfl, by first | rw [hM] | rfl⟩
  · refine T.set 5 (.bool false) (congrArg Value.bool (decide_eq_false c5)) ?_
    refine T.skip (Post.thnN ?_)
    refine T.seq ?_
    refine T.draw Tryd_mixed (by kernel_rfl) ?_
    refine Plan.v 0 [1, 2, 3, 4, 5, 6, 7, 8, 9, 10, 11, 12, 13, 14, 15, 16, 17] (by kernel_rfl) (by kernel_rfl) (by kernel_rfl) (by kernel_rfl) rfl (fun _ _ h_ => R.fldA Tryd.underlying25 rfl Tryd.sizeOf3 (by decide) rfl rfl (TL.nil h_)) ?_
    refine Plan.v 1 [2, 3, 4, 5, 6, 7, 8, 9, 10, 11, 12, 13, 14, 15, 16, 17] (by kernel_rfl) (by kernel_rfl) (by kernel_rfl) (by kernel_rfl) rfl (fun _ _ h_ => R.ldH Tryd.isAgg3 rfl rfl hb1_1 rfl (TL.nil h_)) ?_
    refine Plan.v 2 [3, 4, 5, 6, 7, 8, 9, 10, 11, 12, 13, 14, 15, 16, 17] (by kernel_rfl) (by kernel_rfl) (by kernel_rfl) (by kernel_rfl) rfl (fun _ _ h_ => R.ldXH (cs := [.int .i64 (a0.1), .slice Aa0_1 a0.2.1.length ca0_1, .slice Aa0_2 a0.2.2.length ca0_2]) (l := [.int .i64 (a0.1), .slice Aa0_1 a0.2.1.length ca0_1, .slice Aa0_2 a0.2.2.length ca0_2]) Tryd.isAgg25 Tryd.sizeOf25 rfl rfl hb1_1 rfl rfl (TL.nil h_)) ?_
    refine Plan.v 3 [4, 5, 6, 7, 8, 9, 10, 11, 12, 13, 14, 15, 16, 17] (by kernel_rfl) (by kernel_rfl) (by kernel_rfl) (by kernel_rfl) rfl (fun _ _ h_ => R.callv rfl rfl rfl (alloc_many_c _ a0 _ (ha0_1.mono sb1_1) _ (ha0_2.mono sb1_1)) (TL.nil h_)) ?_
    refine Plan.v 4 [5, 6, 7, 8, 9, 10, 11, 12, 13, 14, 15, 16, 17] (by kernel_rfl) (by kernel_rfl) (by kernel_rfl) (by kernel_rfl) rfl (fun _ _ h_ => R.sub rfl rfl rfl (TL.nil h_)) ?_
    refine Plan.v 5 [6, 7, 8, 9, 10, 11, 12, 13, 14, 15, 16, 17] (by kernel_rfl) (by kernel_rfl) (by kernel_rfl) (by kernel_rfl) rfl (fun _ _ h_ => R.fldA Tryd.underlying25 rfl Tryd.sizeOf23 (by decide) rfl rfl (TL.nil h_)) ?_
    refine Plan.v 6 [7, 8, 9, 10, 11, 12, 13, 14, 15, 16, 17] (by kernel_rfl) (by kernel_rfl) (by kernel_rfl) (by kernel_rfl) rfl (fun _ _ h_ => R.ldH Tryd.isAgg23 rfl rfl hb1_1 rfl (TL.nil h_)) ?_
    refine Plan.v 7 [8, 9, 10, 11, 12, 13, 14, 15, 16, 17] (by kernel_rfl) (by kernel_rfl) (by kernel_rfl) (by kernel_rfl) rfl (fun _ _ h_ => R.len Tryd.underlying23 rfl rfl (TL.nil h_)) ?_
    refine Plan.v 8 [9, 10, 11, 12, 13, 14, 15, 16, 17] (by kernel_rfl) (by kernel_rfl) (by kernel_rfl) (by kernel_rfl) rfl (fun _ _ h_ => R.fldA Tryd.underlying25 rfl Tryd.sizeOf3 (by decide) rfl rfl (TL.nil h_)) ?_
    refine Plan.v 9 [10, 11, 12, 13, 14, 15, 16, 17] (by kernel_rfl) (by kernel_rfl) (by kernel_rfl) (by kernel_rfl) rfl (fun _ _ h_ => R.ldH Tryd.isAgg3 rfl rfl hb1_1 rfl (TL.nil h_)) ?_
    refine Plan.v 10 [11, 12, 13, 14, 15, 16, 17] (by kernel_rfl) (by kernel_rfl) (by kernel_rfl) (by kernel_rfl) rfl (fun _ _ h_ => R.add rfl rfl rfl (TL.nil h_)) ?_
    refine Plan.v 11 [12, 13, 14, 15, 16, 17] (by kernel_rfl) (by kernel_rfl) (by kernel_rfl) (by kernel_rfl) rfl (fun _ _ h_ => R.add rfl rfl rfl (TL.nil h_)) ?_
    refine Plan.v 12 [13, 14, 15, 16, 17] (by kernel_rfl) (by kernel_rfl) (by kernel_rfl) (by kernel_rfl) rfl (fun _ _ h_ => R.fldA Tryd.underlying25 rfl Tryd.sizeOf22 (by decide) rfl rfl (TL.nil h_)) ?_
    refine Plan.v 13 [14, 15, 16, 17] (by kernel_rfl) (by kernel_rfl) (by kernel_rfl) (by kernel_rfl) rfl (fun _ _ h_ => R.ldH Tryd.isAgg22 rfl rfl hb1_1 rfl (TL.nil h_)) ?_
    refine Plan.v 14 [15, 16, 17] (by kernel_rfl) (by kernel_rfl) (by kernel_rfl) (by kernel_rfl) rfl (fun _ _ h_ => R.len Tryd.underlying22 rfl rfl (TL.nil h_)) ?_
    refine Plan.v 15 [16, 17] (by kernel_rfl) (by kernel_rfl) (by kernel_rfl) (by kernel_rfl) rfl (fun _ _ h_ => R.sub rfl rfl rfl (TL.nil h_)) ?_
    refine Plan.v 16 [17] (by kernel_rfl) (by kernel_rfl) (by kernel_rfl) (by kernel_rfl) rfl (fun _ _ h_ => R.min2 rfl rfl rfl (TL.nil h_)) ?_
    refine Plan.v 17 [] (by kernel_rfl) (by kernel_rfl) (by kernel_rfl) (by kernel_rfl) rfl (fun _ _ h_ => R.asE rfl (by conv => lhs; whnf) (TL.nil h_)) ?_
    refine Plan.done (Post.thnN ?_)
    refine T.has Has.nil ?_
    refine T.ret ?_
    have hM : alloc_Room_m a0 = (if (IntKind.i64.wrap ((IntKind.i64.wrap ((IntKind.i64.wrap ((a0.2.2.length : Int) + a0.1)) + 2)) - (a0.2.1.length : Int))) < (IntKind.i64.wrap (a0.1 - (alloc_many_m a0))) then (IntKind.i64.wrap ((IntKind.i64.wrap ((IntKind.i64.wrap ((a0.2.2.length : Int) + a0.1)) + 2)) - (a0.2.1.length : Int))) else (IntKind.i64.wrap (a0.1 - (alloc_many_m a0)))) := by rw [alloc_Room_m, if_neg c5]
    exact fin1L (v := .int .i64 (if (IntKind.i64.wrap ((IntKind.i64.wrap ((IntKind.i64.wrap ((a0.2.2.length : Int) + a0.1)) + 2)) - (a0.2.1.length : Int))) < (IntKind.i64.wrap (a0.1 - (alloc_many_m a0))) then (IntKind.i64.wrap ((IntKind.i64.wrap ((IntKind.i64.wrap ((a0.2.2.length : Int) + a0.1)) + 2)) - (a0.2.1.length : Int))) else (IntKind.i64.wrap (a0.1 - (alloc_many_m a0))))) [] rfl rfl (List.Sublist.refl _) ⟨rfl, by first | rw [hM] | rfl⟩

def alloc_Alive_m (a0 : Int × (List (Int × Bool)) × (List Int)) (a1 : Int) : Bool :=
  if ((alloc_Check_m a0) : Int) = 0 then ((alloc_alive_m a0 a1)) else false
set_option maxHeartbeats 3200000 in
theorem alloc_Alive_c (H : Heap) {tG0 : TypeId} (hG0 : H 0 = some (.cells #[.int .i64 0, .bool true] tG0)) (a0 : Int × (List (Int × Bool)) × (List Int)) (va0_1 : Value) (ha0_1 : RdS slotE H va0_1 a0.2.1) (va0_2 : Value) (ha0_2 : RdS (intE .i64) H va0_2 a0.2.2) (a1 : Int) (hs : a0.2.1.length ≤ 2000000) (hf : a0.2.2.length ≤ 2000000) : Fv Tryd.prog (fnv 29) [.agg #[.int .i64 a0.1, va0_1, va0_2], .int .u64 a1] H (.bool (alloc_Alive_m a0 a1)) := by
  refine Fc.of_body (N := 13) Tryd.func29 rfl (by kernel_rfl) rfl rfl ?_
  intro w0
  obtain ⟨Aa0_1, ca0_1, rfl, hca0_1, hda0_1, ha0_1⟩ := ha0_1.shape
  obtain ⟨Aa0_2, ca0_2, rfl, hca0_2, hda0_2, ha0_2⟩ := ha0_2.shape
  refine T.seq ?_
  refine T.region ?_
  refine R.box rfl (by conv => lhs; whnf) ?_
  intro b2
  refine R.asE rfl (by conv => lhs; whnf) ?_
  refine TL.shut .hd ?_
  intro Hb2_1 sb2_1 qb2_1
  have hb2_1 : Hb2_1 b2 = some (.cells #[.int .i64 (a0.1), .slice Aa0_1 a0.2.1.length ca0_1, .slice Aa0_2 a0.2.2.length ca0_2] 25) := shut1 qb2_1
  refine TL.nil (Post.thnN ?_)
  refine T.seq ?_
  refine T.region ?_
  refine R.ldXH (cs := [.int .i64 (a0.1), .slice Aa0_1 a0.2.1.length ca0_1, .slice Aa0_2 a0.2.2.length ca0_2]) (l := [.int .i64 (a0.1), .slice Aa0_1 a0.2.1.length ca0_1, .slice Aa0_2 a0.2.2.length ca0_2]) Tryd.isAgg25 Tryd.sizeOf25 rfl rfl hb2_1 rfl rfl ?_
  refine R.callv rfl rfl rfl (alloc_Check_c _ (sb2_1 _ _ hG0) a0 _ (ha0_1.mono sb2_1) _ (ha0_2.mono sb2_1) (by first | omega | (simp; done) | (simp; omega) | (simp at *; omega)) (by first | omega | (simp; done) | (simp; omega) | (simp at *; omega))) ?_
  refine R.eql rfl rfl rfl ?_
  refine R.mvE rfl (by conv => lhs; whnf) ?_
  refine TL.gsplitD 8 rfl (fun g8 => ?_) (fun g8 => ?_)
  · refine R.ldXH (cs := [.int .i64 (a0.1), .slice Aa0_1 a0.2.1.length ca0_1, .slice Aa0_2 a0.2.2.length ca0_2]) (l := [.int .i64 (a0.1), .slice Aa0_1 a0.2.1.length ca0_1, .slice Aa0_2 a0.2.2.length ca0_2]) Tryd.isAgg25 Tryd.sizeOf25 rfl rfl hb2_1 rfl rfl ?_
    refine R.mvE rfl (by conv => lhs; whnf) ?_
    refine R.callv rfl rfl rfl (alloc_alive_c _ a0 _ (ha0_1.mono sb2_1) _ (ha0_2.mono sb2_1) (a1) (by first | omega | (simp; done) | (simp; omega) | (simp at *; omega)) (by first | omega | (simp; done) | (simp; omega) | (simp at *; omega))) ?_
    refine R.pkTE rfl rfl (by conv => lhs; whnf) ?_
    refine R.asE rfl (by conv => lhs; whnf) ?_
    refine TL.nil (Post.thnN ?_)
    refine T.has Has.nil ?_
    refine T.ret ?_
    have hM : alloc_Alive_m a0 a1 = (alloc_alive_m a0 a1) := by rw [alloc_Alive_m, if_pos g8]
    exact fin1L (v := .bool ((alloc_alive_m a0 a1))) [] rfl rfl (List.Sublist.refl _) ⟨rfl, by first | rw [hM] | rfl⟩
  · refine TL.off rfl rfl rfl ?_
    refine TL.off rfl rfl rfl ?_
    refine TL.off rfl rfl rfl ?_
    refine R.pkFE rfl rfl (by conv => lhs; whnf) ?_
    refine R.asE rfl (by conv => lhs; whnf) ?_
    refine TL.nil (Post.thnN ?_)
    refine T.has Has.nil ?_
    refine T.ret ?_
    have hM : alloc_Alive_m a0 a1 = false := by rw [alloc_Alive_m, if_neg g8]
    exact fin1L (v := .bool false) [] rfl rfl (List.Sublist.refl _) ⟨rfl, by first | rw [hM] | rfl⟩

def alloc_At_m (a0 : Int × (List (Int × Bool)) × (List Int)) (a1 : Int) : Int × Bool :=
  LR.seq (if ((alloc_Check_m a0) : Int) ≠ 0 then true else (if a1 < 1 then true else (if (a0.2.1.length : Int) < a1 then true else (!(a0.2.1.getD (((a1 - 1)).toNat) (((0, false) : Int × Bool) : Int × Bool)).2))) : Bool) (fun sc1 => if sc1 = true then ((0, false)) else (LR.seq (ident_Entity_m a1 (a0.2.1.getD (((a1 - 1)).toNat) (((0, false) : Int × Bool) : Int × Bool)).1) (fun r41 => (r41.1, (decide (r41.2 = 0))))))
def alloc_All_r1  : List (Int × (Int × Bool)) → ((List Int)) → (List Int)
  | [], sr1 => sr1
  | yr1 :: ysr1, sr1 => LR.seq (ident_Entity_m yr1.1 yr1.2.1) (fun r19 => alloc_All_r1 ysr1 ((sr1 ++ [r19.1])))
def alloc_All_m (a0 : Int × (List (Int × Bool)) × (List Int)) : (List Int) :=
  if ((alloc_Check_m a0) : Int) ≠ 0 then [] else (LR.seq (alloc_living_m a0) (fun r12 => LR.seq (alloc_All_r1 r12 []) (fun or1 => or1)))
set_option maxHeartbeats 3200000 in
theorem alloc_All_c (H : Heap) {tG0 : TypeId} (hG0 : H 0 = some (.cells #[.int .i64 0, .bool true] tG0)) (a0 : Int × (List (Int × Bool)) × (List Int)) (va0_1 : Value) (ha0_1 : RdS slotE H va0_1 a0.2.1) (va0_2 : Value) (ha0_2 : RdS (intE .i64) H va0_2 a0.2.2) (hs : a0.2.1.length ≤ 2000000) (hf : a0.2.2.length ≤ 2000000) : Fc Tryd.prog (fnv 27) [.agg #[.int .i64 a0.1, va0_1, va0_2]] H [] (fun v' H' L' => ∃ u0_0 c0_0, v' = u0_0 ∧ L' = [c0_0] ∧ OwnS (intE .u64) 32 H' u0_0 (alloc_All_m a0) c0_0) := by
  refine Fc.of_body (N := 27) Tryd.func27 rfl (by kernel_rfl) rfl rfl ?_
  intro w0
  obtain ⟨Aa0_1, ca0_1, rfl, hca0_1, hda0_1, ha0_1⟩ := ha0_1.shape
  obtain ⟨Aa0_2, ca0_2, rfl, hca0_2, hda0_2, ha0_2⟩ := ha0_2.shape
  refine T.seq ?_
  refine T.region ?_
  refine R.box rfl (by conv => lhs; whnf) ?_
  intro b1
  refine R.asE rfl (by conv => lhs; whnf) ?_
  refine TL.shut .hd ?_
  intro Hb1_1 sb1_1 qb1_1
  have hb1_1 : Hb1_1 b1 = some (.cells #[.int .i64 (a0.1), .slice Aa0_1 a0.2.1.length ca0_1, .slice Aa0_2 a0.2.2.length ca0_2] 25) := shut1 qb1_1
  refine TL.nil (Post.thnN ?_)
  refine T.seq ?_
  refine T.seq ?_
  refine T.region ?_
  refine R.ldXH (cs := [.int .i64 (a0.1), .slice Aa0_1 a0.2.1.length ca0_1, .slice Aa0_2 a0.2.2.length ca0_2]) (l := [.int .i64 (a0.1), .slice Aa0_1 a0.2.1.length ca0_1, .slice Aa0_2 a0.2.2.length ca0_2]) Tryd.isAgg25 Tryd.sizeOf25 rfl rfl hb1_1 rfl rfl ?_
  refine R.callv rfl rfl rfl (alloc_Check_c _ (sb1_1 _ _ hG0) a0 _ (ha0_1.mono sb1_1) _ (ha0_2.mono sb1_1) (by first | omega | (simp; done) | (simp; omega) | (simp at *; omega)) (by first | omega | (simp; done) | (simp; omega) | (simp at *; omega))) ?_
  refine R.neq rfl rfl rfl ?_
  refine TL.nil (Post.thnN ?_)
  refine T.condD rfl (fun c10 => ?_) (fun c10 => ?_)
  · refine T.set 10 (.bool true) (congrArg Value.bool (decide_eq_true c10)) ?_
    refine T.seq ?_
    refine T.region ?_
    refine R.asE rfl (by conv => lhs; whnf) ?_
    refine TL.nil (Post.thnN ?_)
    refine T.has (Has.none Has.nil) ?_
    refine T.ret (Post.thnR ?_)
    have hM : alloc_All_m a0 = [] := by rw [alloc_All_m, if_pos c10]
    exact fin1L (v := .slice none 0 0) [[]] rfl rfl (List.Sublist.refl _) ⟨.slice none 0 0, [], by first | rw [hM] | rfl, rfl, by rw [hM]; exact OwnS.nil⟩
  · refine T.set 10 (.bool false) (congrArg Value.bool (decide_eq_false c10)) ?_
    refine T.skip (Post.thnN ?_)
    refine T.seq ?_
    refine T.region ?_
    refine R.alloc Tryd.zeroValue29 rfl ?_
    intro b3
    refine TL.nil (Post.thnN ?_)
    refine T.seq ?_
    refine T.seq ?_
    refine T.region ?_
    refine R.ldXH (cs := [.int .i64 (a0.1), .slice Aa0_1 a0.2.1.length ca0_1, .slice Aa0_2 a0.2.2.length ca0_2]) (l := [.int .i64 (a0.1), .slice Aa0_1 a0.2.1.length ca0_1, .slice Aa0_2 a0.2.2.length ca0_2]) Tryd.isAgg25 Tryd.sizeOf25 rfl rfl hb1_1 rfl rfl ?_
    obtain ⟨r12, er12⟩ : ∃ r, r = (alloc_living_m a0) := ⟨_, rfl⟩
    refine R.callp rfl rfl rfl (alloc_living_c _ a0 _ (ha0_1.mono sb1_1) _ (ha0_2.mono sb1_1)) ?_
    intro v12 H12 s12 q12
    rw [← er12] at q12
    obtain ⟨u12_0_0, rfl, w12_0_0⟩ := q12
    have tl12 := living_len _ _ er12
    refine TL.nil (Post.thnN ?_)
    refine T.block ?_
    refine T.rangeFunc (xs := r12) rfl rfl (enters_of Tryd.func112 (by kernel_rfl) rfl) w12_0_0 (fun _ _ _ h => by subst h; rfl) rfl (fun pre H' L' => ∃ (vb3r1_0 : Value) (xb3r1_0 : List Int) (cb3r1_0 : Chunk), Has L' [[(b3, .cells #[vb3r1_0] 29)], cb3r1_0] ∧ OwnS (intE .u64) 32 H' vb3r1_0 xb3r1_0 cb3r1_0 ∧ xb3r1_0.length ≤ pre.length ∧ alloc_All_r1 (r12.drop pre.length) xb3r1_0 = alloc_All_r1 r12 []) (fun _ _ _ _ => False) (fun pre H H' L hle ⟨vb3r1_0, xb3r1_0, cb3r1_0, hL, wb3r1_0, hB0, hQ⟩ => ⟨vb3r1_0, xb3r1_0, cb3r1_0, hL, (wb3r1_0.mono hle), hB0, hQ⟩) (fun _ _ _ _ _ _ h => h) ?_ ?_ ?_ ?_
    · exact ⟨.slice none 0 0, [], [], (Has.cons .hd (Has.none Has.nil)), OwnS.nil, (by first | omega | (simp; done) | (simp; omega) | (simp at *; omega)), (by rfl)⟩
    · intro lr1 rr1 wr1 prer1 yr1 vsr1 Hr1 Lr1 sr1 hpr1 hIr1 hYr1
      obtain ⟨vb3r1_0, xb3r1_0, cb3r1_0, hLr1, wb3r1_0, hBr1_0, hQr1⟩ := hIr1
      obtain ⟨Ab3r1_0, pb3r1_0, rfl, mb3r1_0, nb3r1_0_⟩ := OwnS.shape wb3r1_0
      obtain rfl := hYr1
      refine T.has hLr1 ?_
      have hlpr1 : prer1.length + 1 ≤ r12.length := by have h0 := hpr1.length_le; simpa using h0
      refine T.seq ?_
      refine T.region ?_
      refine R.asE rfl (by conv => lhs; whnf) ?_
      refine TL.nil (Post.thnN ?_)
      refine T.region ?_
      refine R.alloc Tryd.zeroValue101 rfl ?_
      intro b5
      refine R.stX (old := [.int .i64 0, .bool false]) (l := [.int .i64 (yr1.2.1), .bool (yr1.2.2)]) (new := [.int .i64 (yr1.2.1), .bool (yr1.2.2)]) (et := 101) Tryd.sizeOf101 rfl rfl rfl rfl rfl (by show 0 + 2 ≤ 2; decide) rfl (all_one rfl) .hd ?_
      refine TL.shut .hd ?_
      intro Hb5_2 sb5_2 qb5_2
      have hb5_2 : Hb5_2 b5 = some (.cells #[.int .i64 (yr1.2.1), .bool (yr1.2.2)] 101) := shut1 qb5_2
      refine TL.nil ?_
      refine onlyN.mk ?_
      refine T.block ?_
      refine T.seq ?_
      refine T.region ?_
      refine R.mvE rfl (by conv => lhs; whnf) ?_
      refine R.fldA Tryd.underlying101 rfl Tryd.sizeOf3 (by decide) rfl rfl ?_
      refine R.ldH Tryd.isAgg3 rfl rfl hb5_2 rfl ?_
      obtain ⟨r19, er19⟩ : ∃ r, r = (ident_Entity_m yr1.1 yr1.2.1) := ⟨_, rfl⟩
      refine R.callv (v := .tuple #[.int .u64 r19.1, .int .i64 r19.2]) rfl rfl rfl (by rw [er19]; exact ident_Entity_c _ (yr1.1) (yr1.2.1)) ?_
      refine R.mvE rfl (by conv => lhs; whnf) ?_
      refine R.ext rfl rfl rfl ?_
      refine R.ext rfl rfl rfl ?_
      refine R.asE rfl (by conv => lhs; whnf) ?_
      refine R.asE rfl (by conv => lhs; whnf) ?_
      refine TL.nil (Post.thnN ?_)
      refine T.region ?_
      refine R.ld Tryd.isAgg29 rfl rfl .hd rfl ?_
      refine R.mvE rfl (by conv => lhs; whnf) ?_
      refine R.bs rfl (run_buildSlice1 Tryd.underlying29 Tryd.sizeOf32 Tryd.zeroValue32 rfl rfl) ?_
      intro b24
      have w24 : OwnS (intE .u64) 32 Hb5_2 (.slice (some ⟨b24, 0, none⟩) 1 1) [r19.1] [(b24, .cells #[.int .u64 (r19.1)] 32)] := OwnS.lit (xs := [r19.1]) (cellsOf_cons (a := [.int .u64 (r19.1)]) rfl cellsOf_nil) (by show 1 ≤ maxLen; decide)
      obtain ⟨k25, y25, r25⟩ := Src.ownA w24
      refine R.app (E := (intE .u64)) (e := 32) (xs := xb3r1_0) (ys := [r19.1]) Tryd_ty29 rfl rfl rfl (OwnS.mono wb3r1_0 sb5_2) (.tl (.tl .hd)) (r25 _ .hd) y25 (by (try simp only [List.length_append, List.length_cons, List.length_nil, List.length_replicate, List.length_take, List.length_drop]); omega) (by (try simp only [List.length_append, List.length_cons, List.length_nil, List.length_replicate, List.length_take, List.length_drop]); omega) ?_
      intro v25 c25 w25
      obtain ⟨A25, p25, rfl, m25, n25⟩ := OwnS.shape w25
      refine TL.del (.tl .hd) ?_
      refine R.stX (old := [.slice Ab3r1_0 xb3r1_0.length pb3r1_0]) (l := [.slice A25 (xb3r1_0 ++ [r19.1]).length p25]) (new := [.slice A25 (xb3r1_0 ++ [r19.1]).length p25]) (et := 29) Tryd.sizeOf29 rfl rfl rfl (cells1 rfl) rfl (by show 0 + 1 ≤ 1; decide) rfl (all_one rfl) (.tl .hd) ?_
      refine TL.nil (Post.blkN ?_)
      refine id ?_
      exact ⟨.slice A25 (xb3r1_0 ++ [r19.1]).length p25, (xb3r1_0 ++ [r19.1]), c25, (Has.cons (.tl .hd) (Has.cons .hd Has.nil)), w25, (by first | omega | (simp; done) | (simp; omega) | (simp at *; omega)), (by subst er19; rw [← hQr1, drop_pre hpr1, alloc_All_r1]; rw [LR.seq_go])⟩
    · intro Dr1 Hr1 Lr1 sr1 hIr1
      obtain ⟨vb3r1_0, xb3r1_0, cb3r1_0, hLr1, wb3r1_0, hBr1_0, hQr1⟩ := hIr1
      obtain ⟨Ab3r1_0, pb3r1_0, rfl, mb3r1_0, nb3r1_0_⟩ := OwnS.shape wb3r1_0
      have hEr1 : alloc_All_r1 r12 [] = xb3r1_0 := by rw [← hQr1, List.drop_length, alloc_All_r1]
      refine id (Post.blkN ?_)
      refine id (Post.thnN ?_)
      refine T.has hLr1 ?_
      refine T.seq ?_
      refine T.region ?_
      refine R.ld Tryd.isAgg29 rfl rfl .hd rfl ?_
      refine R.asE rfl (by conv => lhs; whnf) ?_
      refine TL.nil (Post.thnN ?_)
      refine T.has (Has.cons (.tl .hd) Has.nil) ?_
      refine T.ret ?_
      have hM : alloc_All_m a0 = xb3r1_0 := by subst er12; rw [alloc_All_m, if_neg c10, LR.seq_go, hEr1, LR.seq_go]
      exact fin1L (v := .slice Ab3r1_0 xb3r1_0.length pb3r1_0) [cb3r1_0] rfl rfl (List.Sublist.refl _) ⟨.slice Ab3r1_0 xb3r1_0.length pb3r1_0, cb3r1_0, by first | rw [hM] | rfl, rfl, by rw [hM]; exact wb3r1_0⟩
    · intro Dr1 cr1 prer1 yr1 Hr1 Lr1 sr1 hpr1 hIr1
      exact hIr1.elim

end Go.SX

set_option linter.unusedVariables false
set_option linter.unusedSimpArgs false
namespace Go.SX
open Go Go.Proofs

def windroseref02_Take_m (a0 : Int × (List (Int × Bool)) × (List Int)) : (Int × (List (Int × Bool)) × (List Int)) × Int × Int :=
  if ((windroseref02_alive_m a0) : Int) = a0.1 then ((((0, [], []) : Int × (List (Int × Bool)) × (List Int)), 0, 6)) else (if (0 : Int) < (a0.2.2.length : Int) then (((a0.1, (a0.2.1.set ((((a0.2.2.getD ((((a0.2.2.length : Int) - 1)).toNat) (0 : Int)) - 1)).toNat) (((IntKind.i64.wrap ((a0.2.1.getD ((((a0.2.2.getD ((((a0.2.2.length : Int) - 1)).toNat) (0 : Int)) - 1)).toNat) (((0, false) : Int × Bool) : Int × Bool)).1 + 1)), true))), (a0.2.2.take ((((a0.2.2.length : Int) - 1)).toNat))), (windroseref02_Entity_m (a0.2.2.getD ((((a0.2.2.length : Int) - 1)).toNat) (0 : Int)) (((a0.2.1.set ((((a0.2.2.getD ((((a0.2.2.length : Int) - 1)).toNat) (0 : Int)) - 1)).toNat) (((IntKind.i64.wrap ((a0.2.1.getD ((((a0.2.2.getD ((((a0.2.2.length : Int) - 1)).toNat) (0 : Int)) - 1)).toNat) (((0, false) : Int × Bool) : Int × Bool)).1 + 1)), true)))).getD ((((a0.2.2.getD ((((a0.2.2.length : Int) - 1)).toNat) (0 : Int)) - 1)).toNat) (((0, false) : Int × Bool) : Int × Bool)).1), 0)) else (if (a0.2.1.length : Int) < (IntKind.i64.wrap (a0.1 + 2)) then (LR.seq (windroseref02_Entity_m (((a0.2.1 ++ [((0, true) : Int × Bool)]).length : Int)) 0) (fun r79 => (((a0.1, (a0.2.1 ++ [((0, true) : Int × Bool)]), []) : Int × (List (Int × Bool)) × (List Int)), r79, 0))) else ((((0, [], []) : Int × (List (Int × Bool)) × (List Int)), 0, 121))))
def windroseref02_has_l1 (a1 : Int) : List Int → Unit → LR (Bool) (Unit)
  | [], sl1 => .go ()
  | yl1 :: ysl1, sl1 => if yl1 = a1 then (.ret true) else (windroseref02_has_l1 a1 ysl1 ())
def windroseref02_has_m (a0 : List Int) (a1 : Int) : Bool :=
  LR.on (windroseref02_has_l1 a1 a0 ()) (fun r => r) (fun ol1 => false)
def windroseref02_Give_l5 (a1 : List Int) : List (Int × Bool) → Nat → (Int × (List (Int × Bool)) × (List Int)) → Int × (List (Int × Bool)) × (List Int)
  | [], kl5, sl5 => (sl5.1, sl5.2.1, sl5.2.2)
  | yl5 :: ysl5, kl5, sl5 => LR.seq (windroseref02_has_m a1 ((windroseref02_Entity_m (((kl5 : Int) + 1)) yl5.1))) (fun r64 => LR.seq (if r64 = true then (if yl5.1 < 7 then ((yl5.1, false, sl5.1, sl5.2.1, (sl5.2.2 ++ [((kl5 : Int) + 1)]))) else ((yl5.1, false, sl5.1, sl5.2.1, sl5.2.2))) else ((yl5.1, yl5.2, sl5.1, sl5.2.1, sl5.2.2)) : Int × Bool × Int × (List (Int × Bool)) × (List Int)) (fun sc6 => windroseref02_Give_l5 a1 ysl5 (kl5 + 1) ((sc6.2.2.1, (sc6.2.2.2.1 ++ [(sc6.1, sc6.2.1)]), sc6.2.2.2.2))))
def windroseref02_Give_l2 (a1 : List Int) : List Int → Nat → Unit → LR ((Int × (List (Int × Bool)) × (List Int)) × Int) (Unit)
  | [], kl2, sl2 => .go ()
  | yl2 :: ysl2, kl2, sl2 => LR.seq (if yl2 ≤ 2 then true else ((windroseref02_has_m (a1.take kl2) yl2)) : Bool) (fun sc3 => if sc3 = true then (.ret ((((0, [], []) : Int × (List (Int × Bool)) × (List Int)), 2))) else (windroseref02_Give_l2 a1 ysl2 (kl2 + 1) ()))
def windroseref02_Give_l1 (a0 : Int × (List (Int × Bool)) × (List Int)) : List Int → Unit → LR ((Int × (List (Int × Bool)) × (List Int)) × Int) (Unit)
  | [], sl1 => .go ()
  | yl1 :: ysl1, sl1 => if (!(windroseref02_Is_m a0 yl1)) = true then (.ret ((((0, [], []) : Int × (List (Int × Bool)) × (List Int)), 122))) else (windroseref02_Give_l1 a0 ysl1 ())
def windroseref02_Give_m (a0 : Int × (List (Int × Bool)) × (List Int)) (a1 : List Int) : (Int × (List (Int × Bool)) × (List Int)) × Int :=
  LR.on (windroseref02_Give_l1 a0 a1 ()) (fun r => r) (fun ol1 => LR.on (windroseref02_Give_l2 a1 a1 0 ()) (fun r => r) (fun ol2 => LR.seq ((a0.1, [], a0.2.2) : Int × (List (Int × Bool)) × (List Int)) (fun sc4 => LR.seq (windroseref02_Give_l5 a1 a0.2.1 0 ((sc4.1, sc4.2.1, sc4.2.2))) (fun ol5 => ((ol5.1, ol5.2.1, ol5.2.2), 0)))))
end Go.SX

set_option linter.unusedVariables false
set_option linter.unusedSimpArgs false
namespace Go.SX
open Go
def entI (i g : Int) : Int := i + g * 4294967296
theorem packed_eq {g i : Int} (hg : 0 ≤ g ∧ g ≤ 7) (hi : 0 ≤ i ∧ i ≤ 1048578) : ident_packed_m 0 g i = entI i g := by
  unfold ident_packed_m entI
  have := pack_eq (m := 0) (a := g) (b := i) (.inl rfl) (by omega) (by omega)
  rw [this]; unfold made; omega
theorem entity_ok {i g : Int} (hi : 1 ≤ i ∧ i ≤ 1048578) (hg : 0 ≤ g ∧ g ≤ 7) : ident_Entity_m i g = (entI i g, 0) := by
  unfold ident_Entity_m
  rw [within1.2 hi, within1.2 hg, packed_eq hg ⟨by omega, hi.2⟩]; rfl
def noAl : Al := (0, [], [])
/-- The last of those that may be used again. -/
def lastF (a : Al) : Int := a.2.2.getD (a.2.2.length - 1) 0
def genAt (l : List Sl2) (i : Int) : Int := (l.getD (i - 1).toNat (0, false)).1
def takeP (a : Al) : Al × Int × Int :=
  if (aliveN a.2.1 : Int) - 2 = a.1 then (noAl, 0, 6)
  else if a.2.2.length = 0 then (if (a.2.1.length : Int) < a.1 + 2 then ((a.1, a.2.1 ++ [(0, true)], []), (a.2.1.length : Int) + 1, 0) else (noAl, 0, 121))
  else ((a.1, a.2.1.set (lastF a - 1).toNat (genAt a.2.1 (lastF a) + 1, true), a.2.2.take (a.2.2.length - 1)), entI (lastF a) (genAt a.2.1 (lastF a) + 1), 0)
theorem Rt.last {a : Al} (h : Rt a) (h0 : a.2.2.length ≠ 0) : ∃ (j : Nat) (g : Int), lastF a = (j : Int) + 1 ∧ a.2.1[j]? = some (g, false) ∧ 0 ≤ g ∧ g < 7 ∧ 2 ≤ j ∧ genAt a.2.1 (lastF a) = g := by
  have hm : lastF a ∈ a.2.2 := by
    unfold lastF
    exact List.mem_of_getElem? (getD_get (by omega))
  obtain ⟨j, s, h1, h2, h3⟩ := h.free.1 hm
  obtain ⟨g, b⟩ := s
  simp [useB] at h2
  obtain ⟨rfl, h4⟩ := h2
  have hg := h.g j _ h1
  refine ⟨j, g, h3, h1, hg.1, h4, ?_, ?_⟩
  · rcases Nat.lt_or_ge j 2 with h5 | h5
    · have := hg.2.2 h5; simp at this
    · exact h5
  · unfold genAt
    rw [h3, show (((j : Int) + 1) - 1).toNat = j by omega, List.getD_eq_getElem?_getD, h1]; rfl
theorem lastF_toNat (a : Al) : a.2.2.getD (((a.2.2.length : Int) - 1)).toNat 0 = lastF a := by
  unfold lastF
  rw [show (((a.2.2.length : Int) - 1)).toNat = a.2.2.length - 1 by omega]
theorem take_rt {a : Al} (h : Rt a) : alloc_Take_m a = takeP a := by
  have h1 := h.n2
  have h2 := h.m2
  have h3 := h.flen
  have h4 := h.n1
  have h5 := h.m1
  have hwm : IntKind.i64.wrap (a.1 + 2) = a.1 + 2 := wrap_i64 (by omega) (by omega)
  unfold alloc_Take_m takeP
  rw [(check_iff (by omega)).1.2 h, if_neg (by decide), many_eq (by omega)]
  simp only [LR.seq, alloc_own_eq, lastF_toNat, decide_eq_true_eq, hwm]
  by_cases c1 : (aliveN a.2.1 : Int) - 2 = a.1
  · rw [if_pos c1, if_pos c1]; rfl
  rw [if_neg c1, if_neg c1]
  by_cases c2 : a.2.2.length = 0
  · rw [if_neg (by omega), if_pos c2]
    by_cases c3 : (a.2.1.length : Int) < a.1 + 2
    · rw [if_neg (by omega), if_pos c3]
      simp only [LR.on]
      have h0 : a.2.2 = [] := List.length_eq_zero_iff.1 c2
      rw [show (((a.2.1.length : Int) + 1 - 1)).toNat = a.2.1.length by omega, List.getD_eq_getElem?_getD, List.getElem?_append_right (Nat.le_refl _), Nat.sub_self, h0]
      have := entity_ok (i := (a.2.1.length : Int) + 1) (g := 0) (by omega) (by omega)
      simp only [List.getElem?_cons_zero, Option.getD_some, this]
      unfold entI; simp
    · rw [if_pos (by omega), if_neg c3]; rfl
  · rw [if_pos (by omega), if_neg c2]
    simp only [LR.on]
    obtain ⟨j, g, e1, e2, e3, e4, e5, e6⟩ := h.last c2
    have hj := (List.getElem?_eq_some_iff.1 e2).1
    have hw : IntKind.i64.wrap ((a.2.1.getD (lastF a - 1).toNat ((0 : Int), false)).1 + 1) = genAt a.2.1 (lastF a) + 1 := by
      have : (a.2.1.getD (lastF a - 1).toNat ((0 : Int), false)).1 = g := e6
      rw [this, e6]; exact wrap_i64 (by omega) (by omega)
    rw [hw]
    have hset : (a.2.1.set (lastF a - 1).toNat (genAt a.2.1 (lastF a) + 1, true)).getD (lastF a - 1).toNat ((0 : Int), false) = (genAt a.2.1 (lastF a) + 1, true) := by
      rw [List.getD_eq_getElem?_getD, List.getElem?_set_self (by rw [e1]; omega)]; rfl
    rw [hset]
    have := entity_ok (i := lastF a) (g := genAt a.2.1 (lastF a) + 1) (by omega) (by omega)
    simp only [this]
    rw [show (((a.2.2.length : Int) - 1)).toNat = a.2.2.length - 1 by omega]
theorem take_not {a : Al} (hs : a.2.1.length ≤ 2000000) (h : ¬ Rt a) : alloc_Take_m a = (noAl, 0, 120) := by
  have h1 : alloc_Check_m a = 120 := by
    rcases (check_iff hs).2 with h2 | h2
    · exact absurd ((check_iff hs).1.1 h2) h
    · exact h2
  unfold alloc_Take_m
  rw [h1, if_pos (by decide)]; rfl
theorem takeP_len {a : Al} (h : Rt a) : (takeP a).1.2.1.length ≤ 1100000 ∧ (takeP a).1.2.2.length ≤ 1100000 := by
  have h1 := h.n2
  have h2 := h.m2
  have h3 := h.flen
  unfold takeP
  split
  · simp [noAl]
  · split
    · split
      · simp only [List.length_append, List.length_cons, List.length_nil]; omega
      · simp [noAl]
    · simp only [List.length_set, List.length_take]; omega
theorem take_len {a : Al} (hs : a.2.1.length ≤ 2000000) : (alloc_Take_m a).1.2.1.length ≤ 1100000 ∧ (alloc_Take_m a).1.2.2.length ≤ 1100000 := by
  by_cases h : Rt a
  · rw [take_rt h]; exact takeP_len h
  · rw [take_not hs h]; simp [noAl]
end Go.SX

set_option linter.unusedVariables false
set_option linter.unusedSimpArgs false
namespace Go.SX
open Go
theorem new_len (n : Int) : (alloc_New_m n).1.2.1.length ≤ 2 ∧ (alloc_New_m n).1.2.2.length ≤ 0 := by
  unfold alloc_New_m
  simp only [LR.seq]
  repeat' split
  all_goals simp
def badAt (x : List Int) (k : Nat) : Bool := decide (x.getD k 0 ≤ 2) || (decide (0 < k) && decide (x.getD (k - 1) 0 = x.getD k 0))
abbrev GS := List Sl2 × Int × List Sl2 × List Int
def giveStep (i : Int) (s : GS) : GS := (s.1, s.2.1, s.2.2.1.set (i - 1).toNat (genAt s.2.2.1 i, false), if genAt s.2.2.1 i < 7 then s.2.2.2 ++ [i] else s.2.2.2)
theorem usable_f (g : Int) : alloc_usable_m (g, false) = decide (g < 7) := by unfold alloc_usable_m; simp
theorem give_step (x : List Int) (m k : Nat) (s : GS) : alloc_Give_l2 x (m + 1) k s = if badAt (sortI x) k = true then .ret (noAl, 2) else alloc_Give_l2 x m (k + 1) (giveStep ((sortI x).getD k 0) s) := by
  rw [alloc_Give_l2]
  simp only [LR.seq, usable_f]
  have e : (((k : Int) - 1)).toNat = k - 1 := by omega
  have hb : (if (sortI x).getD k 0 ≤ 2 then true else if (0 : Int) < (k : Int) then decide ((sortI x).getD (((k : Int) - 1)).toNat 0 = (sortI x).getD k 0) else false) = badAt (sortI x) k := by
    unfold badAt
    rw [e]
    by_cases h1 : (sortI x).getD k 0 ≤ 2
    · rw [if_pos h1, decide_eq_true h1]; rfl
    · rw [if_neg h1, decide_eq_false h1, Bool.false_or]
      by_cases h2 : 0 < k
      · rw [if_pos (by omega), decide_eq_true h2, Bool.true_and]
      · rw [if_neg (by omega), decide_eq_false h2, Bool.false_and]
  rw [hb]
  cases badAt (sortI x) k with
  | true => rfl
  | false =>
    rw [if_neg Bool.false_ne_true, if_neg Bool.false_ne_true]
    unfold giveStep genAt
    by_cases h : (s.2.2.1.getD ((sortI x).getD k 0 - 1).toNat ((0 : Int), false)).1 < 7
    · rw [if_pos (decide_eq_true h), if_pos h]
    · rw [if_neg (by rw [decide_eq_false h]; exact Bool.false_ne_true), if_neg h]
theorem giveStep_len (i : Int) (s : GS) : (giveStep i s).2.2.1.length = s.2.2.1.length ∧ (giveStep i s).2.2.2.length ≤ s.2.2.2.length + 1 := by
  unfold giveStep
  refine ⟨by simp, ?_⟩
  simp only
  split <;> simp
theorem give_l2_len (x : List Int) (N : Nat) : ∀ (m k : Nat) (s : GS), s.2.2.1.length ≤ N → s.2.2.2.length + m ≤ N →
    (∀ r, alloc_Give_l2 x m k s = .ret r → r.1.2.1.length ≤ N ∧ r.1.2.2.length ≤ N) ∧ (∀ t, alloc_Give_l2 x m k s = .go t → t.2.2.1.length ≤ N ∧ t.2.2.2.length ≤ N)
  | 0, k, s, h1, h2 => by
    rw [alloc_Give_l2]
    exact ⟨fun r h => (by cases h), fun t h => (by cases h; exact ⟨h1, by simpa using h2⟩)⟩
  | m + 1, k, s, h1, h2 => by
    rw [give_step]
    have hl := giveStep_len ((sortI x).getD k 0) s
    cases badAt (sortI x) k with
    | true => rw [if_pos rfl]; exact ⟨fun r h => (by cases h; simp [noAl]), fun t h => (by cases h)⟩
    | false =>
      rw [if_neg (by decide)]
      exact give_l2_len x N m (k + 1) _ (by omega) (by omega)
theorem give_l1_len : ∀ (l : List Int) (acc : List Int), (alloc_Give_l1 l acc).length = acc.length + l.length
  | [], acc => by simp [alloc_Give_l1]
  | y :: ys, acc => by rw [alloc_Give_l1]; simp only [LR.seq]; rw [give_l1_len ys]; simp; omega
theorem give_len {a : Al} {l : List Int} (hs : a.2.1.length ≤ 2000000) (hf : a.2.2.length ≤ 2000000) (hl : l.length ≤ 100) : (alloc_Give_m a l).1.2.1.length ≤ 1100000 ∧ (alloc_Give_m a l).1.2.2.length ≤ 1100000 := by
  unfold alloc_Give_m
  simp only [alloc_own_eq]
  split
  · simp
  · rename_i h
    have hr := (check_iff hs).1.1 (by omega)
    have h1 := hr.n2
    have h2 := hr.m2
    have h3 := hr.flen
    split
    · simp
    · simp only [LR.seq]
      have h4 := give_l1_len l []
      have h5 := give_l2_len (alloc_Give_l1 l []) 1100000 ((alloc_Give_l1 l []).length - 0) 0 (a.2.1, a.1, a.2.1, a.2.2) (by show a.2.1.length ≤ _; omega) (by show a.2.2.length + _ ≤ _; simp only [List.length_nil] at h4; omega)
      cases h6 : alloc_Give_l2 (alloc_Give_l1 l []) ((alloc_Give_l1 l []).length - 0) 0 (a.2.1, a.1, a.2.1, a.2.2) with
      | ret r => exact h5.1 r h6
      | go t => exact h5.2 t h6
theorem all_r1_len : ∀ (l : List (Int × Sl2)) (acc : List Int), (alloc_All_r1 l acc).length = acc.length + l.length
  | [], acc => by simp [alloc_All_r1]
  | y :: ys, acc => by rw [alloc_All_r1]; simp only [LR.seq]; rw [all_r1_len ys]; simp; omega
theorem all_len {a : Al} (hs : a.2.1.length ≤ 2000000) : (alloc_All_m a).length ≤ 2000000 := by
  unfold alloc_All_m
  split
  · simp
  · simp only [LR.seq]
    rw [all_r1_len]
    have := living_len a _ rfl
    simp only [List.length_nil]; omega
theorem wrapi_le (x : Int) (h : x ≤ 2000000) (h2 : -9000000000 ≤ x) : IntKind.i64.wrap x ≤ 2000000 := by rw [wrap_i64 (by omega) (by omega)]; exact h
theorem room_le {a : Al} (hs : a.2.1.length ≤ 2000000) : alloc_Room_m a ≤ 2000000 := by
  unfold alloc_Room_m
  by_cases h : alloc_Check_m a = 0
  · rw [if_neg (fun k => k h)]
    have hr := (check_iff hs).1.1 h
    have h1 := hr.m1
    have h2 := hr.m2
    have h3 := aliveN_le a.2.1
    rw [many_eq hs]
    have h4 := wrapi_le (a.1 - ((aliveN a.2.1 : Int) - 2)) (by omega) (by omega)
    split <;> omega
  · rw [if_pos h]; omega
end Go.SX

set_option linter.unusedVariables false
set_option linter.unusedSimpArgs false
namespace Go.SX
open Go
theorem perm_of_sub {l1 : List Int} (hd : l1.Nodup) : ∀ {l2 : List Int}, (∀ x ∈ l1, x ∈ l2) → l2.length ≤ l1.length → l1.Perm l2 := by
  induction l1 with
  | nil => intro l2 _ h; obtain rfl : l2 = [] := List.length_eq_zero_iff.1 (by simpa using h); exact List.Perm.refl _
  | cons a t ih =>
    intro l2 hs hl
    have ha := hs a (List.mem_cons_self ..)
    have hp := List.perm_cons_erase ha
    rw [List.nodup_cons] at hd
    refine List.Perm.trans (List.Perm.cons a (ih hd.2 (fun x hx => ?_) ?_)) hp.symm
    · exact (List.mem_erase_of_ne (fun e => hd.1 (by rw [← e]; exact hx))).2 (hs x (List.mem_cons_of_mem _ hx))
    · have := hp.length_eq
      simp only [List.length_cons] at this hl
      omega
theorem useL_up : ∀ (l : List Sl2) (k : Nat), (useL l k).Pairwise (· < ·)
  | [], k => List.Pairwise.nil
  | y :: ys, k => by
    rw [useL]
    split
    · refine List.Pairwise.cons (fun x hx => ?_) (useL_up ys (k + 1))
      obtain ⟨i, s, _, _, h⟩ := (useL_mem ys (k + 1) x).1 hx
      omega
    · exact useL_up ys (k + 1)
theorem useL_nodup (l : List Sl2) (k : Nat) : (useL l k).Nodup := (useL_up l k).imp (fun h => by intro e; omega)
theorem free_iff {slots : List Sl2} {free : List Int} : sortI free = useL slots 0 ↔ (∀ (i : Nat) (s : Sl2), slots[i]? = some s → free.count ((i : Int) + 1) = if useB s then 1 else 0) ∧ free.length = (useL slots 0).length := by
  constructor
  · intro h
    have hp : free.Perm (useL slots 0) := by rw [← h]; exact (sortI_perm free).symm
    refine ⟨fun i s hi => ?_, hp.length_eq⟩
    rw [hp.count_eq, (useL_nodup slots 0).count]
    by_cases hu : useB s = true
    · rw [if_pos ((useL_mem slots 0 _).2 ⟨i, s, hi, hu, by simp⟩), if_pos hu]
    · rw [if_neg (fun hm => ?_), if_neg hu]
      obtain ⟨j, t, h1, h2, h3⟩ := (useL_mem slots 0 _).1 hm
      have : i = j := by omega
      subst this
      rw [hi] at h1; injection h1 with h1; subst h1; exact hu h2
  · rintro ⟨h1, h2⟩
    have hp : (useL slots 0).Perm free := perm_of_sub (useL_nodup slots 0) (fun x hx => by
      obtain ⟨i, s, h3, h4, h5⟩ := (useL_mem slots 0 x).1 hx
      have := h1 i s h3
      rw [if_pos h4] at this
      rw [h5, Nat.zero_add]
      exact List.count_pos_iff.1 (by omega)) (by omega)
    exact List.Perm.eq_of_pairwise (fun a b _ _ h3 h4 => by omega) (sortI_sorted free) ((useL_up slots 0).imp (fun h => by omega)) ((sortI_perm free).trans hp.symm)
def slotOk (i : Nat) (s : Sl2) : Prop := 0 ≤ s.1 ∧ s.1 ≤ 7 ∧ (i < 2 → s = (0, true))
end Go.SX
namespace Go.SX
theorem own_len (a : Al) : (windroselaw02_own_m a).2.1.length ≤ 40 ∧ (windroselaw02_own_m a).2.2.length ≤ 40 := by
  unfold windroselaw02_own_m
  simp only [List.length_take]; omega
end Go.SX

set_option linter.unusedVariables false
set_option linter.unusedSimpArgs false
namespace Go.SX
open Go
theorem useL_count : ∀ (l : List Sl2) (k : Nat), (useL l k).length = l.countP useB
  | [], k => rfl
  | y :: ys, k => by
    rw [useL, List.countP_cons]
    cases h : useB y <;> simp [useL_count ys (k + 1)]
theorem useL_snoc : ∀ (l : List Sl2) (k : Nat) (s : Sl2), useB s = false → useL (l ++ [s]) k = useL l k
  | [], k, s, h => by simp [useL, h]
  | y :: ys, k, s, h => by
    simp only [List.cons_append, useL, useL_snoc ys (k + 1) s h]
theorem take_last {a : Al} (h0 : a.2.2.length ≠ 0) : a.2.2 = a.2.2.take (a.2.2.length - 1) ++ [lastF a] := by
  have h2 : a.2.2[a.2.2.length - 1]? = some (lastF a) := getD_get (by omega)
  have := take_snoc a.2.2 (a.2.2.length - 1) (lastF a) h2
  rw [show a.2.2.length - 1 + 1 = a.2.2.length by omega, List.take_length] at this
  exact this
theorem take_keeps {a : Al} (h : Rt a) (h0 : (takeP a).2.2 = 0) : Rt (takeP a).1 := by
  have hm1 := h.m1
  have hm2 := h.m2
  have hn1 := h.n1
  have hn2 := h.n2
  have hal := h.al
  unfold takeP at h0 ⊢
  by_cases c1 : (aliveN a.2.1 : Int) - 2 = a.1
  · rw [if_pos c1] at h0; cases h0
  rw [if_neg c1] at h0 ⊢
  by_cases c2 : a.2.2.length = 0
  · rw [if_pos c2] at h0 ⊢
    by_cases c3 : (a.2.1.length : Int) < a.1 + 2
    · rw [if_pos c3]
      have hf : a.2.2 = [] := List.length_eq_zero_iff.1 c2
      have hff := h.f
      refine ⟨hm1, hm2, by simp; omega, by simp; omega, ?_, fun i s hi => ?_, ?_⟩
      · show ((aliveN (a.2.1 ++ [(0, true)]) : Nat) : Int) - 2 ≤ a.1
        unfold aliveN at *
        rw [List.countP_append]
        simp only [List.countP_cons, List.countP_nil, if_true]
        omega
      · rcases Nat.lt_or_ge i a.2.1.length with g | g
        · exact h.g i s (by rw [← hi]; exact (List.getElem?_append_left g).symm)
        · have h5 : (a.2.1 ++ [((0 : Int), true)])[i]? = some s := hi
          rw [List.getElem?_append_right g] at h5
          have h6 : i - a.2.1.length = 0 := by have := (List.getElem?_eq_some_iff.1 h5).1; simpa using this
          rw [h6] at h5
          simp at h5
          subst h5
          exact ⟨by simp, by simp, fun _ => rfl⟩
      · show sortI [] = useL (a.2.1 ++ [(0, true)]) 0
        rw [useL_snoc _ _ _ rfl, ← hff, hf]
    · rw [if_neg c3] at h0; cases h0
  · rw [if_neg c2]
    obtain ⟨j, g, e1, e2, e3, e4, e5, e6⟩ := h.last c2
    have hj := (List.getElem?_eq_some_iff.1 e2).1
    have hjg : a.2.1[j] = (g, false) := (List.getElem?_eq_some_iff.1 e2).2
    have hjn : (lastF a - 1).toNat = j := by omega
    rw [e6, hjn]
    have hset : ∀ i s, (a.2.1.set j (g + 1, true))[i]? = some s → (i = j ∧ s = (g + 1, true)) ∨ (i ≠ j ∧ a.2.1[i]? = some s) := by
      intro i s hi
      by_cases e : i = j
      · subst e; rw [List.getElem?_set_self hj] at hi; injection hi with hi; exact .inl ⟨rfl, hi.symm⟩
      · rw [List.getElem?_set_ne (fun k => e k.symm)] at hi; exact .inr ⟨e, hi⟩
    refine ⟨hm1, hm2, by simpa using hn1, by simpa using hn2, ?_, fun i s hi => ?_, ?_⟩
    · show ((aliveN (a.2.1.set j (g + 1, true)) : Nat) : Int) - 2 ≤ a.1
      unfold aliveN at *
      rw [List.countP_set hj, hjg]
      simp; omega
    · rcases hset i s hi with ⟨rfl, rfl⟩ | ⟨_, h5⟩
      · exact ⟨by simp; omega, by simp; omega, fun k => by omega⟩
      · exact h.g i s h5
    · obtain ⟨f1, f2⟩ := free_iff.1 h.f
      have hl := take_last c2
      have hc : ∀ x : Int, a.2.2.count x = (a.2.2.take (a.2.2.length - 1)).count x + if lastF a = x then 1 else 0 := by
        intro x
        rw [congrArg (List.count x) hl, List.count_append, List.count_singleton]
        by_cases e : lastF a = x
        · rw [if_pos e, e]; simp
        · rw [if_neg e, if_neg (by simpa using e)]
      refine free_iff.2 ⟨fun i s hi => ?_, ?_⟩
      · show (a.2.2.take (a.2.2.length - 1)).count ((i : Int) + 1) = _
        have h7 := hc ((i : Int) + 1)
        rcases hset i s hi with ⟨rfl, rfl⟩ | ⟨hne, h5⟩
        · have h8 := f1 i _ e2
          rw [show useB (g, false) = true by simp [useB]; omega] at h8
          rw [show useB (g + 1, true) = false by simp [useB]]
          rw [if_pos e1] at h7
          simp at h8 ⊢
          have : ∀ x ∈ a.2.2.take (a.2.2.length - 1), ¬ x = (i : Int) + 1 := by
            intro x hx he
            subst he
            have := List.count_pos_iff.2 hx
            omega
          first | exact fun hx => this _ hx rfl | exact List.count_eq_zero.2 (fun hx => this _ hx rfl) | omega
        · rw [if_neg (by omega)] at h7
          have := f1 i s h5
          omega
      · show (a.2.2.take (a.2.2.length - 1)).length = (useL (a.2.1.set j (g + 1, true)) 0).length
        rw [useL_count] at f2 ⊢
        have hpos : 0 < a.2.1.countP useB := List.countP_pos_iff.2 ⟨(g, false), List.mem_of_getElem? e2, by simp [useB]; omega⟩
        rw [List.countP_set hj, hjg, show useB (g, false) = true by simp [useB]; omega, show useB (g + 1, true) = false by simp [useB], List.length_take]
        simp; omega
end Go.SX

set_option linter.unusedVariables false
set_option linter.unusedSimpArgs false
namespace Go.SX
open Go
theorem halves_ent {i g : Int} (hi : 1 ≤ i ∧ i ≤ 1048578) (hg : 0 ≤ g ∧ g ≤ 7) : ident_halves_m (entI i g) = (g, i) := by
  have hU : U (entI i g) := by unfold entI; exact ⟨by omega, by omega⟩
  unfold ident_halves_m
  rw [halfA_eq hU, halfB_eq hU]
  unfold hA hB entI
  refine Prod.ext ?_ ?_
  · show (i + g * 4294967296) / 4294967296 % 1073741824 = g; omega
  · show (i + g * 4294967296) % 1073741824 = i; omega
theorem kind_ent {i g : Int} (hi : 1 ≤ i ∧ i ≤ 1048578) (hg : 0 ≤ g ∧ g ≤ 7) : kindG (entI i g) = 1 := by
  refine kindG_1.2 ?_
  show identKind1_m (entI i g) (ident_halves_m (entI i g)).1 (ident_halves_m (entI i g)).2 = true
  rw [halves_ent hi hg]
  unfold identKind1_m
  rw [packed_eq hg ⟨by omega, hi.2⟩, if_pos rfl, if_pos (within1.2 hi)]
  exact within1.2 hg
theorem parts_ent {i g : Int} (hi : 1 ≤ i ∧ i ≤ 1048578) (hg : 0 ≤ g ∧ g ≤ 7) : ident_Parts_m (entI i g) = (i, g) := by
  rw [(kind1_parts (kind_ent hi hg)).1, halves_ent hi hg]
/-- The slot at place i is of someone who is alive, and is x. -/
def AtI (a : Al) (i : Nat) (x : Int) : Prop := ∃ g, a.2.1[i]? = some (g, true) ∧ x = entI ((i : Int) + 1) g
theorem Rt.rng {a : Al} (h : Rt a) {i : Nat} {s : Sl2} (hi : a.2.1[i]? = some s) : (1 ≤ (i : Int) + 1 ∧ (i : Int) + 1 ≤ 1048578) ∧ (0 ≤ s.1 ∧ s.1 ≤ 7) := by
  have h1 := (List.getElem?_eq_some_iff.1 hi).1
  have h2 := h.n2
  have h3 := h.m2
  have h4 := h.g i s hi
  exact ⟨by omega, h4.1, h4.2.1⟩
theorem AtI.inj {a : Al} (h : Rt a) {i j : Nat} {x : Int} (h1 : AtI a i x) (h2 : AtI a j x) : i = j := by
  obtain ⟨g, h3, h4⟩ := h1
  obtain ⟨g', h5, h6⟩ := h2
  have := h.rng h3
  have := h.rng h5
  simp only at *
  unfold entI at *
  omega
theorem AtI.parts {a : Al} (h : Rt a) {i : Nat} {x : Int} (h1 : AtI a i x) : (ident_Parts_m x).1 = (i : Int) + 1 := by
  obtain ⟨g, h3, rfl⟩ := h1
  have := h.rng h3
  rw [parts_ent this.1 this.2]
theorem alive_iff {a : Al} (h : Rt a) (x : Int) : alloc_alive_m a x = true ↔ ∃ i, AtI a i x := by
  have hn2 := h.n2
  have hm2 := h.m2
  constructor
  · intro k
    have hr := alive_rng k
    unfold alloc_alive_m at k
    split at k
    · cases k
    · rename_i h1
      have hk : kindG x = 1 := by omega
      obtain ⟨e1, e2, e3, e4⟩ := kind1_parts hk
      simp only [LR.seq] at k
      rw [e1] at k hr
      simp only at k hr
      rw [if_pos hr.2, decide_eq_true_eq] at k
      refine ⟨((ident_halves_m x).2 - 1).toNat, (ident_halves_m x).1, ?_, ?_⟩
      · rw [getD_get (z := ((0 : Int), false)) (by omega), k]
      · rw [show ((((ident_halves_m x).2 - 1).toNat : Nat) : Int) + 1 = (ident_halves_m x).2 by omega, ← packed_eq e4 ⟨by omega, e3.2⟩]
        exact e2
  · rintro ⟨i, g, h1, rfl⟩
    obtain ⟨r1, r2⟩ := h.rng h1
    have hl := (List.getElem?_eq_some_iff.1 h1).1
    unfold alloc_alive_m
    rw [if_neg (by rw [kind_ent r1 r2]; decide), parts_ent r1 r2]
    simp only [LR.seq]
    rw [if_pos (by omega), show ((i : Int) + 1 - 1).toNat = i by omega, List.getD_eq_getElem?_getD, h1]
    simp
def gfold : List Int → GS → GS
  | [], s => s
  | i :: r, s => gfold r (giveStep i s)
theorem give_l2_go (x : List Int) : ∀ (m k : Nat) (s : GS), m + k = (sortI x).length → (∀ j, k ≤ j → j < (sortI x).length → badAt (sortI x) j = false) → alloc_Give_l2 x m k s = .go (gfold ((sortI x).drop k) s)
  | 0, k, s, h, _ => by
    rw [alloc_Give_l2, List.drop_eq_nil_iff.2 (by omega)]; rfl
  | m + 1, k, s, h, hb => by
    rw [give_step, hb k (Nat.le_refl _) (by omega), if_neg Bool.false_ne_true, give_l2_go x m (k + 1) _ (by omega) (fun j h1 h2 => hb j (by omega) h2), List.drop_eq_getElem_cons (i := k) (by omega)]
    rw [gfold, List.getD_eq_getElem?_getD, List.getElem?_eq_getElem (by omega)]
    rfl
theorem give_l2_ret (x : List Int) : ∀ (m k : Nat) (s : GS), m + k = (sortI x).length → (∃ j, k ≤ j ∧ j < (sortI x).length ∧ badAt (sortI x) j = true) → alloc_Give_l2 x m k s = .ret (noAl, 2)
  | 0, k, s, h, ⟨j, h1, h2, _⟩ => by omega
  | m + 1, k, s, h, ⟨j, h1, h2, h3⟩ => by
    rw [give_step]
    cases hb : badAt (sortI x) k with
    | true => rw [if_pos rfl]
    | false =>
      rw [if_neg Bool.false_ne_true]
      refine give_l2_ret x m (k + 1) _ (by omega) ⟨j, ?_, h2, h3⟩
      rcases Nat.lt_or_ge k j with h4 | h4
      · exact h4
      · obtain rfl : j = k := by omega
        rw [hb] at h3; cases h3
theorem give_l1_eq : ∀ (l acc : List Int), alloc_Give_l1 l acc = acc ++ l.map (fun x => (ident_Parts_m x).1)
  | [], acc => by simp [alloc_Give_l1]
  | y :: ys, acc => by rw [alloc_Give_l1]; simp only [LR.seq]; rw [give_l1_eq ys]; simp
/-- No index is bad: none of the first two, none twice. -/
theorem bad_iff (X : List Int) : (∀ j, 0 ≤ j → j < (sortI X).length → badAt (sortI X) j = false) ↔ (∀ x ∈ X, 2 < x) ∧ X.Nodup := by
  have hp := sortI_perm X
  have hs := sortI_sorted X
  constructor
  · intro h
    have hg : ∀ j (hj : j < (sortI X).length), 2 < (sortI X)[j] ∧ (0 < j → (sortI X).getD (j - 1) 0 ≠ (sortI X)[j]) := by
      intro j hj
      have := h j (by omega) hj
      unfold badAt at this
      rw [Bool.or_eq_false_iff, decide_eq_false_iff_not] at this
      have e : (sortI X).getD j 0 = (sortI X)[j] := by rw [List.getD_eq_getElem?_getD, List.getElem?_eq_getElem hj]; rfl
      rw [e] at this
      refine ⟨by omega, fun h0 he => ?_⟩
      have h2 := this.2
      rw [decide_eq_true h0, Bool.true_and, decide_eq_false_iff_not] at h2
      exact h2 he
    refine ⟨fun x hx => ?_, hp.nodup_iff.1 ?_⟩
    · obtain ⟨j, hj, rfl⟩ := List.getElem_of_mem (hp.mem_iff.2 hx)
      exact (hg j hj).1
    · rw [List.nodup_iff_pairwise_ne, List.pairwise_iff_getElem]
      intro i j hi hj hij he
      have h1 := (hg j hj).2 (by omega)
      apply h1
      have e : (sortI X).getD (j - 1) 0 = (sortI X)[j - 1]'(by omega) := by rw [List.getD_eq_getElem?_getD, List.getElem?_eq_getElem (by omega)]; rfl
      rw [e]
      have h2 : (sortI X)[j - 1]'(by omega) ≤ (sortI X)[j] := (List.pairwise_iff_getElem.1 hs) (j - 1) j (by omega) hj (by omega)
      rcases Nat.lt_or_ge i (j - 1) with h3 | h3
      · have h4 : (sortI X)[i] ≤ (sortI X)[j - 1]'(by omega) := (List.pairwise_iff_getElem.1 hs) i (j - 1) hi (by omega) h3
        omega
      · have h4 : i = j - 1 := by omega
        subst h4; exact he
  · rintro ⟨h1, h2⟩ j _ hj
    have h3 : (sortI X).Nodup := hp.nodup_iff.2 h2
    unfold badAt
    have e : (sortI X).getD j 0 = (sortI X)[j] := by rw [List.getD_eq_getElem?_getD, List.getElem?_eq_getElem hj]; rfl
    rw [e, Bool.or_eq_false_iff, decide_eq_false_iff_not]
    refine ⟨by have := h1 _ (hp.mem_iff.1 (List.getElem_mem hj)); omega, ?_⟩
    by_cases h0 : 0 < j
    · rw [decide_eq_true h0, Bool.true_and, decide_eq_false_iff_not]
      have e2 : (sortI X).getD (j - 1) 0 = (sortI X)[j - 1]'(by omega) := by rw [List.getD_eq_getElem?_getD, List.getElem?_eq_getElem (by omega)]; rfl
      rw [e2]
      rw [List.nodup_iff_pairwise_ne, List.pairwise_iff_getElem] at h3
      exact h3 (j - 1) j (by omega) hj (by omega)
    · rw [decide_eq_false h0, Bool.false_and]
end Go.SX

set_option linter.unusedVariables false
set_option linter.unusedSimpArgs false
namespace Go.SX
open Go
/-- who is given, by place -/
def gvP (l : List Int) (k : Nat) (y : Sl2) : Bool := decide (entI ((k : Int) + 1) y.1 ∈ l)
def gvS (l : List Int) : List Sl2 → Nat → List Sl2
  | [], _ => []
  | y :: ys, k => (if gvP l k y then (y.1, false) else y) :: gvS l ys (k + 1)
def gvF (l : List Int) : List Sl2 → Nat → List Int
  | [], _ => []
  | y :: ys, k => if gvP l k y && decide (y.1 < 7) then ((k : Int) + 1) :: gvF l ys (k + 1) else gvF l ys (k + 1)
def giveR (a : Al) (l : List Int) : Al := (a.1, gvS l a.2.1 0, a.2.2 ++ gvF l a.2.1 0)
theorem gvS_get (l : List Int) : ∀ (s : List Sl2) (k j : Nat), (gvS l s k)[j]? = (s[j]?).map (fun t => if gvP l (k + j) t then (t.1, false) else t)
  | [], k, j => by simp [gvS]
  | y :: ys, k, 0 => by simp [gvS]
  | y :: ys, k, j + 1 => by
    rw [gvS, List.getElem?_cons_succ, gvS_get l ys (k + 1) j, List.getElem?_cons_succ, show k + 1 + j = k + (j + 1) by omega]
theorem gvF_mem (l : List Int) : ∀ (s : List Sl2) (k : Nat) (x : Int), x ∈ gvF l s k ↔ ∃ (i : Nat) (y : Sl2), s[i]? = some y ∧ gvP l (k + i) y = true ∧ y.1 < 7 ∧ x = ((k + i : Nat) : Int) + 1
  | [], k, x => by simp [gvF]
  | y :: ys, k, x => by
    have ih := gvF_mem l ys (k + 1) x
    have e : x ∈ gvF l (y :: ys) k ↔ ((gvP l k y = true ∧ y.1 < 7) ∧ x = (k : Int) + 1) ∨ x ∈ gvF l ys (k + 1) := by
      rw [gvF]
      by_cases h : (gvP l k y && decide (y.1 < 7)) = true
      · rw [if_pos h]; rw [Bool.and_eq_true, decide_eq_true_eq] at h; simp [h]
      · rw [if_neg h]; rw [Bool.and_eq_true, decide_eq_true_eq] at h; simp [h]
    rw [e, ih]
    constructor
    · rintro (⟨⟨h1, h2⟩, h3⟩ | ⟨i, s, h1, h2, h3, h4⟩)
      · exact ⟨0, y, rfl, h1, h2, by simpa using h3⟩
      · exact ⟨i + 1, s, by simpa using h1, by rw [show k + (i + 1) = k + 1 + i by omega]; exact h2, h3, by rw [h4]; congr 2; omega⟩
    · rintro ⟨i, s, h1, h2, h3, h4⟩
      cases i with
      | zero => simp at h1; subst h1; exact .inl ⟨⟨h2, h3⟩, by simpa using h4⟩
      | succ i => exact .inr ⟨i, s, by simpa using h1, by rw [show k + 1 + i = k + (i + 1) by omega]; exact h2, h3, by rw [h4]; congr 2; omega⟩
theorem gvF_up (l : List Int) : ∀ (s : List Sl2) (k : Nat), (gvF l s k).Pairwise (· < ·)
  | [], k => List.Pairwise.nil
  | y :: ys, k => by
    rw [gvF]
    split
    · refine List.Pairwise.cons (fun x hx => ?_) (gvF_up l ys (k + 1))
      obtain ⟨i, s, _, _, _, h⟩ := (gvF_mem l ys (k + 1) x).1 hx
      omega
    · exact gvF_up l ys (k + 1)
/-- What Give says. -/
noncomputable def giveP (a : Al) (l : List Int) : Al × Int := open Classical in if ∀ x ∈ l, alloc_alive_m a x = true then (if (∀ x ∈ l, 2 < x) ∧ l.Nodup then (giveR a l, 0) else (noAl, 2)) else (noAl, 122)
theorem genAt_step (i j : Int) (s : GS) : genAt (giveStep i s).2.2.1 j = genAt s.2.2.1 j := by
  unfold giveStep genAt
  simp only [List.getD_eq_getElem?_getD]
  by_cases e : (i - 1).toNat = (j - 1).toNat
  · rw [e]
    rcases Nat.lt_or_ge (j - 1).toNat s.2.2.1.length with hl | hl
    · rw [List.getElem?_set_self hl]; rfl
    · rw [List.getElem?_eq_none (by simpa using hl), List.getElem?_eq_none hl]
  · rw [List.getElem?_set_ne e]
theorem gfold_free : ∀ (S : List Int) (s : GS), (gfold S s).2.2.2 = s.2.2.2 ++ S.filter (fun i => decide (genAt s.2.2.1 i < 7))
  | [], s => by simp [gfold]
  | i :: r, s => by
    rw [gfold, gfold_free r]
    simp only [genAt_step]
    rw [List.filter_cons]
    show (if genAt s.2.2.1 i < 7 then s.2.2.2 ++ [i] else s.2.2.2) ++ _ = _
    by_cases g : genAt s.2.2.1 i < 7
    · rw [if_pos g, decide_eq_true g, if_pos rfl]; simp
    · rw [if_neg g, decide_eq_false g, if_neg Bool.false_ne_true]
theorem gfold_mid : ∀ (S : List Int) (s : GS), (gfold S s).2.1 = s.2.1
  | [], s => rfl
  | i :: r, s => by rw [gfold, gfold_mid r]; rfl
theorem gfold_slots : ∀ (S : List Int) (s : GS) (j : Nat), (gfold S s).2.2.1[j]? = open Classical in if ∃ i ∈ S, (i - 1).toNat = j then (s.2.2.1[j]?).map (fun t => (t.1, false)) else s.2.2.1[j]?
  | [], s, j => by rw [if_neg (fun ⟨i, h, _⟩ => by cases h)]; rfl
  | i :: r, s, j => by
    rw [gfold, gfold_slots r]
    have hs : (giveStep i s).2.2.1[j]? = if (i - 1).toNat = j then (s.2.2.1[j]?).map (fun t => (t.1, false)) else s.2.2.1[j]? := by
      unfold giveStep genAt
      by_cases e : (i - 1).toNat = j
      · rw [if_pos e, e]
        rcases Nat.lt_or_ge j s.2.2.1.length with hl | hl
        · rw [List.getElem?_set_self hl, List.getD_eq_getElem?_getD, List.getElem?_eq_getElem hl]; rfl
        · rw [List.getElem?_eq_none (by simpa using hl), List.getElem?_eq_none hl]; rfl
      · rw [if_neg e, List.getElem?_set_ne e]
    rw [hs]
    by_cases e : (i - 1).toNat = j
    · rw [if_pos e, if_pos (⟨i, List.mem_cons_self .., e⟩ : ∃ i' ∈ i :: r, (i' - 1).toNat = j)]
      by_cases c : ∃ i' ∈ r, (i' - 1).toNat = j
      · rw [if_pos c]; cases s.2.2.1[j]? <;> rfl
      · rw [if_neg c]
    · rw [if_neg e]
      by_cases c : ∃ i' ∈ r, (i' - 1).toNat = j
      · rw [if_pos c, if_pos]
        obtain ⟨i', h1, h2⟩ := c
        exact ⟨i', List.mem_cons_of_mem _ h1, h2⟩
      · rw [if_neg c, if_neg]
        rintro ⟨i', h1, h2⟩
        rcases List.mem_cons.1 h1 with rfl | h1
        · exact e h2
        · exact c ⟨i', h1, h2⟩
theorem all_id_go (f : Int → Int → Bool) : ∀ (l : List Int) (k : Nat), (∀ (i : Nat) (x : Int), l[i]? = some x → f ((k + i : Nat) : Int) x = true) → alloc_all_Id_l1 f l k () = .go ()
  | [], k, _ => rfl
  | y :: ys, k, h => by
    rw [alloc_all_Id_l1, show f (k : Int) y = true from by simpa using h 0 y rfl, Bool.not_true, if_neg Bool.false_ne_true]
    exact all_id_go f ys (k + 1) (fun i x hi => by have := h (i + 1) x (by simpa using hi); rwa [show k + (i + 1) = k + 1 + i by omega] at this)
theorem all_id_iff {f : Int → Bool} {l : List Int} : alloc_all_Id_m l (fun _ z => f z) = true ↔ ∀ x ∈ l, f x = true := by
  refine ⟨all_id, fun h => ?_⟩
  unfold alloc_all_Id_m
  rw [all_id_go (fun _ z => f z) l 0 (fun i x hi => h x (List.mem_of_getElem? hi)), LR.on_go]
/-- the place of one who is alive -/
def idxI (x : Int) : Int := (ident_Parts_m x).1
theorem idx_of {a : Al} (h : Rt a) {x : Int} (hx : alloc_alive_m a x = true) : ∃ (i : Nat) (g : Int), a.2.1[i]? = some (g, true) ∧ x = entI ((i : Int) + 1) g ∧ idxI x = (i : Int) + 1 := by
  obtain ⟨i, hi⟩ := (alive_iff h x).1 hx
  have := hi.parts h
  obtain ⟨g, h1, h2⟩ := hi
  exact ⟨i, g, h1, h2, this⟩
theorem idx_inj {a : Al} (h : Rt a) {x y : Int} (hx : alloc_alive_m a x = true) (hy : alloc_alive_m a y = true) (e : idxI x = idxI y) : x = y := by
  obtain ⟨i, g, h1, h2, h3⟩ := idx_of h hx
  obtain ⟨j, g', h4, h5, h6⟩ := idx_of h hy
  have : i = j := by omega
  subst this
  rw [h1] at h4; injection h4 with h4; injection h4 with h4
  rw [h2, h5, h4]
theorem idx_two {a : Al} (h : Rt a) {x : Int} (hx : alloc_alive_m a x = true) : 2 < idxI x ↔ 2 < x := by
  obtain ⟨i, g, h1, h2, h3⟩ := idx_of h hx
  have hr := h.rng h1
  have hg := h.g i _ h1
  simp only at hr hg
  rw [h2, ← h2, h3]
  constructor
  · intro k; rw [h2]; unfold entI; omega
  · intro k
    rcases Nat.lt_or_ge i 2 with h4 | h4
    · have := hg.2.2 h4
      injection this with this
      rw [h2, this] at k; unfold entI at k; omega
    · omega
theorem give_rt {a : Al} (h : Rt a) (l : List Int) : alloc_Give_m a l = giveP a l := by
  have hn2 := h.n2
  have hm2 := h.m2
  unfold alloc_Give_m giveP
  rw [(check_iff (by omega)).1.2 h, if_neg (by decide)]
  have hall : alloc_all_Id_m l (fun z0 z1 => alloc_Give_1_m a z0 z1) = true ↔ ∀ x ∈ l, alloc_alive_m a x = true := all_id_iff (f := fun z => alloc_alive_m a z)
  by_cases c1 : ∀ x ∈ l, alloc_alive_m a x = true
  rotate_left
  · have : alloc_all_Id_m l (fun z0 z1 => alloc_Give_1_m a z0 z1) = false := by
      cases e : alloc_all_Id_m l (fun z0 z1 => alloc_Give_1_m a z0 z1) with
      | false => rfl
      | true => exact absurd (hall.1 e) c1
    rw [this, Bool.not_false, if_pos rfl, if_neg c1]; rfl
  rw [hall.2 c1, Bool.not_true, if_neg Bool.false_ne_true, if_pos c1]
  simp only [LR.seq, alloc_own_eq]
  rw [give_l1_eq, List.nil_append]
  have hX : (l.map (fun x => (ident_Parts_m x).1)) = l.map idxI := rfl
  rw [hX]
  have hlen : (sortI (l.map idxI)).length = (l.map idxI).length := (sortI_perm _).length_eq
  have hb := bad_iff (l.map idxI)
  have hcond : ((∀ x ∈ l.map idxI, 2 < x) ∧ (l.map idxI).Nodup) ↔ ((∀ x ∈ l, 2 < x) ∧ l.Nodup) := by
    constructor
    · rintro ⟨h1, h2⟩
      refine ⟨fun x hx => (idx_two h (c1 x hx)).1 (h1 _ (List.mem_map_of_mem hx)), ?_⟩
      have := List.pairwise_map.1 h2
      exact this.imp (fun hne e => hne (by rw [e]))
    · rintro ⟨h1, h2⟩
      refine ⟨fun x hx => ?_, ?_⟩
      · obtain ⟨y, hy, rfl⟩ := List.mem_map.1 hx
        exact (idx_two h (c1 y hy)).2 (h1 y hy)
      · refine List.pairwise_map.2 (List.Pairwise.imp_of_mem (fun {x y} hx hy hne e => hne (idx_inj h (c1 x hx) (c1 y hy) e)) h2)
  by_cases c2 : (∀ x ∈ l, 2 < x) ∧ l.Nodup
  rotate_left
  · rw [if_neg c2]
    have hne : ¬ (∀ j, 0 ≤ j → j < (sortI (l.map idxI)).length → badAt (sortI (l.map idxI)) j = false) := fun k => c2 (hcond.1 (hb.1 k))
    have hex : ∃ j, 0 ≤ j ∧ j < (sortI (l.map idxI)).length ∧ badAt (sortI (l.map idxI)) j = true := by
      refine Classical.byContradiction (fun k => hne (fun j h1 h2 => ?_))
      cases e : badAt (sortI (l.map idxI)) j with
      | false => rfl
      | true => exact absurd ⟨j, h1, h2, e⟩ k
    rw [give_l2_ret _ _ _ _ (by omega) hex, LR.on_ret]
  · rw [if_pos c2, give_l2_go _ _ _ _ (by omega) (hb.2 (hcond.2 c2)), LR.on_go, List.drop_zero]
    have hmemS : ∀ x, x ∈ sortI (l.map idxI) ↔ ∃ y ∈ l, idxI y = x := fun x => by rw [(sortI_perm _).mem_iff, List.mem_map]
    -- a place of S, and whom it is of
    have hS : ∀ (j : Nat) (t : Sl2), a.2.1[j]? = some t → ((∃ i ∈ sortI (l.map idxI), (i - 1).toNat = j) ↔ gvP l j t = true) := by
      intro j t ht
      unfold gvP
      rw [decide_eq_true_eq]
      constructor
      · rintro ⟨i, h1, h2⟩
        obtain ⟨y, hy, rfl⟩ := (hmemS i).1 h1
        obtain ⟨q, g, h3, h4, h5⟩ := idx_of h (c1 y hy)
        have : q = j := by omega
        subst this
        rw [h3] at ht; injection ht with ht; subst ht
        rw [← h4]; exact hy
      · intro hm
        obtain ⟨q, g, h3, h4, h5⟩ := idx_of h (c1 _ hm)
        have hr1 := h.rng ht
        have hr2 := h.rng h3
        simp only at hr1 hr2
        have : q = j := by unfold entI at h4; omega
        subst this
        exact ⟨_, (hmemS _).2 ⟨_, hm, rfl⟩, by rw [h5]; omega⟩
    have hslots : (gfold (sortI (l.map idxI)) (a.2.1, a.1, a.2.1, a.2.2)).2.2.1 = gvS l a.2.1 0 := by
      refine List.ext_getElem? (fun j => ?_)
      rw [gfold_slots, gvS_get]
      show (if ∃ i ∈ sortI (l.map idxI), (i - 1).toNat = j then (a.2.1[j]?).map (fun t => (t.1, false)) else a.2.1[j]?) = _
      cases ht : a.2.1[j]? with
      | none => split <;> rfl
      | some t =>
        have := hS j t ht
        rw [Nat.zero_add]
        by_cases c : ∃ i ∈ sortI (l.map idxI), (i - 1).toNat = j
        · rw [if_pos c, Option.map_some, Option.map_some, if_pos (this.1 c)]
        · rw [if_neg c, Option.map_some, if_neg (fun k => c (this.2 k))]
    have hfree : (gfold (sortI (l.map idxI)) (a.2.1, a.1, a.2.1, a.2.2)).2.2.2 = a.2.2 ++ gvF l a.2.1 0 := by
      rw [gfold_free]
      congr 1
      show (sortI (l.map idxI)).filter (fun i => decide (genAt a.2.1 i < 7)) = gvF l a.2.1 0
      have hnd : (sortI (l.map idxI)).Nodup := (sortI_perm _).nodup_iff.2 (hcond.2 c2).2
      have hnd1 : ((sortI (l.map idxI)).filter (fun i => decide (genAt a.2.1 i < 7))).Nodup := hnd.sublist List.filter_sublist
      have hnd2 : (gvF l a.2.1 0).Nodup := (gvF_up l a.2.1 0).imp (fun k => by intro e; omega)
      refine List.Perm.eq_of_pairwise (le := (· ≤ ·)) (fun x y _ _ h1 h2 => by omega) ((sortI_sorted _).sublist List.filter_sublist) ((gvF_up l a.2.1 0).imp (fun k => by omega)) ((List.perm_ext_iff_of_nodup hnd1 hnd2).2 (fun x => ?_))
      rw [List.mem_filter, gvF_mem, decide_eq_true_eq]
      constructor
      · rintro ⟨h1, h2⟩
        obtain ⟨y, hy, rfl⟩ := (hmemS x).1 h1
        obtain ⟨q, g, h3, h4, h5⟩ := idx_of h (c1 y hy)
        refine ⟨q, (g, true), h3, by rw [Nat.zero_add]; exact (hS q _ h3).1 ⟨_, h1, by rw [h5]; omega⟩, ?_, by rw [h5]; simp⟩
        unfold genAt at h2
        rw [h5, show ((q : Int) + 1 - 1).toNat = q by omega, List.getD_eq_getElem?_getD, h3] at h2
        exact h2
      · rintro ⟨q, t, h3, h4, h5, h6⟩
        rw [Nat.zero_add] at h4 h6
        obtain ⟨i, h7, h8⟩ := (hS q t h3).2 h4
        obtain ⟨y, hy, rfl⟩ := (hmemS i).1 h7
        obtain ⟨q', g, h9, _, h10⟩ := idx_of h (c1 y hy)
        have : idxI y = x := by omega
        refine ⟨by rw [← this]; exact h7, ?_⟩
        unfold genAt
        rw [h6, show ((q : Int) + 1 - 1).toNat = q by omega, List.getD_eq_getElem?_getD, h3]
        exact h5
    rw [gfold_mid, hslots, hfree]; rfl
end Go.SX

set_option linter.unusedVariables false
set_option linter.unusedSimpArgs false
namespace Go.SX
open Go Go.Proofs

def windroselaw02_wakes_m  : Bool :=
  LR.seq (alloc_New_m 1) (fun r15 => LR.seq (alloc_Take_m r15.1) (fun r20 => LR.seq (alloc_Take_m r20.1) (fun r26 => LR.seq (alloc_Give_m r20.1 [r20.2.1]) (fun r34 => LR.seq (alloc_Take_m r34.1) (fun r39 => if r15.2 = 0 then (if r20.2.2 = 0 then (if r34.2 = 0 then (if r39.2.2 = 0 then (if r26.2.2 = 6 then (if r20.2.1 = 3 then (if r39.2.1 = 4294967299 then (if (alloc_Alive_m r39.1 r39.2.1) = true then (if (!(alloc_Alive_m r39.1 r20.2.1)) = true then (LR.seq (alloc_All_m r39.1) (fun r82 => (decide ((r82.length : Int) = 3)))) else false) else false) else false) else false) else false) else false) else false) else false) else false)))))
set_option maxHeartbeats 3200000 in
theorem windroselaw02_wakes_c (H : Heap) {tG0 : TypeId} (hG0 : H 0 = some (.cells #[.int .i64 0, .bool true] tG0)) : Fv Tryd.prog (fnv 13) [] H (.bool windroselaw02_wakes_m) := by
  refine Fc.of_body (N := 86) Tryd.func13 rfl (by kernel_rfl) rfl rfl ?_
  intro w0
  refine T.seq ?_
  refine T.region ?_
  refine R.asE rfl (by conv => lhs; whnf) ?_
  refine TL.nil (Post.thnN ?_)
  refine T.seq ?_
  refine T.region ?_
  obtain ⟨r15, er15⟩ : ∃ r, r = (alloc_New_m 1) := ⟨_, rfl⟩
  refine TL.call [] rfl rfl rfl (alloc_New_c _ hG0 (1)) ?_
  intro v15 H15 L15 s15 q15
  rw [← er15] at q15
  obtain ⟨u15_0_1, u15_0_2, c15_0_1, c15_0_2, rfl, rfl, w15_0_1, w15_0_2⟩ := q15
  obtain ⟨A15_0_1, p15_0_1, rfl, m15_0_1, n15_0_1⟩ := OwnS.shape w15_0_1
  obtain ⟨A15_0_2, p15_0_2, rfl, m15_0_2, n15_0_2⟩ := OwnS.shape w15_0_2
  have tn15 : r15.1.2.1.length ≤ 2 ∧ r15.1.2.2.length ≤ 0 := by rw [er15]; exact new_len _
  refine R.mvE rfl (by conv => lhs; whnf) ?_
  refine R.ext rfl rfl rfl ?_
  refine R.ext rfl rfl rfl ?_
  refine R.alloc Tryd.zeroValue25 rfl ?_
  intro b1
  refine R.stX (old := [.int .i64 0, .slice none 0 0, .slice none 0 0]) (l := [.int .i64 (r15.1.1), .slice A15_0_1 r15.1.2.1.length p15_0_1, .slice A15_0_2 r15.1.2.2.length p15_0_2]) (new := [.int .i64 (r15.1.1), .slice A15_0_1 r15.1.2.1.length p15_0_1, .slice A15_0_2 r15.1.2.2.length p15_0_2]) (et := 25) Tryd.sizeOf25 rfl rfl rfl rfl rfl (by show 0 + 3 ≤ 3; decide) rfl (all_one rfl) .hd ?_
  refine R.asE rfl (by conv => lhs; whnf) ?_
  refine TL.shut (.tl .hd) ?_
  intro HF15_0_1_1 sF15_0_1_1 qF15_0_1_1
  have fF15_0_1_1 := OwnS.read w15_0_1 sF15_0_1_1 qF15_0_1_1
  refine TL.shut (.tl .hd) ?_
  intro HF15_0_2_2 sF15_0_2_2 qF15_0_2_2
  have fF15_0_2_2 := OwnS.read (OwnS.mono w15_0_2 sF15_0_1_1) sF15_0_2_2 qF15_0_2_2
  refine TL.shut .hd ?_
  intro Hb1_3 sb1_3 qb1_3
  have hb1_3 : Hb1_3 b1 = some (.cells #[.int .i64 (r15.1.1), .slice A15_0_1 r15.1.2.1.length p15_0_1, .slice A15_0_2 r15.1.2.2.length p15_0_2] 25) := shut1 qb1_3
  refine TL.nil (Post.thnN ?_)
  refine T.seq ?_
  refine T.region ?_
  refine R.ldXH (cs := [.int .i64 (r15.1.1), .slice A15_0_1 r15.1.2.1.length p15_0_1, .slice A15_0_2 r15.1.2.2.length p15_0_2]) (l := [.int .i64 (r15.1.1), .slice A15_0_1 r15.1.2.1.length p15_0_1, .slice A15_0_2 r15.1.2.2.length p15_0_2]) Tryd.isAgg25 Tryd.sizeOf25 rfl rfl hb1_3 rfl rfl ?_
  obtain ⟨r20, er20⟩ : ∃ r, r = (alloc_Take_m r15.1) := ⟨_, rfl⟩
  refine TL.call [] rfl rfl rfl (alloc_Take_c _ ((s15.trans (sF15_0_1_1.trans (sF15_0_2_2.trans sb1_3))) _ _ hG0) r15.1 _ (fF15_0_1_1.mono (sF15_0_2_2.trans sb1_3)) _ (fF15_0_2_2.mono sb1_3) (by first | omega | (simp; done) | (simp; omega) | (simp at *; omega)) (by first | omega | (simp; done) | (simp; omega) | (simp at *; omega))) ?_
  intro v20 H20 L20 s20 q20
  rw [← er20] at q20
  obtain ⟨u20_0_1, u20_0_2, c20_0_1, c20_0_2, rfl, rfl, w20_0_1, w20_0_2⟩ := q20
  obtain ⟨A20_0_1, p20_0_1, rfl, m20_0_1, n20_0_1⟩ := OwnS.shape w20_0_1
  obtain ⟨A20_0_2, p20_0_2, rfl, m20_0_2, n20_0_2⟩ := OwnS.shape w20_0_2
  have tt20 : r20.1.2.1.length ≤ 1100000 ∧ r20.1.2.2.length ≤ 1100000 := by rw [er20]; exact take_len (by first | omega | (simp; done) | (simp; omega) | (simp at *; omega))
  refine R.mvE rfl (by conv => lhs; whnf) ?_
  refine R.ext rfl rfl rfl ?_
  refine R.ext rfl rfl rfl ?_
  refine R.ext rfl rfl rfl ?_
  refine R.alloc Tryd.zeroValue25 rfl ?_
  intro b3
  refine R.stX (old := [.int .i64 0, .slice none 0 0, .slice none 0 0]) (l := [.int .i64 (r20.1.1), .slice A20_0_1 r20.1.2.1.length p20_0_1, .slice A20_0_2 r20.1.2.2.length p20_0_2]) (new := [.int .i64 (r20.1.1), .slice A20_0_1 r20.1.2.1.length p20_0_1, .slice A20_0_2 r20.1.2.2.length p20_0_2]) (et := 25) Tryd.sizeOf25 rfl rfl rfl rfl rfl (by show 0 + 3 ≤ 3; decide) rfl (all_one rfl) .hd ?_
  refine R.asE rfl (by conv => lhs; whnf) ?_
  refine R.asE rfl (by conv => lhs; whnf) ?_
  refine TL.shut (.tl .hd) ?_
  intro HF20_0_1_4 sF20_0_1_4 qF20_0_1_4
  have fF20_0_1_4 := OwnS.read w20_0_1 sF20_0_1_4 qF20_0_1_4
  refine TL.shut (.tl .hd) ?_
  intro HF20_0_2_5 sF20_0_2_5 qF20_0_2_5
  have fF20_0_2_5 := OwnS.read (OwnS.mono w20_0_2 sF20_0_1_4) sF20_0_2_5 qF20_0_2_5
  refine TL.shut .hd ?_
  intro Hb3_6 sb3_6 qb3_6
  have hb3_6 : Hb3_6 b3 = some (.cells #[.int .i64 (r20.1.1), .slice A20_0_1 r20.1.2.1.length p20_0_1, .slice A20_0_2 r20.1.2.2.length p20_0_2] 25) := shut1 qb3_6
  refine TL.nil (Post.thnN ?_)
  refine T.seq ?_
  refine T.region ?_
  refine R.ldXH (cs := [.int .i64 (r20.1.1), .slice A20_0_1 r20.1.2.1.length p20_0_1, .slice A20_0_2 r20.1.2.2.length p20_0_2]) (l := [.int .i64 (r20.1.1), .slice A20_0_1 r20.1.2.1.length p20_0_1, .slice A20_0_2 r20.1.2.2.length p20_0_2]) Tryd.isAgg25 Tryd.sizeOf25 rfl rfl hb3_6 rfl rfl ?_
  obtain ⟨r26, er26⟩ : ∃ r, r = (alloc_Take_m r20.1) := ⟨_, rfl⟩
  refine TL.call [] rfl rfl rfl (alloc_Take_c _ ((s15.trans (sF15_0_1_1.trans (sF15_0_2_2.trans (sb1_3.trans (s20.trans (sF20_0_1_4.trans (sF20_0_2_5.trans sb3_6))))))) _ _ hG0) r20.1 _ (fF20_0_1_4.mono (sF20_0_2_5.trans sb3_6)) _ (fF20_0_2_5.mono sb3_6) (by first | omega | (simp; done) | (simp; omega) | (simp at *; omega)) (by first | omega | (simp; done) | (simp; omega) | (simp at *; omega))) ?_
  intro v26 H26 L26 s26 q26
  rw [← er26] at q26
  obtain ⟨u26_0_1, u26_0_2, c26_0_1, c26_0_2, rfl, rfl, w26_0_1, w26_0_2⟩ := q26
  obtain ⟨A26_0_1, p26_0_1, rfl, m26_0_1, n26_0_1⟩ := OwnS.shape w26_0_1
  obtain ⟨A26_0_2, p26_0_2, rfl, m26_0_2, n26_0_2⟩ := OwnS.shape w26_0_2
  have tt26 : r26.1.2.1.length ≤ 1100000 ∧ r26.1.2.2.length ≤ 1100000 := by rw [er26]; exact take_len (by first | omega | (simp; done) | (simp; omega) | (simp at *; omega))
  refine R.mvE rfl (by conv => lhs; whnf) ?_
  refine R.ext rfl rfl rfl ?_
  refine R.ext rfl rfl rfl ?_
  refine R.ext rfl rfl rfl ?_
  refine R.alloc Tryd.zeroValue25 rfl ?_
  intro b6
  refine R.stX (old := [.int .i64 0, .slice none 0 0, .slice none 0 0]) (l := [.int .i64 (r26.1.1), .slice A26_0_1 r26.1.2.1.length p26_0_1, .slice A26_0_2 r26.1.2.2.length p26_0_2]) (new := [.int .i64 (r26.1.1), .slice A26_0_1 r26.1.2.1.length p26_0_1, .slice A26_0_2 r26.1.2.2.length p26_0_2]) (et := 25) Tryd.sizeOf25 rfl rfl rfl rfl rfl (by show 0 + 3 ≤ 3; decide) rfl (all_one rfl) .hd ?_
  refine R.asE rfl (by conv => lhs; whnf) ?_
  refine R.asE rfl (by conv => lhs; whnf) ?_
  refine TL.shut (.tl .hd) ?_
  intro HF26_0_1_7 sF26_0_1_7 qF26_0_1_7
  have fF26_0_1_7 := OwnS.read w26_0_1 sF26_0_1_7 qF26_0_1_7
  refine TL.shut (.tl .hd) ?_
  intro HF26_0_2_8 sF26_0_2_8 qF26_0_2_8
  have fF26_0_2_8 := OwnS.read (OwnS.mono w26_0_2 sF26_0_1_7) sF26_0_2_8 qF26_0_2_8
  refine TL.shut .hd ?_
  intro Hb6_9 sb6_9 qb6_9
  have hb6_9 : Hb6_9 b6 = some (.cells #[.int .i64 (r26.1.1), .slice A26_0_1 r26.1.2.1.length p26_0_1, .slice A26_0_2 r26.1.2.2.length p26_0_2] 25) := shut1 qb6_9
  refine TL.nil (Post.thnN ?_)
  refine T.seq ?_
  refine T.region ?_
  refine R.ldXH (cs := [.int .i64 (r20.1.1), .slice A20_0_1 r20.1.2.1.length p20_0_1, .slice A20_0_2 r20.1.2.2.length p20_0_2]) (l := [.int .i64 (r20.1.1), .slice A20_0_1 r20.1.2.1.length p20_0_1, .slice A20_0_2 r20.1.2.2.length p20_0_2]) Tryd.isAgg25 Tryd.sizeOf25 rfl rfl ((s26.trans (sF26_0_1_7.trans (sF26_0_2_8.trans sb6_9))) _ _ hb3_6) rfl rfl ?_
  refine R.mvE rfl (by conv => lhs; whnf) ?_
  refine R.bs rfl (run_buildSlice1 Tryd.underlying29 Tryd.sizeOf32 Tryd.zeroValue32 rfl rfl) ?_
  intro b33
  have w33 : OwnS (intE .u64) 32 Hb6_9 (.slice (some ⟨b33, 0, none⟩) 1 1) [r20.2.1] [(b33, .cells #[.int .u64 (r20.2.1)] 32)] := OwnS.lit (xs := [r20.2.1]) (cellsOf_cons (a := [.int .u64 (r20.2.1)]) rfl cellsOf_nil) (by show 1 ≤ maxLen; decide)
  refine TL.shut .hd ?_
  intro HF33_10 sF33_10 qF33_10
  have fF33_10 := OwnS.read w33 sF33_10 qF33_10
  obtain ⟨r34, er34⟩ : ∃ r, r = (alloc_Give_m r20.1 [r20.2.1]) := ⟨_, rfl⟩
  refine TL.call [] rfl rfl rfl (alloc_Give_c _ ((s15.trans (sF15_0_1_1.trans (sF15_0_2_2.trans (sb1_3.trans (s20.trans (sF20_0_1_4.trans (sF20_0_2_5.trans (sb3_6.trans (s26.trans (sF26_0_1_7.trans (sF26_0_2_8.trans (sb6_9.trans sF33_10)))))))))))) _ _ hG0) r20.1 _ (fF20_0_1_4.mono (sF20_0_2_5.trans (sb3_6.trans (s26.trans (sF26_0_1_7.trans (sF26_0_2_8.trans (sb6_9.trans sF33_10))))))) _ (fF20_0_2_5.mono (sb3_6.trans (s26.trans (sF26_0_1_7.trans (sF26_0_2_8.trans (sb6_9.trans sF33_10)))))) _ [r20.2.1] fF33_10 (by first | omega | (simp; done) | (simp; omega) | (simp at *; omega)) (by first | omega | (simp; done) | (simp; omega) | (simp at *; omega)) (by first | omega | (simp; done) | (simp; omega) | (simp at *; omega))) ?_
  intro v34 H34 L34 s34 q34
  rw [← er34] at q34
  obtain ⟨u34_0_1, u34_0_2, c34_0_1, c34_0_2, rfl, rfl, w34_0_1, w34_0_2⟩ := q34
  obtain ⟨A34_0_1, p34_0_1, rfl, m34_0_1, n34_0_1⟩ := OwnS.shape w34_0_1
  obtain ⟨A34_0_2, p34_0_2, rfl, m34_0_2, n34_0_2⟩ := OwnS.shape w34_0_2
  have tt34 : r34.1.2.1.length ≤ 1100000 ∧ r34.1.2.2.length ≤ 1100000 := by rw [er34]; exact give_len (by first | omega | (simp; done) | (simp; omega) | (simp at *; omega)) (by first | omega | (simp; done) | (simp; omega) | (simp at *; omega)) (by first | omega | (simp; done) | (simp; omega) | (simp at *; omega))
  refine R.mvE rfl (by conv => lhs; whnf) ?_
  refine R.ext rfl rfl rfl ?_
  refine R.ext rfl rfl rfl ?_
  refine R.alloc Tryd.zeroValue25 rfl ?_
  intro b9
  refine R.stX (old := [.int .i64 0, .slice none 0 0, .slice none 0 0]) (l := [.int .i64 (r34.1.1), .slice A34_0_1 r34.1.2.1.length p34_0_1, .slice A34_0_2 r34.1.2.2.length p34_0_2]) (new := [.int .i64 (r34.1.1), .slice A34_0_1 r34.1.2.1.length p34_0_1, .slice A34_0_2 r34.1.2.2.length p34_0_2]) (et := 25) Tryd.sizeOf25 rfl rfl rfl rfl rfl (by show 0 + 3 ≤ 3; decide) rfl (all_one rfl) .hd ?_
  refine R.asE rfl (by conv => lhs; whnf) ?_
  refine TL.shut (.tl .hd) ?_
  intro HF34_0_1_11 sF34_0_1_11 qF34_0_1_11
  have fF34_0_1_11 := OwnS.read w34_0_1 sF34_0_1_11 qF34_0_1_11
  refine TL.shut (.tl .hd) ?_
  intro HF34_0_2_12 sF34_0_2_12 qF34_0_2_12
  have fF34_0_2_12 := OwnS.read (OwnS.mono w34_0_2 sF34_0_1_11) sF34_0_2_12 qF34_0_2_12
  refine TL.shut .hd ?_
  intro Hb9_13 sb9_13 qb9_13
  have hb9_13 : Hb9_13 b9 = some (.cells #[.int .i64 (r34.1.1), .slice A34_0_1 r34.1.2.1.length p34_0_1, .slice A34_0_2 r34.1.2.2.length p34_0_2] 25) := shut1 qb9_13
  refine TL.nil (Post.thnN ?_)
  refine T.seq ?_
  refine T.region ?_
  refine R.ldXH (cs := [.int .i64 (r34.1.1), .slice A34_0_1 r34.1.2.1.length p34_0_1, .slice A34_0_2 r34.1.2.2.length p34_0_2]) (l := [.int .i64 (r34.1.1), .slice A34_0_1 r34.1.2.1.length p34_0_1, .slice A34_0_2 r34.1.2.2.length p34_0_2]) Tryd.isAgg25 Tryd.sizeOf25 rfl rfl hb9_13 rfl rfl ?_
  obtain ⟨r39, er39⟩ : ∃ r, r = (alloc_Take_m r34.1) := ⟨_, rfl⟩
  refine TL.call [] rfl rfl rfl (alloc_Take_c _ ((s15.trans (sF15_0_1_1.trans (sF15_0_2_2.trans (sb1_3.trans (s20.trans (sF20_0_1_4.trans (sF20_0_2_5.trans (sb3_6.trans (s26.trans (sF26_0_1_7.trans (sF26_0_2_8.trans (sb6_9.trans (sF33_10.trans (s34.trans (sF34_0_1_11.trans (sF34_0_2_12.trans sb9_13)))))))))))))))) _ _ hG0) r34.1 _ (fF34_0_1_11.mono (sF34_0_2_12.trans sb9_13)) _ (fF34_0_2_12.mono sb9_13) (by first | omega | (simp; done) | (simp; omega) | (simp at *; omega)) (by first | omega | (simp; done) | (simp; omega) | (simp at *; omega))) ?_
  intro v39 H39 L39 s39 q39
  rw [← er39] at q39
  obtain ⟨u39_0_1, u39_0_2, c39_0_1, c39_0_2, rfl, rfl, w39_0_1, w39_0_2⟩ := q39
  obtain ⟨A39_0_1, p39_0_1, rfl, m39_0_1, n39_0_1⟩ := OwnS.shape w39_0_1
  obtain ⟨A39_0_2, p39_0_2, rfl, m39_0_2, n39_0_2⟩ := OwnS.shape w39_0_2
  have tt39 : r39.1.2.1.length ≤ 1100000 ∧ r39.1.2.2.length ≤ 1100000 := by rw [er39]; exact take_len (by first | omega | (simp; done) | (simp; omega) | (simp at *; omega))
  refine R.mvE rfl (by conv => lhs; whnf) ?_
  refine R.ext rfl rfl rfl ?_
  refine R.ext rfl rfl rfl ?_
  refine R.ext rfl rfl rfl ?_
  refine R.alloc Tryd.zeroValue25 rfl ?_
  intro b11
  refine R.stX (old := [.int .i64 0, .slice none 0 0, .slice none 0 0]) (l := [.int .i64 (r39.1.1), .slice A39_0_1 r39.1.2.1.length p39_0_1, .slice A39_0_2 r39.1.2.2.length p39_0_2]) (new := [.int .i64 (r39.1.1), .slice A39_0_1 r39.1.2.1.length p39_0_1, .slice A39_0_2 r39.1.2.2.length p39_0_2]) (et := 25) Tryd.sizeOf25 rfl rfl rfl rfl rfl (by show 0 + 3 ≤ 3; decide) rfl (all_one rfl) .hd ?_
  refine R.asE rfl (by conv => lhs; whnf) ?_
  refine R.asE rfl (by conv => lhs; whnf) ?_
  refine TL.shut (.tl .hd) ?_
  intro HF39_0_1_14 sF39_0_1_14 qF39_0_1_14
  have fF39_0_1_14 := OwnS.read w39_0_1 sF39_0_1_14 qF39_0_1_14
  refine TL.shut (.tl .hd) ?_
  intro HF39_0_2_15 sF39_0_2_15 qF39_0_2_15
  have fF39_0_2_15 := OwnS.read (OwnS.mono w39_0_2 sF39_0_1_14) sF39_0_2_15 qF39_0_2_15
  refine TL.shut .hd ?_
  intro Hb11_16 sb11_16 qb11_16
  have hb11_16 : Hb11_16 b11 = some (.cells #[.int .i64 (r39.1.1), .slice A39_0_1 r39.1.2.1.length p39_0_1, .slice A39_0_2 r39.1.2.2.length p39_0_2] 25) := shut1 qb11_16
  refine TL.nil (Post.thnN ?_)
  refine T.seq ?_
  refine T.region ?_
  refine R.mvE rfl (by conv => lhs; whnf) ?_
  refine R.eql rfl rfl rfl ?_
  refine R.mvE rfl (by conv => lhs; whnf) ?_
  refine TL.gsplitD 45 rfl (fun g45 => ?_) (fun g45 => ?_)
  · refine R.mvE rfl (by conv => lhs; whnf) ?_
    refine R.eql rfl rfl rfl ?_
    refine R.pkTE rfl rfl (by conv => lhs; whnf) ?_
    refine R.mvE rfl (by conv => lhs; whnf) ?_
    refine TL.gsplitD 49 rfl (fun g49 => ?_) (fun g49 => ?_)
    · refine R.mvE rfl (by conv => lhs; whnf) ?_
      refine R.eql rfl rfl rfl ?_
      refine R.pkTE rfl rfl (by conv => lhs; whnf) ?_
      refine R.mvE rfl (by conv => lhs; whnf) ?_
      refine TL.gsplitD 53 rfl (fun g53 => ?_) (fun g53 => ?_)
      · refine R.mvE rfl (by conv => lhs; whnf) ?_
        refine R.eql rfl rfl rfl ?_
        refine R.pkTE rfl rfl (by conv => lhs; whnf) ?_
        refine R.mvE rfl (by conv => lhs; whnf) ?_
        refine TL.gsplitD 57 rfl (fun g57 => ?_) (fun g57 => ?_)
        · refine R.mvE rfl (by conv => lhs; whnf) ?_
          refine R.eql rfl rfl rfl ?_
          refine R.pkTE rfl rfl (by conv => lhs; whnf) ?_
          refine R.mvE rfl (by conv => lhs; whnf) ?_
          refine TL.gsplitD 61 rfl (fun g61 => ?_) (fun g61 => ?_)
          · refine R.mvE rfl (by conv => lhs; whnf) ?_
            refine R.eql rfl rfl rfl ?_
            refine R.pkTE rfl rfl (by conv => lhs; whnf) ?_
            refine R.mvE rfl (by conv => lhs; whnf) ?_
            refine TL.gsplitD 65 rfl (fun g65 => ?_) (fun g65 => ?_)
            · refine R.mvE rfl (by conv => lhs; whnf) ?_
              refine R.eql rfl rfl rfl ?_
              refine R.pkTE rfl rfl (by conv => lhs; whnf) ?_
              refine R.mvE rfl (by conv => lhs; whnf) ?_
              refine TL.gsplitD 69 rfl (fun g69 => ?_) (fun g69 => ?_)
              · refine R.ldXH (cs := [.int .i64 (r39.1.1), .slice A39_0_1 r39.1.2.1.length p39_0_1, .slice A39_0_2 r39.1.2.2.length p39_0_2]) (l := [.int .i64 (r39.1.1), .slice A39_0_1 r39.1.2.1.length p39_0_1, .slice A39_0_2 r39.1.2.2.length p39_0_2]) Tryd.isAgg25 Tryd.sizeOf25 rfl rfl hb11_16 rfl rfl ?_
                refine R.mvE rfl (by conv => lhs; whnf) ?_
                refine R.callv rfl rfl rfl (alloc_Alive_c _ ((s15.trans (sF15_0_1_1.trans (sF15_0_2_2.trans (sb1_3.trans (s20.trans (sF20_0_1_4.trans (sF20_0_2_5.trans (sb3_6.trans (s26.trans (sF26_0_1_7.trans (sF26_0_2_8.trans (sb6_9.trans (sF33_10.trans (s34.trans (sF34_0_1_11.trans (sF34_0_2_12.trans (sb9_13.trans (s39.trans (sF39_0_1_14.trans (sF39_0_2_15.trans sb11_16)))))))))))))))))))) _ _ hG0) r39.1 _ (fF39_0_1_14.mono (sF39_0_2_15.trans sb11_16)) _ (fF39_0_2_15.mono sb11_16) (r39.2.1) (by first | omega | (simp; done) | (simp; omega) | (simp at *; omega)) (by first | omega | (simp; done) | (simp; omega) | (simp at *; omega))) ?_
                refine R.pkTE rfl rfl (by conv => lhs; whnf) ?_
                refine R.mvE rfl (by conv => lhs; whnf) ?_
                refine TL.gsplit 74 rfl (fun g74 => ?_) (fun g74 => ?_)
                · refine R.ldXH (cs := [.int .i64 (r39.1.1), .slice A39_0_1 r39.1.2.1.length p39_0_1, .slice A39_0_2 r39.1.2.2.length p39_0_2]) (l := [.int .i64 (r39.1.1), .slice A39_0_1 r39.1.2.1.length p39_0_1, .slice A39_0_2 r39.1.2.2.length p39_0_2]) Tryd.isAgg25 Tryd.sizeOf25 rfl rfl hb11_16 rfl rfl ?_
                  refine R.mvE rfl (by conv => lhs; whnf) ?_
                  refine R.callv rfl rfl rfl (alloc_Alive_c _ ((s15.trans (sF15_0_1_1.trans (sF15_0_2_2.trans (sb1_3.trans (s20.trans (sF20_0_1_4.trans (sF20_0_2_5.trans (sb3_6.trans (s26.trans (sF26_0_1_7.trans (sF26_0_2_8.trans (sb6_9.trans (sF33_10.trans (s34.trans (sF34_0_1_11.trans (sF34_0_2_12.trans (sb9_13.trans (s39.trans (sF39_0_1_14.trans (sF39_0_2_15.trans sb11_16)))))))))))))))))))) _ _ hG0) r39.1 _ (fF39_0_1_14.mono (sF39_0_2_15.trans sb11_16)) _ (fF39_0_2_15.mono sb11_16) (r20.2.1) (by first | omega | (simp; done) | (simp; omega) | (simp at *; omega)) (by first | omega | (simp; done) | (simp; omega) | (simp at *; omega))) ?_
                  refine R.not rfl rfl ?_
                  refine R.pkTE rfl rfl (by conv => lhs; whnf) ?_
                  refine R.mvE rfl (by conv => lhs; whnf) ?_
                  refine TL.gsplit 80 rfl (fun g80 => ?_) (fun g80 => ?_)
                  · refine R.ldXH (cs := [.int .i64 (r39.1.1), .slice A39_0_1 r39.1.2.1.length p39_0_1, .slice A39_0_2 r39.1.2.2.length p39_0_2]) (l := [.int .i64 (r39.1.1), .slice A39_0_1 r39.1.2.1.length p39_0_1, .slice A39_0_2 r39.1.2.2.length p39_0_2]) Tryd.isAgg25 Tryd.sizeOf25 rfl rfl hb11_16 rfl rfl ?_
                    obtain ⟨r82, er82⟩ : ∃ r, r = (alloc_All_m r39.1) := ⟨_, rfl⟩
                    refine TL.call [] rfl rfl rfl (alloc_All_c _ ((s15.trans (sF15_0_1_1.trans (sF15_0_2_2.trans (sb1_3.trans (s20.trans (sF20_0_1_4.trans (sF20_0_2_5.trans (sb3_6.trans (s26.trans (sF26_0_1_7.trans (sF26_0_2_8.trans (sb6_9.trans (sF33_10.trans (s34.trans (sF34_0_1_11.trans (sF34_0_2_12.trans (sb9_13.trans (s39.trans (sF39_0_1_14.trans (sF39_0_2_15.trans sb11_16)))))))))))))))))))) _ _ hG0) r39.1 _ (fF39_0_1_14.mono (sF39_0_2_15.trans sb11_16)) _ (fF39_0_2_15.mono sb11_16) (by first | omega | (simp; done) | (simp; omega) | (simp at *; omega)) (by first | omega | (simp; done) | (simp; omega) | (simp at *; omega))) ?_
                    intro v82 H82 L82 s82 q82
                    rw [← er82] at q82
                    obtain ⟨u82_0_0, c82_0_0, rfl, rfl, w82_0_0⟩ := q82
                    obtain ⟨A82_0_0, p82_0_0, rfl, m82_0_0, n82_0_0⟩ := OwnS.shape w82_0_0
                    have ta82 : r82.length ≤ 2000000 := by rw [er82]; exact all_len (by first | omega | (simp; done) | (simp; omega) | (simp at *; omega))
                    refine R.len Tryd.underlying29 rfl rfl ?_
                    refine R.eql rfl rfl rfl ?_
                    refine R.pkTE rfl rfl (by conv => lhs; whnf) ?_
                    refine R.asE rfl (by conv => lhs; whnf) ?_
                    refine TL.nil (Post.thnN ?_)
                    refine T.has Has.nil ?_
                    refine T.ret ?_
                    have hM : windroselaw02_wakes_m = (decide ((r82.length : Int) = 3)) := by subst er82; subst er39; subst er34; subst er26; subst er20; subst er15; rw [windroselaw02_wakes_m, LR.seq_go, LR.seq_go, LR.seq_go, LR.seq_go, LR.seq_go, if_pos g45, if_pos g49, if_pos g53, if_pos g57, if_pos g61, if_pos g65, if_pos g69, if_t g74, if_t g80, LR.seq_go]
                    exact fin1L (v := .bool (decide ((r82.length : Int) = 3))) [] rfl rfl (List.Sublist.refl _) ⟨rfl, by first | rw [hM] | rfl⟩
                  · refine TL.off rfl rfl rfl ?_
                    refine TL.off rfl rfl rfl ?_
                    refine TL.off rfl rfl rfl ?_
                    refine TL.off rfl rfl rfl ?_
                    refine R.pkFE rfl rfl (by conv => lhs; whnf) ?_
                    refine R.asE rfl (by conv => lhs; whnf) ?_
                    refine TL.nil (Post.thnN ?_)
                    refine T.has Has.nil ?_
                    refine T.ret ?_
                    have hM : windroselaw02_wakes_m = false := by subst er39; subst er34; subst er26; subst er20; subst er15; rw [windroselaw02_wakes_m, LR.seq_go, LR.seq_go, LR.seq_go, LR.seq_go, LR.seq_go, if_pos g45, if_pos g49, if_pos g53, if_pos g57, if_pos g61, if_pos g65, if_pos g69, if_t g74, if_f g80]
                    exact fin1L (v := .bool false) [] rfl rfl (List.Sublist.refl _) ⟨rfl, by first | rw [hM] | rfl⟩
                · refine TL.off rfl rfl rfl ?_
                  refine TL.off rfl rfl rfl ?_
                  refine TL.off rfl rfl rfl ?_
                  refine TL.off rfl rfl rfl ?_
                  refine R.pkFE rfl rfl (by conv => lhs; whnf) ?_
                  refine R.mvE rfl (by conv => lhs; whnf) ?_
                  refine TL.off rfl rfl rfl ?_
                  refine TL.off rfl rfl rfl ?_
                  refine TL.off rfl rfl rfl ?_
                  refine TL.off rfl rfl rfl ?_
                  refine R.pkFE rfl rfl (by conv => lhs; whnf) ?_
                  refine R.asE rfl (by conv => lhs; whnf) ?_
                  refine TL.nil (Post.thnN ?_)
                  refine T.has Has.nil ?_
                  refine T.ret ?_
                  have hM : windroselaw02_wakes_m = false := by subst er39; subst er34; subst er26; subst er20; subst er15; rw [windroselaw02_wakes_m, LR.seq_go, LR.seq_go, LR.seq_go, LR.seq_go, LR.seq_go, if_pos g45, if_pos g49, if_pos g53, if_pos g57, if_pos g61, if_pos g65, if_pos g69, if_f g74]
                  exact fin1L (v := .bool false) [] rfl rfl (List.Sublist.refl _) ⟨rfl, by first | rw [hM] | rfl⟩
              · refine TL.off rfl rfl rfl ?_
                refine TL.off rfl rfl rfl ?_
                refine TL.off rfl rfl rfl ?_
                refine R.pkFE rfl rfl (by conv => lhs; whnf) ?_
                refine R.mvE rfl (by conv => lhs; whnf) ?_
                refine TL.off rfl rfl rfl ?_
                refine TL.off rfl rfl rfl ?_
                refine TL.off rfl rfl rfl ?_
                refine TL.off rfl rfl rfl ?_
                refine R.pkFE rfl rfl (by conv => lhs; whnf) ?_
                refine R.mvE rfl (by conv => lhs; whnf) ?_
                refine TL.off rfl rfl rfl ?_
                refine TL.off rfl rfl rfl ?_
                refine TL.off rfl rfl rfl ?_
                refine TL.off rfl rfl rfl ?_
                refine R.pkFE rfl rfl (by conv => lhs; whnf) ?_
                refine R.asE rfl (by conv => lhs; whnf) ?_
                refine TL.nil (Post.thnN ?_)
                refine T.has Has.nil ?_
                refine T.ret ?_
                have hM : windroselaw02_wakes_m = false := by subst er39; subst er34; subst er26; subst er20; subst er15; rw [windroselaw02_wakes_m, LR.seq_go, LR.seq_go, LR.seq_go, LR.seq_go, LR.seq_go, if_pos g45, if_pos g49, if_pos g53, if_pos g57, if_pos g61, if_pos g65, if_neg g69]
                exact fin1L (v := .bool false) [] rfl rfl (List.Sublist.refl _) ⟨rfl, by first | rw [hM] | rfl⟩
            · refine TL.off rfl rfl rfl ?_
              refine TL.off rfl rfl rfl ?_
              refine R.pkFE rfl rfl (by conv => lhs; whnf) ?_
              refine R.mvE rfl (by conv => lhs; whnf) ?_
              refine TL.off rfl rfl rfl ?_
              refine TL.off rfl rfl rfl ?_
              refine TL.off rfl rfl rfl ?_
              refine R.pkFE rfl rfl (by conv => lhs; whnf) ?_
              refine R.mvE rfl (by conv => lhs; whnf) ?_
              refine TL.off rfl rfl rfl ?_
              refine TL.off rfl rfl rfl ?_
              refine TL.off rfl rfl rfl ?_
              refine TL.off rfl rfl rfl ?_
              refine R.pkFE rfl rfl (by conv => lhs; whnf) ?_
              refine R.mvE rfl (by conv => lhs; whnf) ?_
              refine TL.off rfl rfl rfl ?_
              refine TL.off rfl rfl rfl ?_
              refine TL.off rfl rfl rfl ?_
              refine TL.off rfl rfl rfl ?_
              refine R.pkFE rfl rfl (by conv => lhs; whnf) ?_
              refine R.asE rfl (by conv => lhs; whnf) ?_
              refine TL.nil (Post.thnN ?_)
              refine T.has Has.nil ?_
              refine T.ret ?_
              have hM : windroselaw02_wakes_m = false := by subst er39; subst er34; subst er26; subst er20; subst er15; rw [windroselaw02_wakes_m, LR.seq_go, LR.seq_go, LR.seq_go, LR.seq_go, LR.seq_go, if_pos g45, if_pos g49, if_pos g53, if_pos g57, if_pos g61, if_neg g65]
              exact fin1L (v := .bool false) [] rfl rfl (List.Sublist.refl _) ⟨rfl, by first | rw [hM] | rfl⟩
          · refine TL.off rfl rfl rfl ?_
            refine TL.off rfl rfl rfl ?_
            refine R.pkFE rfl rfl (by conv => lhs; whnf) ?_
            refine R.mvE rfl (by conv => lhs; whnf) ?_
            refine TL.off rfl rfl rfl ?_
            refine TL.off rfl rfl rfl ?_
            refine R.pkFE rfl rfl (by conv => lhs; whnf) ?_
            refine R.mvE rfl (by conv => lhs; whnf) ?_
            refine TL.off rfl rfl rfl ?_
            refine TL.off rfl rfl rfl ?_
            refine TL.off rfl rfl rfl ?_
            refine R.pkFE rfl rfl (by conv => lhs; whnf) ?_
            refine R.mvE rfl (by conv => lhs; whnf) ?_
            refine TL.off rfl rfl rfl ?_
            refine TL.off rfl rfl rfl ?_
            refine TL.off rfl rfl rfl ?_
            refine TL.off rfl rfl rfl ?_
            refine R.pkFE rfl rfl (by conv => lhs; whnf) ?_
            refine R.mvE rfl (by conv => lhs; whnf) ?_
            refine TL.off rfl rfl rfl ?_
            refine TL.off rfl rfl rfl ?_
            refine TL.off rfl rfl rfl ?_
            refine TL.off rfl rfl rfl ?_
            refine R.pkFE rfl rfl (by conv => lhs; whnf) ?_
            refine R.asE rfl (by conv => lhs; whnf) ?_
            refine TL.nil (Post.thnN ?_)
            refine T.has Has.nil ?_
            refine T.ret ?_
            have hM : windroselaw02_wakes_m = false := by subst er39; subst er34; subst er26; subst er20; subst er15; rw [windroselaw02_wakes_m, LR.seq_go, LR.seq_go, LR.seq_go, LR.seq_go, LR.seq_go, if_pos g45, if_pos g49, if_pos g53, if_pos g57, if_neg g61]
            exact fin1L (v := .bool false) [] rfl rfl (List.Sublist.refl _) ⟨rfl, by first | rw [hM] | rfl⟩
        · refine TL.off rfl rfl rfl ?_
          refine TL.off rfl rfl rfl ?_
          refine R.pkFE rfl rfl (by conv => lhs; whnf) ?_
          refine R.mvE rfl (by conv => lhs; whnf) ?_
          refine TL.off rfl rfl rfl ?_
          refine TL.off rfl rfl rfl ?_
          refine R.pkFE rfl rfl (by conv => lhs; whnf) ?_
          refine R.mvE rfl (by conv => lhs; whnf) ?_
          refine TL.off rfl rfl rfl ?_
          refine TL.off rfl rfl rfl ?_
          refine R.pkFE rfl rfl (by conv => lhs; whnf) ?_
          refine R.mvE rfl (by conv => lhs; whnf) ?_
          refine TL.off rfl rfl rfl ?_
          refine TL.off rfl rfl rfl ?_
          refine TL.off rfl rfl rfl ?_
          refine R.pkFE rfl rfl (by conv => lhs; whnf) ?_
          refine R.mvE rfl (by conv => lhs; whnf) ?_
          refine TL.off rfl rfl rfl ?_
          refine TL.off rfl rfl rfl ?_
          refine TL.off rfl rfl rfl ?_
          refine TL.off rfl rfl rfl ?_
          refine R.pkFE rfl rfl (by conv => lhs; whnf) ?_
          refine R.mvE rfl (by conv => lhs; whnf) ?_
          refine TL.off rfl rfl rfl ?_
          refine TL.off rfl rfl rfl ?_
          refine TL.off rfl rfl rfl ?_
          refine TL.off rfl rfl rfl ?_
          refine R.pkFE rfl rfl (by conv => lhs; whnf) ?_
          refine R.asE rfl (by conv => lhs; whnf) ?_
          refine TL.nil (Post.thnN ?_)
          refine T.has Has.nil ?_
          refine T.ret ?_
          have hM : windroselaw02_wakes_m = false := by subst er39; subst er34; subst er26; subst er20; subst er15; rw [windroselaw02_wakes_m, LR.seq_go, LR.seq_go, LR.seq_go, LR.seq_go, LR.seq_go, if_pos g45, if_pos g49, if_pos g53, if_neg g57]
          exact fin1L (v := .bool false) [] rfl rfl (List.Sublist.refl _) ⟨rfl, by first | rw [hM] | rfl⟩
      · refine TL.off rfl rfl rfl ?_
        refine TL.off rfl rfl rfl ?_
        refine R.pkFE rfl rfl (by conv => lhs; whnf) ?_
        refine R.mvE rfl (by conv => lhs; whnf) ?_
        refine TL.off rfl rfl rfl ?_
        refine TL.off rfl rfl rfl ?_
        refine R.pkFE rfl rfl (by conv => lhs; whnf) ?_
        refine R.mvE rfl (by conv => lhs; whnf) ?_
        refine TL.off rfl rfl rfl ?_
        refine TL.off rfl rfl rfl ?_
        refine R.pkFE rfl rfl (by conv => lhs; whnf) ?_
        refine R.mvE rfl (by conv => lhs; whnf) ?_
        refine TL.off rfl rfl rfl ?_
        refine TL.off rfl rfl rfl ?_
        refine R.pkFE rfl rfl (by conv => lhs; whnf) ?_
        refine R.mvE rfl (by conv => lhs; whnf) ?_
        refine TL.off rfl rfl rfl ?_
        refine TL.off rfl rfl rfl ?_
        refine TL.off rfl rfl rfl ?_
        refine R.pkFE rfl rfl (by conv => lhs; whnf) ?_
        refine R.mvE rfl (by conv => lhs; whnf) ?_
        refine TL.off rfl rfl rfl ?_
        refine TL.off rfl rfl rfl ?_
        refine TL.off rfl rfl rfl ?_
        refine TL.off rfl rfl rfl ?_
        refine R.pkFE rfl rfl (by conv => lhs; whnf) ?_
        refine R.mvE rfl (by conv => lhs; whnf) ?_
        refine TL.off rfl rfl rfl ?_
        refine TL.off rfl rfl rfl ?_
        refine TL.off rfl rfl rfl ?_
        refine TL.off rfl rfl rfl ?_
        refine R.pkFE rfl rfl (by conv => lhs; whnf) ?_
        refine R.asE rfl (by conv => lhs; whnf) ?_
        refine TL.nil (Post.thnN ?_)
        refine T.has Has.nil ?_
        refine T.ret ?_
        have hM : windroselaw02_wakes_m = false := by subst er39; subst er34; subst er26; subst er20; subst er15; rw [windroselaw02_wakes_m, LR.seq_go, LR.seq_go, LR.seq_go, LR.seq_go, LR.seq_go, if_pos g45, if_pos g49, if_neg g53]
        exact fin1L (v := .bool false) [] rfl rfl (List.Sublist.refl _) ⟨rfl, by first | rw [hM] | rfl⟩
    · refine TL.off rfl rfl rfl ?_
      refine TL.off rfl rfl rfl ?_
      refine R.pkFE rfl rfl (by conv => lhs; whnf) ?_
      refine R.mvE rfl (by conv => lhs; whnf) ?_
      refine TL.off rfl rfl rfl ?_
      refine TL.off rfl rfl rfl ?_
      refine R.pkFE rfl rfl (by conv => lhs; whnf) ?_
      refine R.mvE rfl (by conv => lhs; whnf) ?_
      refine TL.off rfl rfl rfl ?_
      refine TL.off rfl rfl rfl ?_
      refine R.pkFE rfl rfl (by conv => lhs; whnf) ?_
      refine R.mvE rfl (by conv => lhs; whnf) ?_
      refine TL.off rfl rfl rfl ?_
      refine TL.off rfl rfl rfl ?_
      refine R.pkFE rfl rfl (by conv => lhs; whnf) ?_
      refine R.mvE rfl (by conv => lhs; whnf) ?_
      refine TL.off rfl rfl rfl ?_
      refine TL.off rfl rfl rfl ?_
      refine R.pkFE rfl rfl (by conv => lhs; whnf) ?_
      refine R.mvE rfl (by conv => lhs; whnf) ?_
      refine TL.off rfl rfl rfl ?_
      refine TL.off rfl rfl rfl ?_
      refine TL.off rfl rfl rfl ?_
      refine R.pkFE rfl rfl (by conv => lhs; whnf) ?_
      refine R.mvE rfl (by conv => lhs; whnf) ?_
      refine TL.off rfl rfl rfl ?_
      refine TL.off rfl rfl rfl ?_
      refine TL.off rfl rfl rfl ?_
      refine TL.off rfl rfl rfl ?_
      refine R.pkFE rfl rfl (by conv => lhs; whnf) ?_
      refine R.mvE rfl (by conv => lhs; whnf) ?_
      refine TL.off rfl rfl rfl ?_
      refine TL.off rfl rfl rfl ?_
      refine TL.off rfl rfl rfl ?_
      refine TL.off rfl rfl rfl ?_
      refine R.pkFE rfl rfl (by conv => lhs; whnf) ?_
      refine R.asE rfl (by conv => lhs; whnf) ?_
      refine TL.nil (Post.thnN ?_)
      refine T.has Has.nil ?_
      refine T.ret ?_
      have hM : windroselaw02_wakes_m = false := by subst er39; subst er34; subst er26; subst er20; subst er15; rw [windroselaw02_wakes_m, LR.seq_go, LR.seq_go, LR.seq_go, LR.seq_go, LR.seq_go, if_pos g45, if_neg g49]
      exact fin1L (v := .bool false) [] rfl rfl (List.Sublist.refl _) ⟨rfl, by first | rw [hM] | rfl⟩
  · refine TL.off rfl rfl rfl ?_
    refine TL.off rfl rfl rfl ?_
    refine R.pkFE rfl rfl (by conv => lhs; whnf) ?_
    refine R.mvE rfl (by conv => lhs; whnf) ?_
    refine TL.off rfl rfl rfl ?_
    refine TL.off rfl rfl rfl ?_
    refine R.pkFE rfl rfl (by conv => lhs; whnf) ?_
    refine R.mvE rfl (by conv => lhs; whnf) ?_
    refine TL.off rfl rfl rfl ?_
    refine TL.off rfl rfl rfl ?_
    refine R.pkFE rfl rfl (by conv => lhs; whnf) ?_
    refine R.mvE rfl (by conv => lhs; whnf) ?_
    refine TL.off rfl rfl rfl ?_
    refine TL.off rfl rfl rfl ?_
    refine R.pkFE rfl rfl (by conv => lhs; whnf) ?_
    refine R.mvE rfl (by conv => lhs; whnf) ?_
    refine TL.off rfl rfl rfl ?_
    refine TL.off rfl rfl rfl ?_
    refine R.pkFE rfl rfl (by conv => lhs; whnf) ?_
    refine R.mvE rfl (by conv => lhs; whnf) ?_
    refine TL.off rfl rfl rfl ?_
    refine TL.off rfl rfl rfl ?_
    refine R.pkFE rfl rfl (by conv => lhs; whnf) ?_
    refine R.mvE rfl (by conv => lhs; whnf) ?_
    refine TL.off rfl rfl rfl ?_
    refine TL.off rfl rfl rfl ?_
    refine TL.off rfl rfl rfl ?_
    refine R.pkFE rfl rfl (by conv => lhs; whnf) ?_
    refine R.mvE rfl (by conv => lhs; whnf) ?_
    refine TL.off rfl rfl rfl ?_
    refine TL.off rfl rfl rfl ?_
    refine TL.off rfl rfl rfl ?_
    refine TL.off rfl rfl rfl ?_
    refine R.pkFE rfl rfl (by conv => lhs; whnf) ?_
    refine R.mvE rfl (by conv => lhs; whnf) ?_
    refine TL.off rfl rfl rfl ?_
    refine TL.off rfl rfl rfl ?_
    refine TL.off rfl rfl rfl ?_
    refine TL.off rfl rfl rfl ?_
    refine R.pkFE rfl rfl (by conv => lhs; whnf) ?_
    refine R.asE rfl (by conv => lhs; whnf) ?_
    refine TL.nil (Post.thnN ?_)
    refine T.has Has.nil ?_
    refine T.ret ?_
    have hM : windroselaw02_wakes_m = false := by subst er39; subst er34; subst er26; subst er20; subst er15; rw [windroselaw02_wakes_m, LR.seq_go, LR.seq_go, LR.seq_go, LR.seq_go, LR.seq_go, if_neg g45]
    exact fin1L (v := .bool false) [] rfl rfl (List.Sublist.refl _) ⟨rfl, by first | rw [hM] | rfl⟩

end Go.SX

set_option linter.unusedVariables false
set_option linter.unusedSimpArgs false
namespace Go.SX
open Go Go.Proofs

def windroselaw02_AllocMay_l4  : List Int → Nat → Unit → LR (LR (Bool) (Unit)) (Unit)
  | [], kl4, sl4 => .go ()
  | yl4 :: ysl4, kl4, sl4 => if (kl4 : Int) = 6 then (.go ()) else (LR.seq (alloc_New_m yl4) (fun r64 => LR.seq (if (1 : Int) ≤ yl4 then ((decide (yl4 ≤ 1048576))) else false : Bool) (fun sc5 => LR.seq (if sc5 = true then (LR.seq (windroseref02_New_m yl4) (fun r75 => (0, r75.1, r75.2.1, r75.2.2))) else ((2, 0, [], [])) : Int × Int × (List (Int × Bool)) × (List Int)) (fun sc6 => LR.seq (if r64.2 ≠ sc6.1 then true else ((!(windroseref02_Same_m r64.1 ((sc6.2.1, sc6.2.2.1, sc6.2.2.2))))) : Bool) (fun sc7 => if sc7 = true then (.ret (.ret false)) else (windroselaw02_AllocMay_l4 ysl4 (kl4 + 1) ()))))))
def windroselaw02_AllocMay_m (a0 : Int × (List (Int × Bool)) × (List Int)) (a1 : Int × (List (Int × Bool)) × (List Int)) (a2 : List Int) : Bool :=
  if (!windroselaw02_wakes_m) = true then false else (LR.seq (LR.seq (windroselaw02_own_m a0) (fun r19 => LR.seq (windroselaw02_own_m a1) (fun r21 => (r19.1, r19.2.1, r19.2.2, r21.1, r21.2.1, r21.2.2))) : Int × (List (Int × Bool)) × (List Int) × Int × (List (Int × Bool)) × (List Int)) (fun sc1 => LR.seq (if ((decide (((alloc_Check_m ((sc1.1, sc1.2.1, sc1.2.2.1))) : Int) = 0)) != (windroseref02_Right_m ((sc1.1, sc1.2.1, sc1.2.2.1)))) = true then true else (if ((alloc_Check_m ((sc1.1, sc1.2.1, sc1.2.2.1))) : Int) ≠ 0 then (if ((alloc_Check_m ((sc1.1, sc1.2.1, sc1.2.2.1))) : Int) ≠ 120 then true else (LR.seq (windroseref02_Same_m ((sc1.1, sc1.2.1, sc1.2.2.1)) ((sc1.2.2.2.1, sc1.2.2.2.2.1, sc1.2.2.2.2.2))) (fun r43 => if ((alloc_Same_m ((sc1.1, sc1.2.1, sc1.2.2.1)) ((sc1.2.2.2.1, sc1.2.2.2.2.1, sc1.2.2.2.2.2))) != r43) = true then true else (LR.seq (windroselaw02_own_m a0) (fun r49 => (!(alloc_Same_m ((sc1.1, sc1.2.1, sc1.2.2.1)) r49))))))) else (LR.seq (windroseref02_Same_m ((sc1.1, sc1.2.1, sc1.2.2.1)) ((sc1.2.2.2.1, sc1.2.2.2.2.1, sc1.2.2.2.2.2))) (fun r43 => if ((alloc_Same_m ((sc1.1, sc1.2.1, sc1.2.2.1)) ((sc1.2.2.2.1, sc1.2.2.2.2.1, sc1.2.2.2.2.2))) != r43) = true then true else (LR.seq (windroselaw02_own_m a0) (fun r49 => (!(alloc_Same_m ((sc1.1, sc1.2.1, sc1.2.2.1)) r49))))))) : Bool) (fun sc2 => if sc2 = true then false else (LR.on (LR.on (windroselaw02_AllocMay_l4 a2 0 ()) (fun r => r) (fun ol4 => .go ol4) : LR (Bool) (Unit)) (fun r => r) (fun sc3 => LR.seq (windroselaw02_own_m a0) (fun r88 => (windroseref02_Same_m ((sc1.1, sc1.2.1, sc1.2.2.1)) r88)))))))
end Go.SX

set_option linter.unusedVariables false
set_option linter.unusedSimpArgs false
namespace Go.SX
open Go Go.Proofs

def windroselaw02_AllocTakes_l2  : List (List Int) → Nat → (Int × (List (Int × Bool)) × (List Int)) → LR (LR (Bool) (Unit)) (Unit)
  | [], kl2, sl2 => .go ()
  | yl2 :: ysl2, kl2, sl2 => if (kl2 : Int) = 8 then (.go ()) else (LR.seq (windroselaw02_own_m ((sl2.1, sl2.2.1, sl2.2.2))) (fun r31 => LR.seq (alloc_Take_m ((sl2.1, sl2.2.1, sl2.2.2))) (fun r36 => LR.seq (if (windroseref02_Right_m ((sl2.1, sl2.2.1, sl2.2.2))) = true then (LR.seq (windroselaw02_own_m ((sl2.1, sl2.2.1, sl2.2.2))) (fun r44 => LR.seq (windroseref02_Take_m r44) (fun r45 => (r45.2.1, r45.2.2, r45.1.1, r45.1.2.1, r45.1.2.2)))) else ((0, 120, 0, [], [])) : Int × Int × Int × (List (Int × Bool)) × (List Int)) (fun sc3 => LR.seq (if r36.2.2 ≠ sc3.2.1 then true else (if r36.2.1 ≠ sc3.1 then true else ((!(windroseref02_Same_m r36.1 ((sc3.2.2.1, sc3.2.2.2.1, sc3.2.2.2.2)))))) : Bool) (fun sc4 => if sc4 = true then (.ret (.ret false)) else (LR.seq (if r36.2.2 = 0 then (LR.seq (windroselaw02_own_m ((sc3.2.2.1, sc3.2.2.2.1, sc3.2.2.2.2))) (fun r68 => LR.seq (windroselaw02_own_m ((sc3.2.2.1, sc3.2.2.2.1, sc3.2.2.2.2))) (fun r70 => (r70.1, r70.2.1, r70.2.2, r68.1, r68.2.1, r68.2.2)))) else ((r31.1, r31.2.1, r31.2.2, sl2.1, sl2.2.1, sl2.2.2)) : Int × (List (Int × Bool)) × (List Int) × Int × (List (Int × Bool)) × (List Int)) (fun sc5 => LR.seq (alloc_Give_m ((sc5.2.2.2.1, sc5.2.2.2.2.1, sc5.2.2.2.2.2)) (yl2.take ((min yl2.length 8)))) (fun r80 => LR.seq (if (windroseref02_Right_m ((sl2.1, sl2.2.1, sl2.2.2))) = true then (LR.seq (windroselaw02_own_m ((sc5.2.2.2.1, sc5.2.2.2.2.1, sc5.2.2.2.2.2))) (fun r87 => LR.seq (windroseref02_Give_m r87 (yl2.take ((min yl2.length 8)))) (fun r89 => (r89.2, r89.1.1, r89.1.2.1, r89.1.2.2)))) else ((120, 0, [], [])) : Int × Int × (List (Int × Bool)) × (List Int)) (fun sc6 => LR.seq (if r80.2 ≠ sc6.1 then true else ((!(windroseref02_Same_m r80.1 ((sc6.2.1, sc6.2.2.1, sc6.2.2.2))))) : Bool) (fun sc7 => if sc7 = true then (.ret (.ret false)) else (LR.seq (windroseref02_Same_m ((sc5.2.2.2.1, sc5.2.2.2.2.1, sc5.2.2.2.2.2)) ((sc5.1, sc5.2.1, sc5.2.2.1))) (fun r105 => if (!r105) = true then (.ret (.ret false)) else (if r80.2 = 0 then (LR.seq (windroselaw02_own_m ((sc6.2.1, sc6.2.2.1, sc6.2.2.2))) (fun r110 => windroselaw02_AllocTakes_l2 ysl2 (kl2 + 1) ((r110.1, r110.2.1, r110.2.2)))) else (windroselaw02_AllocTakes_l2 ysl2 (kl2 + 1) ((sc5.2.2.2.1, sc5.2.2.2.2.1, sc5.2.2.2.2.2))))))))))))))))
def windroselaw02_AllocTakes_m (a0 : Int × (List (Int × Bool)) × (List Int)) (a1 : List (List Int)) : Bool :=
  if (!windroselaw02_wakes_m) = true then false else (LR.seq (windroselaw02_own_m a0) (fun r20 => LR.on (LR.on (windroselaw02_AllocTakes_l2 a1 0 ((r20.1, r20.2.1, r20.2.2))) (fun r => r) (fun ol2 => .go ol2) : LR (Bool) (Unit)) (fun r => r) (fun sc1 => true)))
end Go.SX

set_option linter.unusedVariables false
set_option linter.unusedSimpArgs false
namespace Go.SX
open Go
theorem alive_m_iff {a : Al} (hs : a.2.1.length ≤ 2000000) (x : Int) : alloc_Alive_m a x = true ↔ Rt a ∧ ∃ i, AtI a i x := by
  unfold alloc_Alive_m
  by_cases h : Rt a
  · rw [if_pos ((check_iff hs).1.2 h), alive_iff h]; exact ⟨fun k => ⟨h, k⟩, fun k => k.2⟩
  · rw [if_neg (fun k => h ((check_iff hs).1.1 k))]; exact ⟨fun k => (by cases k), fun k => absurd k.1 h⟩
abbrev tS : Sl2 := (0, true)
theorem rt_a : Rt (1, [tS, tS], []) where
  m1 := by decide
  m2 := by decide
  n1 := by decide
  n2 := by decide
  al := by decide
  g := fun i s h => by
    match i, h with
    | 0, h => simp at h; subst h; exact ⟨by decide, by decide, fun _ => rfl⟩
    | 1, h => simp at h; subst h; exact ⟨by decide, by decide, fun _ => rfl⟩
    | n + 2, h => simp at h
  f := by simp [sortI, useL, useB]
theorem rt_c : Rt (1, [tS, tS, (0, false)], [3]) where
  m1 := by decide
  m2 := by decide
  n1 := by decide
  n2 := by decide
  al := by decide
  g := fun i s h => by
    match i, h with
    | 0, h => simp at h; subst h; exact ⟨by decide, by decide, fun _ => rfl⟩
    | 1, h => simp at h; subst h; exact ⟨by decide, by decide, fun _ => rfl⟩
    | 2, h => simp at h; subst h; exact ⟨by decide, by decide, fun k => absurd k (by decide)⟩
    | n + 3, h => simp at h
  f := by simp [sortI, useL, useB]
theorem wakes_true : windroselaw02_wakes_m = true := by
  have e1 : alloc_New_m 1 = ((1, [tS, tS], []), 0) := by unfold alloc_New_m; simp [LR.seq]
  have t1 : takeP (1, [tS, tS], []) = ((1, [tS, tS, tS], []), 3, 0) := by decide
  have rb : Rt (1, [tS, tS, tS], []) := by have := take_keeps rt_a (by rw [t1]); rw [t1] at this; exact this
  have t2 : takeP (1, [tS, tS, tS], []) = (noAl, 0, 6) := by decide
  have ab : alloc_alive_m (1, [tS, tS, tS], []) 3 = true := (alive_iff rb 3).2 ⟨2, 0, rfl, by decide⟩
  have g1 : alloc_Give_m (1, [tS, tS, tS], []) [3] = ((1, [tS, tS, (0, false)], [3]), 0) := by
    rw [give_rt rb]
    unfold giveP
    rw [if_pos (fun x hx => by rw [List.mem_singleton.1 hx]; exact ab), if_pos ⟨fun x hx => by rw [List.mem_singleton.1 hx]; decide, by simp⟩]
    refine Prod.ext ?_ rfl
    show giveR _ _ = _
    decide
  have t3 : takeP (1, [tS, tS, (0, false)], [3]) = ((1, [tS, tS, (1, true)], []), 4294967299, 0) := by decide
  have rd : Rt (1, [tS, tS, (1, true)], []) := by have := take_keeps rt_c (by rw [t3]); rw [t3] at this; exact this
  have a1 : alloc_Alive_m (1, [tS, tS, (1, true)], []) 4294967299 = true := (alive_m_iff (by decide) _).2 ⟨rd, 2, 1, rfl, by decide⟩
  have a2 : alloc_Alive_m (1, [tS, tS, (1, true)], []) 3 = false := by
    cases e : alloc_Alive_m (1, [tS, tS, (1, true)], []) 3 with
    | false => rfl
    | true =>
      obtain ⟨_, i, g, h1, h2⟩ := (alive_m_iff (by decide) _).1 e
      have hr := rd.rng h1
      simp only at hr
      have h3 : i = 2 ∧ g = 0 := by unfold entI at h2; omega
      obtain ⟨rfl, rfl⟩ := h3
      simp at h1
  have l1 : (alloc_All_m (1, [tS, tS, (1, true)], [])).length = 3 := by
    unfold alloc_All_m
    rw [(check_iff (by decide)).1.2 rd, if_neg (by decide)]
    simp only [LR.seq]
    rw [all_r1_len]
    unfold alloc_living_m alloc_living_1_m
    rw [List.append_nil, living_l1]; decide
  unfold windroselaw02_wakes_m
  simp only [LR.seq]
  rw [e1]
  simp only
  rw [take_rt rt_a, t1]
  simp only
  rw [take_rt rb, t2, g1]
  simp only
  rw [take_rt rt_c, t3]
  simp only
  rw [a1, a2, l1]
  simp
theorem eta3 {α β γ : Type} (p : α × β × γ) : (p.1, p.2.1, p.2.2) = p := rfl
end Go.SX

set_option linter.unusedVariables false
set_option linter.unusedSimpArgs false
namespace Go.SX
open Go Go.Proofs

def windroselaw02_AllocSees_l6 (yl4 : Int) : List Int → (Int × Bool) → Int × Bool
  | [], sl6 => (sl6.1, sl6.2)
  | yl6 :: ysl6, sl6 => if ((IntKind.i64.wrap (Int.tmod yl6 4294967296)) : Int) = (IntKind.i64.wrap ((IntKind.i64.wrap (Int.tmod yl4 64)) - 2)) then (windroselaw02_AllocSees_l6 yl4 ysl6 ((yl6, true))) else (windroselaw02_AllocSees_l6 yl4 ysl6 ((sl6.1, sl6.2)))
def windroselaw02_AllocSees_l4 (r21 : (Int × (List (Int × Bool)) × (List Int))) (x7c1 : List Int) : List Int → Nat → Unit → LR (LR (Bool) (Unit)) (Unit)
  | [], kl4, sl4 => .go ()
  | yl4 :: ysl4, kl4, sl4 => if (kl4 : Int) = 12 then (.go ()) else (LR.seq (if (windroseref02_Right_m r21) = true then (((alloc_Alive_m r21 yl4) != (windroseref02_Is_m r21 yl4))) else (((alloc_Alive_m r21 yl4) != false)) : Bool) (fun sc5 => if sc5 = true then (.ret (.ret false)) else (LR.seq (alloc_At_m r21 ((IntKind.i64.wrap ((IntKind.i64.wrap (Int.tmod yl4 64)) - 2)))) (fun r66 => LR.seq (windroselaw02_AllocSees_l6 yl4 x7c1 ((0, false))) (fun ol6 => LR.seq (if r66.1 ≠ ol6.1 then true else ((r66.2 != ol6.2)) : Bool) (fun sc7 => if sc7 = true then (.ret (.ret false)) else (windroselaw02_AllocSees_l4 r21 x7c1 ysl4 (kl4 + 1) ())))))))
def windroselaw02_AllocSees_m (a0 : Int × (List (Int × Bool)) × (List Int)) (a1 : List Int) : Bool :=
  if (!windroselaw02_wakes_m) = true then false else (LR.seq (windroselaw02_own_m a0) (fun r21 => LR.seq (if (windroseref02_Right_m r21) = true then (LR.seq (windroseref02_All_m r21) (fun r26 => (r26, (windroseref02_Room_m r21)))) else (([], 0)) : (List Int) × Int) (fun sc1 => LR.seq (LR.seq (alloc_All_m r21) (fun r30 => if ¬ (r30 = sc1.1) then true else ((decide (((alloc_Room_m r21) : Int) ≠ sc1.2)))) : Bool) (fun sc2 => if sc2 = true then false else (LR.on (LR.on (windroselaw02_AllocSees_l4 r21 sc1.1 a1 0 ()) (fun r => r) (fun ol4 => .go ol4) : LR (Bool) (Unit)) (fun r => r) (fun sc3 => LR.seq (windroselaw02_own_m a0) (fun r94 => (windroseref02_Same_m r21 r94))))))))
end Go.SX

set_option linter.unusedVariables false
set_option linter.unusedSimpArgs false
namespace Go.SX
open Go Go.Proofs

def windroselaw02_AllocGives_l4 (r29 : (Int × (List (Int × Bool)) × (List Int)) × Int) (x8l1 : List Int) : Nat → Nat → Unit → LR (Bool) (Unit)
  | 0, kl4, sl4 => .go ()
  | ml4 + 1, kl4, sl4 => LR.seq (alloc_At_m r29.1 ((kl4 : Int))) (fun r80 => LR.seq (if (r80.2 != (decide (r80.1 ∈ x8l1))) = true then true else (if r80.2 = true then ((decide (((IntKind.i64.wrap (Int.tmod r80.1 4294967296)) : Int) ≠ (kl4 : Int)))) else false) : Bool) (fun sc5 => if sc5 = true then (.ret false) else (windroselaw02_AllocGives_l4 r29 x8l1 ml4 (kl4 + 1) ())))
def windroselaw02_AllocGives_l2 (r19 : (Int × (List (Int × Bool)) × (List Int))) (r29 : (Int × (List (Int × Bool)) × (List Int)) × Int) : List Int → Unit → LR (Bool) (Unit)
  | [], sl2 => .go ()
  | yl2 :: ysl2, sl2 => LR.seq (if (!(alloc_Alive_m r19 yl2)) = true then true else ((alloc_Alive_m r29.1 yl2)) : Bool) (fun sc3 => if sc3 = true then (.ret false) else (windroselaw02_AllocGives_l2 r19 r29 ysl2 ()))
def windroselaw02_AllocGives_l1 (x25 : List Int) : List Int → ((List Int)) → (List Int)
  | [], sl1 => sl1
  | yl1 :: ysl1, sl1 => if ¬ (yl1 ∈ x25) then (windroselaw02_AllocGives_l1 x25 ysl1 ((sl1 ++ [yl1]))) else (windroselaw02_AllocGives_l1 x25 ysl1 sl1)
def windroselaw02_AllocGives_m (a0 : Int × (List (Int × Bool)) × (List Int)) (a1 : List Int) : Bool :=
  if (!windroselaw02_wakes_m) = true then false else (LR.seq (windroselaw02_own_m a0) (fun r19 => LR.seq (alloc_Give_m r19 (a1.take ((min a1.length 12)))) (fun r29 => if r29.2 ≠ 0 then ((decide ((r29.1.2.1.length : Int) = 0))) else (LR.seq (alloc_All_m r19) (fun r39 => LR.seq (windroselaw02_AllocGives_l1 (a1.take ((min a1.length 12))) r39 []) (fun ol1 => LR.on (windroselaw02_AllocGives_l2 r19 r29 (a1.take ((min a1.length 12))) ()) (fun r => r) (fun ol2 => LR.on (windroselaw02_AllocGives_l4 r29 ol1 (((((r29.1.2.1.length : Int) + 2)).toNat) - 0) 0 ()) (fun r => r) (fun ol4 => LR.seq (alloc_All_m r29.1) (fun r100 => if r100 = ol1 then ((decide (((alloc_Check_m r29.1) : Int) = 0))) else false)))))))))
end Go.SX

set_option linter.unusedVariables false
set_option linter.unusedSimpArgs false
namespace Go.SX
open Go
/-- those that are alive, by their places -/
def allL : List Sl2 → Nat → List Int
  | [], _ => []
  | y :: ys, k => if y.2 then entI ((k : Int) + 1) y.1 :: allL ys (k + 1) else allL ys (k + 1)
theorem all_r1 : ∀ (l : List (Int × Sl2)) (acc : List Int), alloc_All_r1 l acc = acc ++ l.map (fun y => (ident_Entity_m y.1 y.2.1).1)
  | [], acc => by simp [alloc_All_r1]
  | y :: ys, acc => by rw [alloc_All_r1, LR.seq_go, all_r1 ys]; simp
theorem living_map {a : Al} (h : Rt a) : ∀ (l : List Sl2) (k : Nat), l = a.2.1.drop k → (alloc_living_1_l1 l k ()).map (fun y => (ident_Entity_m y.1 y.2.1).1) = allL l k
  | [], k, _ => rfl
  | y :: ys, k, e => by
    have hk : k < a.2.1.length := by
      rcases Nat.lt_or_ge k a.2.1.length with h | h
      · exact h
      · rw [List.drop_eq_nil_iff.2 h] at e; cases e
    rw [List.drop_eq_getElem_cons hk] at e
    injection e with e1 e2
    have hy : a.2.1[k]? = some y := by rw [List.getElem?_eq_getElem hk, e1]
    obtain ⟨r1, r2⟩ := h.rng hy
    rw [alloc_living_1_l1, allL]
    cases hb : y.2 with
    | true => rw [if_pos rfl, if_pos rfl, List.map_cons, living_map h ys (k + 1) e2, entity_ok r1 r2]
    | false => rw [if_neg Bool.false_ne_true, if_neg Bool.false_ne_true, living_map h ys (k + 1) e2]
theorem all_rt {a : Al} (h : Rt a) : alloc_All_m a = allL a.2.1 0 := by
  have hn := h.n2
  have hm := h.m2
  unfold alloc_All_m
  rw [(check_iff (by omega)).1.2 h, if_neg (by decide), LR.seq_go, LR.seq_go, all_r1, List.nil_append]
  unfold alloc_living_m alloc_living_1_m
  rw [List.append_nil]
  exact living_map h a.2.1 0 rfl
theorem all_not {a : Al} (hs : a.2.1.length ≤ 2000000) (h : ¬ Rt a) : alloc_All_m a = [] := by
  unfold alloc_All_m
  rw [if_pos (fun k => h ((check_iff hs).1.1 k))]
end Go.SX

set_option linter.unusedVariables false
set_option linter.unusedSimpArgs false
namespace Go.SX
open Go
theorem allL_len : ∀ (l : List Sl2) (k : Nat), (allL l k).length = aliveN l
  | [], k => rfl
  | y :: ys, k => by
    rw [allL]
    cases h : y.2 with
    | true => rw [if_pos rfl, List.length_cons, allL_len ys]; simp [aliveN, h]
    | false => rw [if_neg Bool.false_ne_true, allL_len ys]; simp [aliveN, h]
end Go.SX

set_option linter.unusedVariables false
set_option linter.unusedSimpArgs false
namespace Go.SX
open Go
def roomI (a : Al) : Int := min (a.1 - ((aliveN a.2.1 : Int) - 2)) ((a.2.2.length : Int) + a.1 + 2 - a.2.1.length)
theorem room_rt {a : Al} (h : Rt a) : alloc_Room_m a = roomI a := by
  have h1 := h.n2
  have h2 := h.m2
  have h3 := h.flen
  have h4 := h.m1
  have h5 := h.n1
  have h6 := aliveN_le a.2.1
  unfold alloc_Room_m
  rw [if_neg (fun k => k ((check_iff (by omega)).1.2 h)), many_eq (by omega)]
  rw [wrap_i64 (x := a.1 - ((aliveN a.2.1 : Int) - 2)) (by omega) (by omega)]
  try rw [wrap_i64 (x := (a.2.2.length : Int) + a.1) (by omega) (by omega)]
  try rw [wrap_i64 (x := (a.2.2.length : Int) + a.1 + 2) (by omega) (by omega)]
  try rw [wrap_i64 (x := (a.2.2.length : Int) + a.1 + 2 - a.2.1.length) (by omega) (by omega)]
  unfold roomI
  split <;> omega
theorem room_not {a : Al} (hs : a.2.1.length ≤ 2000000) (h : ¬ Rt a) : alloc_Room_m a = 0 := by
  unfold alloc_Room_m
  rw [if_pos (fun k => h ((check_iff hs).1.1 k))]
/-- What a Take that goes well does. -/
structure Tk (a b : Al) (x : Int) : Prop where
  most : b.1 = a.1
  at_ : ∃ (j : Nat) (g : Int), 2 ≤ j ∧ b.2.1[j]? = some (g, true) ∧ x = entI ((j : Int) + 1) g ∧ (∀ i, i ≠ j → b.2.1[i]? = a.2.1[i]?) ∧ ((a.2.1[j]? = none ∧ g = 0) ∨ (a.2.1[j]? = some (g - 1, false)))
  alive : aliveN b.2.1 = aliveN a.2.1 + 1
  room : roomI b = roomI a - 1
theorem aliveN_set : ∀ {l : List Sl2} {j : Nat} {g g' : Int}, l[j]? = some (g, false) → aliveN (l.set j (g', true)) = aliveN l + 1
  | [], j, g, g', h => by simp at h
  | y :: ys, 0, g, g', h => by
    simp at h; subst h
    simp [aliveN]
  | y :: ys, j + 1, g, g', h => by
    have := aliveN_set (l := ys) (j := j) (g := g) (g' := g') (by simpa using h)
    unfold aliveN at this ⊢
    rw [List.set_cons_succ, List.countP_cons, List.countP_cons, this]; omega
theorem take_ok {a : Al} (h : Rt a) (h0 : (takeP a).2.2 = 0) : Tk a (takeP a).1 (takeP a).2.1 := by
  have h1 := h.n2
  have h3 := h.flen
  have h5 := h.n1
  unfold takeP at h0 ⊢
  by_cases c1 : (aliveN a.2.1 : Int) - 2 = a.1
  · rw [if_pos c1] at h0; simp at h0
  rw [if_neg c1] at h0 ⊢
  by_cases c2 : a.2.2.length = 0
  · rw [if_pos c2] at h0 ⊢
    by_cases c3 : (a.2.1.length : Int) < a.1 + 2
    · rw [if_pos c3]
      have ea : aliveN (a.2.1 ++ [(0, true)]) = aliveN a.2.1 + 1 := by simp [aliveN]
      refine ⟨rfl, ⟨a.2.1.length, 0, by omega, by simp, by unfold entI; simp, fun i hi => ?_, .inl ⟨by simp, rfl⟩⟩, ea, ?_⟩
      · show (a.2.1 ++ [(0, true)])[i]? = a.2.1[i]?
        rcases Nat.lt_or_ge i a.2.1.length with h6 | h6
        · rw [List.getElem?_append_left h6]
        · rw [List.getElem?_eq_none (l := a.2.1) h6, List.getElem?_eq_none]
          rw [List.length_append, List.length_singleton]; omega
      · unfold roomI
        simp only [ea, List.length_append, List.length_cons, List.length_nil]
        omega
    · rw [if_neg c3] at h0; simp at h0
  · rw [if_neg c2]
    obtain ⟨j, g, e1, e2, e3, e4, e5, e6⟩ := h.last c2
    have hj := (List.getElem?_eq_some_iff.1 e2).1
    have et : (lastF a - 1).toNat = j := by omega
    rw [et, e6, e1]
    have ea : aliveN (a.2.1.set j (g + 1, true)) = aliveN a.2.1 + 1 := aliveN_set e2
    refine ⟨rfl, ⟨j, g + 1, e5, List.getElem?_set_self hj, rfl, fun i hi => List.getElem?_set_ne (fun k => hi k.symm), .inr (by rw [e2, show g + 1 - 1 = g by omega])⟩, ea, ?_⟩
    unfold roomI
    simp only [ea, List.length_set, List.length_take]
    omega
theorem take_room {a : Al} (h : Rt a) : 0 ≤ roomI a ∧ ((takeP a).2.2 = 0 ↔ 0 < roomI a) ∧ ((takeP a).2.2 = 0 ∨ ((takeP a).2.2 = 6) ∨ ((takeP a).2.2 = 121 ∧ (aliveN a.2.1 : Int) < a.1 + 2)) := by
  have h1 := h.n2
  have h3 := h.flen
  have h4 := h.al
  unfold takeP roomI
  by_cases c1 : (aliveN a.2.1 : Int) - 2 = a.1
  · rw [if_pos c1]
    refine ⟨by omega, ⟨fun k => (by simp at k), fun k => by omega⟩, .inr (.inl rfl)⟩
  rw [if_neg c1]
  by_cases c2 : a.2.2.length = 0
  · rw [if_pos c2]
    by_cases c3 : (a.2.1.length : Int) < a.1 + 2
    · rw [if_pos c3]; exact ⟨by omega, ⟨fun k => by omega, fun k => rfl⟩, .inl rfl⟩
    · rw [if_neg c3]; exact ⟨by omega, ⟨fun k => (by simp at k), fun k => by omega⟩, .inr (.inr ⟨rfl, by omega⟩)⟩
  · rw [if_neg c2]; exact ⟨by omega, ⟨fun k => by omega, fun k => rfl⟩, .inl rfl⟩
theorem Tk.alive_new {a b : Al} {x : Int} (t : Tk a b x) (hb : Rt b) : alloc_alive_m b x = true := by
  obtain ⟨j, g, _, h1, h2, _⟩ := t.at_
  exact (alive_iff hb x).2 ⟨j, g, h1, h2⟩
theorem Tk.not_old {a b : Al} {x : Int} (t : Tk a b x) (ha : Rt a) (hb : Rt b) : alloc_alive_m a x = false := by
  obtain ⟨j, g, _, h1, h2, h3, h4⟩ := t.at_
  cases e : alloc_alive_m a x with
  | false => rfl
  | true =>
    obtain ⟨i, g', h5, h6⟩ := (alive_iff ha x).1 e
    have r1 := hb.rng h1
    have r2 := ha.rng h5
    simp only at r1 r2
    have : i = j ∧ g' = g := by rw [h2] at h6; unfold entI at h6; omega
    obtain ⟨rfl, rfl⟩ := this
    rcases h4 with ⟨h4, _⟩ | h4
    · rw [h4] at h5; cases h5
    · rw [h4] at h5; simp at h5
theorem aliveN_all {a : Al} (h : Rt a) : (alloc_All_m a).length = aliveN a.2.1 := by rw [all_rt h, allL_len]
theorem Alive_rt {a : Al} (h : Rt a) (x : Int) : alloc_Alive_m a x = alloc_alive_m a x := by
  have h1 := h.n2
  have h2 := h.m2
  unfold alloc_Alive_m
  rw [if_pos ((check_iff (by omega)).1.2 h)]
end Go.SX

set_option linter.unusedVariables false
set_option linter.unusedSimpArgs false
namespace Go.SX
open Go Go.Proofs

def windroselaw02_AllocRoom_l2  : Nat → Nat → (Int × (List (Int × Bool)) × (List Int)) → LR (Bool) (Int × (List (Int × Bool)) × (List Int))
  | 0, kl2, sl2 => .go ((sl2.1, sl2.2.1, sl2.2.2))
  | ml2 + 1, kl2, sl2 => LR.seq (alloc_Take_m ((sl2.1, sl2.2.1, sl2.2.2))) (fun r43 => LR.seq (if r43.2.2 ≠ 0 then true else (if (alloc_Alive_m ((sl2.1, sl2.2.1, sl2.2.2)) r43.2.1) = true then true else ((!(alloc_Alive_m r43.1 r43.2.1)))) : Bool) (fun sc3 => if sc3 = true then (.ret false) else (windroselaw02_AllocRoom_l2 ml2 (kl2 + 1) ((r43.1.1, r43.1.2.1, r43.1.2.2)))))
def windroselaw02_AllocRoom_m (a0 : Int × (List (Int × Bool)) × (List Int)) : Bool :=
  if (!windroselaw02_wakes_m) = true then false else (LR.seq (windroselaw02_own_m a0) (fun r14 => if ((alloc_Check_m r14) : Int) ≠ 0 then (if ((alloc_Room_m r14) : Int) = 0 then (LR.seq (alloc_All_m r14) (fun r23 => (decide ((r23.length : Int) = 0)))) else false) else (LR.seq (if (60 : Int) < r14.1 then (((if ((r14.2.1.length : Int) - 2) < 1 then 1 else ((r14.2.1.length : Int) - 2)), r14.2.1, r14.2.2)) else ((r14.1, r14.2.1, r14.2.2)) : Int × (List (Int × Bool)) × (List Int)) (fun sc1 => LR.on (windroselaw02_AllocRoom_l2 ((((alloc_Room_m ((sc1.1, sc1.2.1, sc1.2.2)))).toNat) - 0) 0 ((sc1.1, sc1.2.1, sc1.2.2))) (fun r => r) (fun ol2 => LR.seq (alloc_Take_m ((ol2.1, ol2.2.1, ol2.2.2))) (fun r64 => if r64.2.2 = 6 then true else (if r64.2.2 = 121 then (LR.seq (alloc_All_m ((ol2.1, ol2.2.1, ol2.2.2))) (fun r75 => (decide ((r75.length : Int) < (IntKind.i64.wrap (ol2.1 + 2)))))) else false)))))))
set_option maxHeartbeats 3200000 in
theorem windroselaw02_AllocRoom_c (H : Heap) {tG0 : TypeId} (hG0 : H 0 = some (.cells #[.int .i64 0, .bool true] tG0)) (a0 : Int × (List (Int × Bool)) × (List Int)) (va0_1 : Value) (ha0_1 : RdS slotE H va0_1 a0.2.1) (va0_2 : Value) (ha0_2 : RdS (intE .i64) H va0_2 a0.2.2) : Fv Tryd.prog (fnv 6) [.agg #[.int .i64 a0.1, va0_1, va0_2]] H (.bool (windroselaw02_AllocRoom_m a0)) := by
  refine Fc.of_body (N := 83) Tryd.func6 rfl (by kernel_rfl) rfl rfl ?_
  intro w0
  obtain ⟨Aa0_1, ca0_1, rfl, hca0_1, hda0_1, ha0_1⟩ := ha0_1.shape
  obtain ⟨Aa0_2, ca0_2, rfl, hca0_2, hda0_2, ha0_2⟩ := ha0_2.shape
  refine T.seq ?_
  refine T.region ?_
  refine R.box rfl (by conv => lhs; whnf) ?_
  intro b1
  refine R.asE rfl (by conv => lhs; whnf) ?_
  refine TL.shut .hd ?_
  intro Hb1_1 sb1_1 qb1_1
  have hb1_1 : Hb1_1 b1 = some (.cells #[.int .i64 (a0.1), .slice Aa0_1 a0.2.1.length ca0_1, .slice Aa0_2 a0.2.2.length ca0_2] 25) := shut1 qb1_1
  refine TL.nil (Post.thnN ?_)
  refine T.seq ?_
  refine T.seq ?_
  refine T.region ?_
  refine R.callv rfl rfl rfl (windroselaw02_wakes_c _ (sb1_1 _ _ hG0)) ?_
  refine R.not rfl rfl ?_
  refine TL.nil (Post.thnN ?_)
  refine T.cond rfl (fun c12 => ?_) (fun c12 => ?_)
  · refine T.set 12 (.bool true) (congrArg Value.bool c12) ?_
    refine T.seq ?_
    refine T.region ?_
    refine R.asE rfl (by conv => lhs; whnf) ?_
    refine TL.nil (Post.thnN ?_)
    refine T.has Has.nil ?_
    refine T.ret (Post.thnR ?_)
    have hM : windroselaw02_AllocRoom_m a0 = false := by rw [windroselaw02_AllocRoom_m, if_t c12]
    exact fin1L (v := .bool false) [] rfl rfl (List.Sublist.refl _) ⟨rfl, by first | rw [hM] | rfl⟩
  · refine T.set 12 (.bool false) (congrArg Value.bool c12) ?_
    refine T.skip (Post.thnN ?_)
    refine T.seq ?_
    refine T.region ?_
    refine R.ldXH (cs := [.int .i64 (a0.1), .slice Aa0_1 a0.2.1.length ca0_1, .slice Aa0_2 a0.2.2.length ca0_2]) (l := [.int .i64 (a0.1), .slice Aa0_1 a0.2.1.length ca0_1, .slice Aa0_2 a0.2.2.length ca0_2]) Tryd.isAgg25 Tryd.sizeOf25 rfl rfl hb1_1 rfl rfl ?_
    obtain ⟨r14, er14⟩ : ∃ r, r = (windroselaw02_own_m a0) := ⟨_, rfl⟩
    refine TL.call [] rfl rfl rfl (windroselaw02_own_c _ a0 _ (ha0_1.mono sb1_1) _ (ha0_2.mono sb1_1)) ?_
    intro v14 H14 L14 s14 q14
    rw [← er14] at q14
    obtain ⟨u14_0_1, u14_0_2, c14_0_1, c14_0_2, rfl, rfl, w14_0_1, w14_0_2⟩ := q14
    obtain ⟨A14_0_1, p14_0_1, rfl, m14_0_1, n14_0_1⟩ := OwnS.shape w14_0_1
    obtain ⟨A14_0_2, p14_0_2, rfl, m14_0_2, n14_0_2⟩ := OwnS.shape w14_0_2
    have ta14 : r14.2.1.length ≤ 40 := by rw [er14]; simp only [windroselaw02_own_m, List.length_take]; omega
    have tb14 : r14.2.2.length ≤ 40 := by rw [er14]; simp only [windroselaw02_own_m, List.length_take]; omega
    refine R.alloc Tryd.zeroValue25 rfl ?_
    intro b3
    refine R.stX (old := [.int .i64 0, .slice none 0 0, .slice none 0 0]) (l := [.int .i64 (r14.1), .slice A14_0_1 r14.2.1.length p14_0_1, .slice A14_0_2 r14.2.2.length p14_0_2]) (new := [.int .i64 (r14.1), .slice A14_0_1 r14.2.1.length p14_0_1, .slice A14_0_2 r14.2.2.length p14_0_2]) (et := 25) Tryd.sizeOf25 rfl rfl rfl rfl rfl (by show 0 + 3 ≤ 3; decide) rfl (all_one rfl) .hd ?_
    refine TL.nil (Post.thnN ?_)
    refine T.seq ?_
    refine T.seq ?_
    refine T.region ?_
    refine R.ldX (cs := [.int .i64 (r14.1), .slice A14_0_1 r14.2.1.length p14_0_1, .slice A14_0_2 r14.2.2.length p14_0_2]) (l := [.int .i64 (r14.1), .slice A14_0_1 r14.2.1.length p14_0_1, .slice A14_0_2 r14.2.2.length p14_0_2]) Tryd.isAgg25 Tryd.sizeOf25 rfl rfl .hd rfl rfl ?_
    refine TL.shut (.tl .hd) ?_
    intro HF14_0_1_2 sF14_0_1_2 qF14_0_1_2
    have fF14_0_1_2 := OwnS.read w14_0_1 sF14_0_1_2 qF14_0_1_2
    refine TL.shut (.tl .hd) ?_
    intro HF14_0_2_3 sF14_0_2_3 qF14_0_2_3
    have fF14_0_2_3 := OwnS.read (OwnS.mono w14_0_2 sF14_0_1_2) sF14_0_2_3 qF14_0_2_3
    refine R.callv rfl rfl rfl (alloc_Check_c _ ((sb1_1.trans (s14.trans (sF14_0_1_2.trans sF14_0_2_3))) _ _ hG0) r14 _ (fF14_0_1_2.mono sF14_0_2_3) _ fF14_0_2_3 (by first | omega | (simp; done) | (simp; omega) | (simp at *; omega)) (by first | omega | (simp; done) | (simp; omega) | (simp at *; omega))) ?_
    refine R.neq rfl rfl rfl ?_
    refine TL.nil (Post.thnN ?_)
    refine T.condD rfl (fun c17 => ?_) (fun c17 => ?_)
    · refine T.set 17 (.bool true) (congrArg Value.bool (decide_eq_true c17)) ?_
      refine T.seq ?_
      refine T.region ?_
      refine R.ldX (cs := [.int .i64 (r14.1), .slice A14_0_1 r14.2.1.length p14_0_1, .slice A14_0_2 r14.2.2.length p14_0_2]) (l := [.int .i64 (r14.1), .slice A14_0_1 r14.2.1.length p14_0_1, .slice A14_0_2 r14.2.2.length p14_0_2]) Tryd.isAgg25 Tryd.sizeOf25 rfl rfl .hd rfl rfl ?_
      refine R.callv rfl rfl rfl (alloc_Room_c _ ((sb1_1.trans (s14.trans (sF14_0_1_2.trans sF14_0_2_3))) _ _ hG0) r14 _ (fF14_0_1_2.mono sF14_0_2_3) _ fF14_0_2_3 (by first | omega | (simp; done) | (simp; omega) | (simp at *; omega)) (by first | omega | (simp; done) | (simp; omega) | (simp at *; omega))) ?_
      refine R.eql rfl rfl rfl ?_
      refine R.mvE rfl (by conv => lhs; whnf) ?_
      refine TL.gsplitD 21 rfl (fun g21 => ?_) (fun g21 => ?_)
      · refine R.ldX (cs := [.int .i64 (r14.1), .slice A14_0_1 r14.2.1.length p14_0_1, .slice A14_0_2 r14.2.2.length p14_0_2]) (l := [.int .i64 (r14.1), .slice A14_0_1 r14.2.1.length p14_0_1, .slice A14_0_2 r14.2.2.length p14_0_2]) Tryd.isAgg25 Tryd.sizeOf25 rfl rfl .hd rfl rfl ?_
        obtain ⟨r23, er23⟩ : ∃ r, r = (alloc_All_m r14) := ⟨_, rfl⟩
        refine TL.call [] rfl rfl rfl (alloc_All_c _ ((sb1_1.trans (s14.trans (sF14_0_1_2.trans sF14_0_2_3))) _ _ hG0) r14 _ (fF14_0_1_2.mono sF14_0_2_3) _ fF14_0_2_3 (by first | omega | (simp; done) | (simp; omega) | (simp at *; omega)) (by first | omega | (simp; done) | (simp; omega) | (simp at *; omega))) ?_
        intro v23 H23 L23 s23 q23
        rw [← er23] at q23
        obtain ⟨u23_0_0, c23_0_0, rfl, rfl, w23_0_0⟩ := q23
        obtain ⟨A23_0_0, p23_0_0, rfl, m23_0_0, n23_0_0⟩ := OwnS.shape w23_0_0
        have ta23 : r23.length ≤ 2000000 := by rw [er23]; exact all_len (by first | omega | (simp; done) | (simp; omega) | (simp at *; omega))
        refine R.len Tryd.underlying29 rfl rfl ?_
        refine R.eql rfl rfl rfl ?_
        refine R.pkTE rfl rfl (by conv => lhs; whnf) ?_
        refine R.asE rfl (by conv => lhs; whnf) ?_
        refine TL.nil (Post.thnN ?_)
        refine T.has Has.nil ?_
        refine T.ret (Post.thnR ?_)
        have hM : windroselaw02_AllocRoom_m a0 = (decide ((r23.length : Int) = 0)) := by subst er23; subst er14; rw [windroselaw02_AllocRoom_m, if_f c12, LR.seq_go, if_pos c17, if_pos g21, LR.seq_go]
        exact fin1L (v := .bool (decide ((r23.length : Int) = 0))) [] rfl rfl (List.Sublist.refl _) ⟨rfl, by first | rw [hM] | rfl⟩
      · refine TL.off rfl rfl rfl ?_
        refine TL.off rfl rfl rfl ?_
        refine TL.off rfl rfl rfl ?_
        refine TL.off rfl rfl rfl ?_
        refine R.pkFE rfl rfl (by conv => lhs; whnf) ?_
        refine R.asE rfl (by conv => lhs; whnf) ?_
        refine TL.nil (Post.thnN ?_)
        refine T.has Has.nil ?_
        refine T.ret (Post.thnR ?_)
        have hM : windroselaw02_AllocRoom_m a0 = false := by subst er14; rw [windroselaw02_AllocRoom_m, if_f c12, LR.seq_go, if_pos c17, if_neg g21]
        exact fin1L (v := .bool false) [] rfl rfl (List.Sublist.refl _) ⟨rfl, by first | rw [hM] | rfl⟩
    · refine T.set 17 (.bool false) (congrArg Value.bool (decide_eq_false c17)) ?_
      refine T.skip (Post.thnN ?_)
      refine T.seq ?_
      refine T.seq ?_
      refine T.region ?_
      refine R.fldA Tryd.underlying25 rfl Tryd.sizeOf3 (by decide) rfl rfl ?_
      refine R.ld Tryd.isAgg3 rfl rfl .hd rfl ?_
      refine R.gtr rfl rfl rfl ?_
      refine TL.nil (Post.thnN ?_)
      refine T.cutK (ι := Int × Value × (List (Int × Bool)) × Value × (List Int)) (fun ⟨nb3c1_0, vb3c1_1, xb3c1_1, vb3c1_2, xb3c1_2⟩ H' L' ds' => Has L' [[(b3, .cells #[.int .i64 nb3c1_0, vb3c1_1, vb3c1_2] 25)]] ∧ RdS slotE H' vb3c1_1 xb3c1_1 ∧ RdS (intE .i64) H' vb3c1_2 xb3c1_2 ∧ xb3c1_1.length ≤ 40 ∧ xb3c1_2.length ≤ 40 ∧ (if (60 : Int) < r14.1 then (((if ((r14.2.1.length : Int) - 2) < 1 then 1 else ((r14.2.1.length : Int) - 2)), r14.2.1, r14.2.2)) else ((r14.1, r14.2.1, r14.2.2)) : Int × (List (Int × Bool)) × (List Int)) = (nb3c1_0, xb3c1_1, xb3c1_2)) (fun ⟨nb3c1_0, vb3c1_1, xb3c1_1, vb3c1_2, xb3c1_2⟩ => [(3, .pointer (some ⟨b3, 0, none⟩))]) ?_ ?_
      · refine T.condD rfl (fun c29 => ?_) (fun c29 => ?_)
        · refine T.set 29 (.bool true) (congrArg Value.bool (decide_eq_true c29)) ?_
          refine T.region ?_
          refine R.fldA Tryd.underlying25 rfl Tryd.sizeOf22 (by decide) rfl rfl ?_
          refine R.ld Tryd.isAgg22 rfl rfl .hd rfl ?_
          refine R.len Tryd.underlying22 rfl rfl ?_
          refine R.subI rfl rfl rfl (by omega) ?_
          refine R.max2 rfl rfl rfl ?_
          refine R.fldA Tryd.underlying25 rfl Tryd.sizeOf3 (by decide) rfl rfl ?_
          refine R.stX (old := [.int .i64 (r14.1), .slice A14_0_1 r14.2.1.length p14_0_1, .slice A14_0_2 r14.2.2.length p14_0_2]) (l := [.int .i64 (if ((r14.2.1.length : Int) - 2) < 1 then 1 else ((r14.2.1.length : Int) - 2))]) (new := [.int .i64 (if ((r14.2.1.length : Int) - 2) < 1 then 1 else ((r14.2.1.length : Int) - 2)), .slice A14_0_1 r14.2.1.length p14_0_1, .slice A14_0_2 r14.2.2.length p14_0_2]) (et := 25) Tryd.sizeOf3 rfl rfl rfl (cells1 rfl) rfl (by show 0 + 1 ≤ 3; decide) rfl (all_one rfl) .hd ?_
          refine TL.nil (Post.thnN ?_)
          exact ⟨((if ((r14.2.1.length : Int) - 2) < 1 then 1 else ((r14.2.1.length : Int) - 2)), .slice A14_0_1 r14.2.1.length p14_0_1, r14.2.1, .slice A14_0_2 r14.2.2.length p14_0_2, r14.2.2), HLe.refl _, ⟨(Has.cons .hd Has.nil), (fF14_0_1_2.mono sF14_0_2_3), fF14_0_2_3, (by first | omega | (simp; done) | (simp; omega) | (simp at *; omega)), (by first | omega | (simp; done) | (simp; omega) | (simp at *; omega)), (by rw [if_pos c29])⟩, rfl, trivial⟩
        · refine T.set 29 (.bool false) (congrArg Value.bool (decide_eq_false c29)) ?_
          refine T.skip (Post.thnN ?_)
          exact ⟨(r14.1, .slice A14_0_1 r14.2.1.length p14_0_1, r14.2.1, .slice A14_0_2 r14.2.2.length p14_0_2, r14.2.2), HLe.refl _, ⟨(Has.cons .hd Has.nil), (fF14_0_1_2.mono sF14_0_2_3), fF14_0_2_3, (by first | omega | (simp; done) | (simp; omega) | (simp at *; omega)), (by first | omega | (simp; done) | (simp; omega) | (simp at *; omega)), (by rw [if_neg c29])⟩, rfl, trivial⟩
      · intro ⟨nb3c1_0, vb3c1_1, xb3c1_1, vb3c1_2, xb3c1_2⟩ σ_c1 H_c1 L_c1 ds_c1 s_c1 hI_c1
        obtain ⟨hLc1, wb3c1_1, wb3c1_2, hBc1_0, hBc1_1, hTc1⟩ := hI_c1
        obtain ⟨Ab3c1_1, pb3c1_1, rfl, mb3c1_1, nb3c1_1_, wb3c1_1⟩ := RdS.shape wb3c1_1
        obtain ⟨Ab3c1_2, pb3c1_2, rfl, mb3c1_2, nb3c1_2_, wb3c1_2⟩ := RdS.shape wb3c1_2
        refine T.has hLc1 ?_
        refine T.seq ?_
        refine T.region ?_
        refine R.ldX (cs := [.int .i64 nb3c1_0, .slice Ab3c1_1 xb3c1_1.length pb3c1_1, .slice Ab3c1_2 xb3c1_2.length pb3c1_2]) (l := [.int .i64 nb3c1_0, .slice Ab3c1_1 xb3c1_1.length pb3c1_1, .slice Ab3c1_2 xb3c1_2.length pb3c1_2]) Tryd.isAgg25 Tryd.sizeOf25 rfl rfl .hd rfl rfl ?_
        refine R.callv rfl rfl rfl (alloc_Room_c _ ((sb1_1.trans (s14.trans (sF14_0_1_2.trans (sF14_0_2_3.trans s_c1)))) _ _ hG0) ((nb3c1_0, xb3c1_1, xb3c1_2)) _ wb3c1_1 _ wb3c1_2 (by first | omega | (simp; done) | (simp; omega) | (simp at *; omega)) (by first | omega | (simp; done) | (simp; omega) | (simp at *; omega))) ?_
        refine R.asE rfl (by conv => lhs; whnf) ?_
        refine TL.nil (Post.thnN ?_)
        refine T.seq ?_
        refine T.seq ?_
        refine T.region ?_
        refine R.mvE rfl (by conv => lhs; whnf) ?_
        refine R.mvE rfl (by conv => lhs; whnf) ?_
        refine TL.nil (Post.thnN ?_)
        refine T.block ?_
        refine T.loop (ι := Nat × Int × Value × (List (Int × Bool)) × Value × (List Int)) (fun ⟨kl2, nb3l2_0, vb3l2_1, xb3l2_1, vb3l2_2, xb3l2_2⟩ H' L' ds' => kl2 ≤ ((alloc_Room_m ((nb3c1_0, xb3c1_1, xb3c1_2)))).toNat ∧ Has L' [[(b3, .cells #[.int .i64 nb3l2_0, vb3l2_1, vb3l2_2] 25)]] ∧ RdS slotE H' vb3l2_1 xb3l2_1 ∧ RdS (intE .i64) H' vb3l2_2 xb3l2_2 ∧ xb3l2_1.length ≤ 1100000 ∧ xb3l2_2.length ≤ 1100000 ∧ windroselaw02_AllocRoom_l2 ((((alloc_Room_m ((nb3c1_0, xb3c1_1, xb3c1_2)))).toNat) - kl2) kl2 ((nb3l2_0, xb3l2_1, xb3l2_2)) = windroselaw02_AllocRoom_l2 ((((alloc_Room_m ((nb3c1_0, xb3c1_1, xb3c1_2)))).toNat) - 0) 0 ((nb3c1_0, xb3c1_1, xb3c1_2))) (fun ⟨kl2, nb3l2_0, vb3l2_1, xb3l2_1, vb3l2_2, xb3l2_2⟩ => [(39, .int .i64 (kl2 : Int)), (3, .pointer (some ⟨b3, 0, none⟩)), (38, .int .i64 (alloc_Room_m ((nb3c1_0, xb3c1_1, xb3c1_2))))]) (fun ⟨kl2, nb3l2_0, vb3l2_1, xb3l2_1, vb3l2_2, xb3l2_2⟩ => (((alloc_Room_m ((nb3c1_0, xb3c1_1, xb3c1_2)))).toNat) - kl2) (0, nb3c1_0, .slice Ab3c1_1 xb3c1_1.length pb3c1_1, xb3c1_1, .slice Ab3c1_2 xb3c1_2.length pb3c1_2, xb3c1_2) ?_ ?_ ?_
        · exact ⟨(by omega), (Has.cons .hd Has.nil), wb3c1_1, wb3c1_2, (by first | omega | (simp; done) | (simp; omega) | (simp at *; omega)), (by first | omega | (simp; done) | (simp; omega) | (simp at *; omega)), (by rfl)⟩
        · exact ⟨rfl, rfl, rfl, trivial⟩
        · intro ⟨kl2, nb3l2_0, vb3l2_1, xb3l2_1, vb3l2_2, xb3l2_2⟩ σ_l2 H_l2 L_l2 ds_l2 s_l2 hI_l2
          obtain ⟨hkl2, hI_l2⟩ := hI_l2
          obtain ⟨hLl2, wb3l2_1, wb3l2_2, hBl2_0, hBl2_1, hQl2⟩ := hI_l2
          obtain ⟨Ab3l2_1, pb3l2_1, rfl, mb3l2_1, nb3l2_1_, wb3l2_1⟩ := RdS.shape wb3l2_1
          obtain ⟨Ab3l2_2, pb3l2_2, rfl, mb3l2_2, nb3l2_2_, wb3l2_2⟩ := RdS.shape wb3l2_2
          refine T.has hLl2 ?_
          refine T.seq ?_
          refine T.region ?_
          refine R.lss rfl rfl rfl ?_
          refine TL.nil (Post.thnN ?_)
          refine T.seq ?_
          refine T.condD rfl (fun c40 => ?_) (fun c40 => ?_)
          · have hltl2 : kl2 < ((alloc_Room_m ((nb3c1_0, xb3c1_1, xb3c1_2)))).toNat := by omega
            have hrm := room_le (a := (nb3c1_0, xb3c1_1, xb3c1_2)) (by first | omega | (simp; done) | (simp; omega) | (simp at *; omega))
            refine T.skip (Post.thnN ?_)
            refine T.seq ?_
            refine T.block ?_
            refine T.seq ?_
            refine T.region ?_
            refine R.ldX (cs := [.int .i64 nb3l2_0, .slice Ab3l2_1 xb3l2_1.length pb3l2_1, .slice Ab3l2_2 xb3l2_2.length pb3l2_2]) (l := [.int .i64 nb3l2_0, .slice Ab3l2_1 xb3l2_1.length pb3l2_1, .slice Ab3l2_2 xb3l2_2.length pb3l2_2]) Tryd.isAgg25 Tryd.sizeOf25 rfl rfl .hd rfl rfl ?_
            obtain ⟨r43, er43⟩ : ∃ r, r = (alloc_Take_m ((nb3l2_0, xb3l2_1, xb3l2_2))) := ⟨_, rfl⟩
            refine TL.call [] rfl rfl rfl (alloc_Take_c _ ((sb1_1.trans (s14.trans (sF14_0_1_2.trans (sF14_0_2_3.trans (s_c1.trans s_l2))))) _ _ hG0) ((nb3l2_0, xb3l2_1, xb3l2_2)) _ wb3l2_1 _ wb3l2_2 (by first | omega | (simp; done) | (simp; omega) | (simp at *; omega)) (by first | omega | (simp; done) | (simp; omega) | (simp at *; omega))) ?_
            intro v43 H43 L43 s43 q43
            rw [← er43] at q43
            obtain ⟨u43_0_1, u43_0_2, c43_0_1, c43_0_2, rfl, rfl, w43_0_1, w43_0_2⟩ := q43
            obtain ⟨A43_0_1, p43_0_1, rfl, m43_0_1, n43_0_1⟩ := OwnS.shape w43_0_1
            obtain ⟨A43_0_2, p43_0_2, rfl, m43_0_2, n43_0_2⟩ := OwnS.shape w43_0_2
            have tt43 : r43.1.2.1.length ≤ 1100000 ∧ r43.1.2.2.length ≤ 1100000 := by rw [er43]; exact take_len (by first | omega | (simp; done) | (simp; omega) | (simp at *; omega))
            refine R.mvE rfl (by conv => lhs; whnf) ?_
            refine R.ext rfl rfl rfl ?_
            refine R.ext rfl rfl rfl ?_
            refine R.ext rfl rfl rfl ?_
            refine R.alloc Tryd.zeroValue25 rfl ?_
            intro b5
            refine R.stX (old := [.int .i64 0, .slice none 0 0, .slice none 0 0]) (l := [.int .i64 (r43.1.1), .slice A43_0_1 r43.1.2.1.length p43_0_1, .slice A43_0_2 r43.1.2.2.length p43_0_2]) (new := [.int .i64 (r43.1.1), .slice A43_0_1 r43.1.2.1.length p43_0_1, .slice A43_0_2 r43.1.2.2.length p43_0_2]) (et := 25) Tryd.sizeOf25 rfl rfl rfl rfl rfl (by show 0 + 3 ≤ 3; decide) rfl (all_one rfl) .hd ?_
            refine R.asE rfl (by conv => lhs; whnf) ?_
            refine R.asE rfl (by conv => lhs; whnf) ?_
            refine TL.shut (.tl .hd) ?_
            intro HF43_0_1_4 sF43_0_1_4 qF43_0_1_4
            have fF43_0_1_4 := OwnS.read w43_0_1 sF43_0_1_4 qF43_0_1_4
            refine TL.shut (.tl .hd) ?_
            intro HF43_0_2_5 sF43_0_2_5 qF43_0_2_5
            have fF43_0_2_5 := OwnS.read (OwnS.mono w43_0_2 sF43_0_1_4) sF43_0_2_5 qF43_0_2_5
            refine TL.shut .hd ?_
            intro Hb5_6 sb5_6 qb5_6
            have hb5_6 : Hb5_6 b5 = some (.cells #[.int .i64 (r43.1.1), .slice A43_0_1 r43.1.2.1.length p43_0_1, .slice A43_0_2 r43.1.2.2.length p43_0_2] 25) := shut1 qb5_6
            refine TL.nil (Post.thnN ?_)
            refine T.seq ?_
            refine T.seq ?_
            refine T.cutK (ι := Bool) (fun b59c3 H' L' ds' => Has L' [[(b3, .cells #[.int .i64 nb3l2_0, .slice Ab3l2_1 xb3l2_1.length pb3l2_1, .slice Ab3l2_2 xb3l2_2.length pb3l2_2] 25)]] ∧ (if r43.2.2 ≠ 0 then true else (if (alloc_Alive_m ((nb3l2_0, xb3l2_1, xb3l2_2)) r43.2.1) = true then true else ((!(alloc_Alive_m r43.1 r43.2.1)))) : Bool) = b59c3) (fun b59c3 => [(3, .pointer (some ⟨b3, 0, none⟩)), (5, .pointer (some ⟨b5, 0, none⟩)), (38, .int .i64 (alloc_Room_m ((nb3c1_0, xb3c1_1, xb3c1_2)))), (39, .int .i64 (kl2 : Int)), (59, .bool (b59c3))]) ?_ ?_
            · refine T.region ?_
              refine R.mvE rfl (by conv => lhs; whnf) ?_
              refine R.neq rfl rfl rfl ?_
              refine R.mvE rfl (by conv => lhs; whnf) ?_
              refine TL.gsplitD 49 rfl (fun g49 => ?_) (fun g49 => ?_)
              · refine TL.off rfl rfl rfl ?_
                refine TL.off rfl rfl rfl ?_
                refine TL.off rfl rfl rfl ?_
                refine R.pkTE rfl rfl (by conv => lhs; whnf) ?_
                refine R.mvE rfl (by conv => lhs; whnf) ?_
                refine TL.off rfl rfl rfl ?_
                refine TL.off rfl rfl rfl ?_
                refine TL.off rfl rfl rfl ?_
                refine TL.off rfl rfl rfl ?_
                refine R.pkTE rfl rfl (by conv => lhs; whnf) ?_
                refine TL.nil (Post.thnN ?_)
                exact ⟨true, HLe.refl _, ⟨(Has.cons .hd Has.nil), (by rw [if_pos g49])⟩, rfl, rfl, rfl, rfl, rfl, trivial⟩
              · refine R.ldX (cs := [.int .i64 nb3l2_0, .slice Ab3l2_1 xb3l2_1.length pb3l2_1, .slice Ab3l2_2 xb3l2_2.length pb3l2_2]) (l := [.int .i64 nb3l2_0, .slice Ab3l2_1 xb3l2_1.length pb3l2_1, .slice Ab3l2_2 xb3l2_2.length pb3l2_2]) Tryd.isAgg25 Tryd.sizeOf25 rfl rfl .hd rfl rfl ?_
                refine R.mvE rfl (by conv => lhs; whnf) ?_
                refine R.callv rfl rfl rfl (alloc_Alive_c _ ((sb1_1.trans (s14.trans (sF14_0_1_2.trans (sF14_0_2_3.trans (s_c1.trans (s_l2.trans (s43.trans (sF43_0_1_4.trans (sF43_0_2_5.trans sb5_6))))))))) _ _ hG0) ((nb3l2_0, xb3l2_1, xb3l2_2)) _ (wb3l2_1.mono (s43.trans (sF43_0_1_4.trans (sF43_0_2_5.trans sb5_6)))) _ (wb3l2_2.mono (s43.trans (sF43_0_1_4.trans (sF43_0_2_5.trans sb5_6)))) (r43.2.1) (by first | omega | (simp; done) | (simp; omega) | (simp at *; omega)) (by first | omega | (simp; done) | (simp; omega) | (simp at *; omega))) ?_
                refine R.pkFE rfl rfl (by conv => lhs; whnf) ?_
                refine R.mvE rfl (by conv => lhs; whnf) ?_
                refine TL.gsplit 54 rfl (fun g54 => ?_) (fun g54 => ?_)
                · refine TL.off rfl rfl rfl ?_
                  refine TL.off rfl rfl rfl ?_
                  refine TL.off rfl rfl rfl ?_
                  refine TL.off rfl rfl rfl ?_
                  refine R.pkTE rfl rfl (by conv => lhs; whnf) ?_
                  refine TL.nil (Post.thnN ?_)
                  exact ⟨true, HLe.refl _, ⟨(Has.cons .hd Has.nil), (by rw [if_neg g49, if_t g54])⟩, rfl, rfl, rfl, rfl, rfl, trivial⟩
                · refine R.ldXH (cs := [.int .i64 (r43.1.1), .slice A43_0_1 r43.1.2.1.length p43_0_1, .slice A43_0_2 r43.1.2.2.length p43_0_2]) (l := [.int .i64 (r43.1.1), .slice A43_0_1 r43.1.2.1.length p43_0_1, .slice A43_0_2 r43.1.2.2.length p43_0_2]) Tryd.isAgg25 Tryd.sizeOf25 rfl rfl hb5_6 rfl rfl ?_
                  refine R.mvE rfl (by conv => lhs; whnf) ?_
                  refine R.callv rfl rfl rfl (alloc_Alive_c _ ((sb1_1.trans (s14.trans (sF14_0_1_2.trans (sF14_0_2_3.trans (s_c1.trans (s_l2.trans (s43.trans (sF43_0_1_4.trans (sF43_0_2_5.trans sb5_6))))))))) _ _ hG0) r43.1 _ (fF43_0_1_4.mono (sF43_0_2_5.trans sb5_6)) _ (fF43_0_2_5.mono sb5_6) (r43.2.1) (by first | omega | (simp; done) | (simp; omega) | (simp at *; omega)) (by first | omega | (simp; done) | (simp; omega) | (simp at *; omega))) ?_
                  refine R.not rfl rfl ?_
                  refine R.pkFE rfl rfl (by conv => lhs; whnf) ?_
                  refine TL.nil (Post.thnN ?_)
                  exact ⟨(!(alloc_Alive_m r43.1 r43.2.1)), HLe.refl _, ⟨(Has.cons .hd Has.nil), (by rw [if_neg g49, if_f g54])⟩, rfl, rfl, rfl, rfl, rfl, trivial⟩
            · intro b59c3 σ_c3 H_c3 L_c3 ds_c3 s_c3 hI_c3
              obtain ⟨hLc3, hTc3⟩ := hI_c3
              refine T.has hLc3 ?_
              refine T.cond rfl (fun c59 => ?_) (fun c59 => ?_)
              · refine T.set 59 (.bool true) (congrArg Value.bool c59) ?_
                have hZ59 := hTc3.trans c59
                try simp only [or_f, or_t, and_f, and_t, decide_eq_true_eq, decide_eq_false_iff_not, Bool.not_eq_true'] at hZ59
                refine T.seq ?_
                refine T.region ?_
                refine R.asE rfl (by conv => lhs; whnf) ?_
                refine TL.nil (Post.thnN ?_)
                refine T.has Has.nil ?_
                refine T.ret (Post.thnR (Post.blkR (Post.thnR (Post.thnR (Post.blkR (Post.thnR ?_))))))
                have hXl2 : windroselaw02_AllocRoom_l2 ((((alloc_Room_m ((nb3c1_0, xb3c1_1, xb3c1_2)))).toNat) - 0) 0 ((nb3c1_0, xb3c1_1, xb3c1_2)) = .ret false := by subst er43; rw [← hQl2, show ((alloc_Room_m ((nb3c1_0, xb3c1_1, xb3c1_2)))).toNat - kl2 = (((alloc_Room_m ((nb3c1_0, xb3c1_1, xb3c1_2)))).toNat - (kl2 + 1)) + 1 by omega, windroselaw02_AllocRoom_l2]; rw [LR.seq_go, hTc3, LR.seq_go, if_t c59]
                have hM : windroselaw02_AllocRoom_m a0 = false := by subst er14; rw [windroselaw02_AllocRoom_m, if_f c12, LR.seq_go, if_neg c17, hTc1, LR.seq_go, hXl2, LR.on_ret]
                exact fin1L (v := .bool false) [] rfl rfl (List.Sublist.refl _) ⟨rfl, by first | rw [hM] | rfl⟩
              · refine T.set 59 (.bool false) (congrArg Value.bool c59) ?_
                have hZ59 := hTc3.trans c59
                try simp only [or_f, or_t, and_f, and_t, decide_eq_true_eq, decide_eq_false_iff_not, Bool.not_eq_true'] at hZ59
                refine T.skip (Post.thnN ?_)
                refine T.region ?_
                refine R.ldXH (cs := [.int .i64 (r43.1.1), .slice A43_0_1 r43.1.2.1.length p43_0_1, .slice A43_0_2 r43.1.2.2.length p43_0_2]) (l := [.int .i64 (r43.1.1), .slice A43_0_1 r43.1.2.1.length p43_0_1, .slice A43_0_2 r43.1.2.2.length p43_0_2]) Tryd.isAgg25 Tryd.sizeOf25 rfl rfl (s_c3 _ _ hb5_6) rfl rfl ?_
                refine R.stX (old := [.int .i64 nb3l2_0, .slice Ab3l2_1 xb3l2_1.length pb3l2_1, .slice Ab3l2_2 xb3l2_2.length pb3l2_2]) (l := [.int .i64 (r43.1.1), .slice A43_0_1 r43.1.2.1.length p43_0_1, .slice A43_0_2 r43.1.2.2.length p43_0_2]) (new := [.int .i64 (r43.1.1), .slice A43_0_1 r43.1.2.1.length p43_0_1, .slice A43_0_2 r43.1.2.2.length p43_0_2]) (et := 25) Tryd.sizeOf25 rfl rfl rfl rfl rfl (by show 0 + 3 ≤ 3; decide) rfl (all_one rfl) .hd ?_
                refine TL.nil (Post.blkN ?_)
                refine id (Post.thnN ?_)
                refine T.region ?_
                refine R.addI rfl rfl rfl (by omega) ?_
                refine R.mvE rfl (by conv => lhs; whnf) ?_
                refine TL.nil (Post.thnN ?_)
                exact ⟨(kl2 + 1, r43.1.1, .slice A43_0_1 r43.1.2.1.length p43_0_1, r43.1.2.1, .slice A43_0_2 r43.1.2.2.length p43_0_2, r43.1.2.2), (s_l2.trans (s43.trans (sF43_0_1_4.trans (sF43_0_2_5.trans (sb5_6.trans s_c3))))), ⟨(by omega), (Has.cons .hd Has.nil), (fF43_0_1_4.mono (sF43_0_2_5.trans (sb5_6.trans s_c3))), (fF43_0_2_5.mono (sb5_6.trans s_c3)), (by first | omega | (simp; done) | (simp; omega) | (simp at *; omega)), (by first | omega | (simp; done) | (simp; omega) | (simp at *; omega)), (by subst er43; rw [← hQl2, show ((alloc_Room_m ((nb3c1_0, xb3c1_1, xb3c1_2)))).toNat - kl2 = (((alloc_Room_m ((nb3c1_0, xb3c1_1, xb3c1_2)))).toNat - (kl2 + 1)) + 1 by omega, windroselaw02_AllocRoom_l2]; rw [LR.seq_go, hTc3, LR.seq_go, if_f c59])⟩, by show (((alloc_Room_m ((nb3c1_0, xb3c1_1, xb3c1_2)))).toNat) - (kl2 + 1) < (((alloc_Room_m ((nb3c1_0, xb3c1_1, xb3c1_2)))).toNat) - kl2; omega, rfl, rfl, rfl, trivial⟩
          · refine T.exit (Post.thnE (Post.thnE (Post.blkX ?_)))
            have hEl2 : windroselaw02_AllocRoom_l2 ((((alloc_Room_m ((nb3c1_0, xb3c1_1, xb3c1_2)))).toNat) - 0) 0 ((nb3c1_0, xb3c1_1, xb3c1_2)) = .go ((nb3l2_0, xb3l2_1, xb3l2_2)) := (hQl2.symm.trans (by rw [show kl2 = ((alloc_Room_m ((nb3c1_0, xb3c1_1, xb3c1_2)))).toNat by omega, Nat.sub_self, windroselaw02_AllocRoom_l2]))
            refine id (Post.thnN ?_)
            refine T.seq ?_
            refine T.region ?_
            refine R.ldX (cs := [.int .i64 nb3l2_0, .slice Ab3l2_1 xb3l2_1.length pb3l2_1, .slice Ab3l2_2 xb3l2_2.length pb3l2_2]) (l := [.int .i64 nb3l2_0, .slice Ab3l2_1 xb3l2_1.length pb3l2_1, .slice Ab3l2_2 xb3l2_2.length pb3l2_2]) Tryd.isAgg25 Tryd.sizeOf25 rfl rfl .hd rfl rfl ?_
            obtain ⟨r64, er64⟩ : ∃ r, r = (alloc_Take_m ((nb3l2_0, xb3l2_1, xb3l2_2))) := ⟨_, rfl⟩
            refine TL.call [] rfl rfl rfl (alloc_Take_c _ ((sb1_1.trans (s14.trans (sF14_0_1_2.trans (sF14_0_2_3.trans (s_c1.trans s_l2))))) _ _ hG0) ((nb3l2_0, xb3l2_1, xb3l2_2)) _ wb3l2_1 _ wb3l2_2 (by first | omega | (simp; done) | (simp; omega) | (simp at *; omega)) (by first | omega | (simp; done) | (simp; omega) | (simp at *; omega))) ?_
            intro v64 H64 L64 s64 q64
            rw [← er64] at q64
            obtain ⟨u64_0_1, u64_0_2, c64_0_1, c64_0_2, rfl, rfl, w64_0_1, w64_0_2⟩ := q64
            obtain ⟨A64_0_1, p64_0_1, rfl, m64_0_1, n64_0_1⟩ := OwnS.shape w64_0_1
            obtain ⟨A64_0_2, p64_0_2, rfl, m64_0_2, n64_0_2⟩ := OwnS.shape w64_0_2
            have tt64 : r64.1.2.1.length ≤ 1100000 ∧ r64.1.2.2.length ≤ 1100000 := by rw [er64]; exact take_len (by first | omega | (simp; done) | (simp; omega) | (simp at *; omega))
            refine R.mvE rfl (by conv => lhs; whnf) ?_
            refine R.ext rfl rfl rfl ?_
            refine R.ext rfl rfl rfl ?_
            refine R.ext rfl rfl rfl ?_
            refine R.alloc Tryd.zeroValue25 rfl ?_
            intro b8
            refine R.stX (old := [.int .i64 0, .slice none 0 0, .slice none 0 0]) (l := [.int .i64 (r64.1.1), .slice A64_0_1 r64.1.2.1.length p64_0_1, .slice A64_0_2 r64.1.2.2.length p64_0_2]) (new := [.int .i64 (r64.1.1), .slice A64_0_1 r64.1.2.1.length p64_0_1, .slice A64_0_2 r64.1.2.2.length p64_0_2]) (et := 25) Tryd.sizeOf25 rfl rfl rfl rfl rfl (by show 0 + 3 ≤ 3; decide) rfl (all_one rfl) .hd ?_
            refine R.asE rfl (by conv => lhs; whnf) ?_
            refine R.asE rfl (by conv => lhs; whnf) ?_
            refine TL.shut (.tl .hd) ?_
            intro HF64_0_1_7 sF64_0_1_7 qF64_0_1_7
            have fF64_0_1_7 := OwnS.read w64_0_1 sF64_0_1_7 qF64_0_1_7
            refine TL.shut (.tl .hd) ?_
            intro HF64_0_2_8 sF64_0_2_8 qF64_0_2_8
            have fF64_0_2_8 := OwnS.read (OwnS.mono w64_0_2 sF64_0_1_7) sF64_0_2_8 qF64_0_2_8
            refine TL.shut .hd ?_
            intro Hb8_9 sb8_9 qb8_9
            have hb8_9 : Hb8_9 b8 = some (.cells #[.int .i64 (r64.1.1), .slice A64_0_1 r64.1.2.1.length p64_0_1, .slice A64_0_2 r64.1.2.2.length p64_0_2] 25) := shut1 qb8_9
            refine TL.nil (Post.thnN ?_)
            refine T.seq ?_
            refine T.draw Tryd_mixed (by kernel_rfl) ?_
            refine Plan.v 0 [1, 2, 3, 4, 5, 6, 7, 8, 9, 10, 11, 12, 13, 14, 15] (by kernel_rfl) (by kernel_rfl) (by kernel_rfl) (by kernel_rfl) rfl (fun _ _ h_ => R.mvE rfl (by conv => lhs; whnf) (TL.nil h_)) ?_
            refine Plan.v 1 [2, 3, 4, 5, 6, 7, 8, 9, 10, 11, 12, 13, 14, 15] (by kernel_rfl) (by kernel_rfl) (by kernel_rfl) (by kernel_rfl) rfl (fun _ _ h_ => R.eql rfl rfl rfl (TL.nil h_)) ?_
            refine Plan.v 2 [3, 4, 5, 6, 7, 8, 9, 10, 11, 12, 13, 14, 15] (by kernel_rfl) (by kernel_rfl) (by kernel_rfl) (by kernel_rfl) rfl (fun _ _ h_ => R.mvE rfl (by conv => lhs; whnf) (TL.nil h_)) ?_
            refine Plan.gsplitD 70 rfl (fun g70 => ?_) (fun g70 => ?_)
            · refine Plan.v 3 [4, 5, 6, 7, 8, 9, 10, 11, 12, 13, 14, 15] (by kernel_rfl) (by kernel_rfl) (by kernel_rfl) (by kernel_rfl) rfl (fun _ _ h_ => TL.off rfl rfl rfl (TL.nil h_)) ?_
              refine Plan.v 4 [5, 6, 7, 8, 9, 10, 11, 12, 13, 14, 15] (by kernel_rfl) (by kernel_rfl) (by kernel_rfl) (by kernel_rfl) rfl (fun _ _ h_ => TL.off rfl rfl rfl (TL.nil h_)) ?_
              refine Plan.v 5 [6, 7, 8, 9, 10, 11, 12, 13, 14, 15] (by kernel_rfl) (by kernel_rfl) (by kernel_rfl) (by kernel_rfl) rfl (fun _ _ h_ => TL.off rfl rfl rfl (TL.nil h_)) ?_
              refine Plan.v 6 [7, 8, 9, 10, 11, 12, 13, 14, 15] (by kernel_rfl) (by kernel_rfl) (by kernel_rfl) (by kernel_rfl) rfl (fun _ _ h_ => TL.offU rfl rfl (TL.nil h_)) ?_
              refine Plan.v 7 [8, 9, 10, 11, 12, 13, 14, 15] (by kernel_rfl) (by kernel_rfl) (by kernel_rfl) (by kernel_rfl) rfl (fun _ _ h_ => TL.offU rfl rfl (TL.nil h_)) ?_
              refine Plan.v 8 [9, 10, 11, 12, 13, 14, 15] (by kernel_rfl) (by kernel_rfl) (by kernel_rfl) (by kernel_rfl) rfl (fun _ _ h_ => TL.offU rfl rfl (TL.nil h_)) ?_
              refine Plan.v 9 [10, 11, 12, 13, 14, 15] (by kernel_rfl) (by kernel_rfl) (by kernel_rfl) (by kernel_rfl) rfl (fun _ _ h_ => TL.offU rfl rfl (TL.nil h_)) ?_
              refine Plan.v 10 [11, 12, 13, 14, 15] (by kernel_rfl) (by kernel_rfl) (by kernel_rfl) (by kernel_rfl) rfl (fun _ _ h_ => TL.offU rfl rfl (TL.nil h_)) ?_
              refine Plan.v 11 [12, 13, 14, 15] (by kernel_rfl) (by kernel_rfl) (by kernel_rfl) (by kernel_rfl) rfl (fun _ _ h_ => TL.offU rfl rfl (TL.nil h_)) ?_
              refine Plan.v 12 [13, 14, 15] (by kernel_rfl) (by kernel_rfl) (by kernel_rfl) (by kernel_rfl) rfl (fun _ _ h_ => TL.offU rfl rfl (TL.nil h_)) ?_
              refine Plan.v 13 [14, 15] (by kernel_rfl) (by kernel_rfl) (by kernel_rfl) (by kernel_rfl) rfl (fun _ _ h_ => TL.off rfl rfl rfl (TL.nil h_)) ?_
              refine Plan.v 14 [15] (by kernel_rfl) (by kernel_rfl) (by kernel_rfl) (by kernel_rfl) rfl (fun _ _ h_ => R.pkTE rfl rfl (by conv => lhs; whnf) (TL.nil h_)) ?_
              refine Plan.v 15 [] (by kernel_rfl) (by kernel_rfl) (by kernel_rfl) (by kernel_rfl) rfl (fun _ _ h_ => R.asE rfl (by conv => lhs; whnf) (TL.nil h_)) ?_
              refine Plan.done (Post.thnN ?_)
              refine T.has Has.nil ?_
              refine T.ret ?_
              have hM : windroselaw02_AllocRoom_m a0 = true := by subst er64; subst er14; rw [windroselaw02_AllocRoom_m, if_f c12, LR.seq_go, if_neg c17, hTc1, LR.seq_go, hEl2, LR.on_go, LR.seq_go, if_pos g70]
              exact fin1L (v := .bool true) [] rfl rfl (List.Sublist.refl _) ⟨rfl, by first | rw [hM] | rfl⟩
            · refine Plan.v 3 [4, 5, 6, 7, 8, 9, 10, 11, 12, 13, 14, 15] (by kernel_rfl) (by kernel_rfl) (by kernel_rfl) (by kernel_rfl) rfl (fun _ _ h_ => R.mvE rfl (by conv => lhs; whnf) (TL.nil h_)) ?_
              refine Plan.v 4 [5, 6, 7, 8, 9, 10, 11, 12, 13, 14, 15] (by kernel_rfl) (by kernel_rfl) (by kernel_rfl) (by kernel_rfl) rfl (fun _ _ h_ => R.eql rfl rfl rfl (TL.nil h_)) ?_
              refine Plan.v 5 [6, 7, 8, 9, 10, 11, 12, 13, 14, 15] (by kernel_rfl) (by kernel_rfl) (by kernel_rfl) (by kernel_rfl) rfl (fun _ _ h_ => R.mvE rfl (by conv => lhs; whnf) (TL.nil h_)) ?_
              refine Plan.gsplitD 73 rfl (fun g73 => ?_) (fun g73 => ?_)
              · refine Plan.v 9 [6, 7, 8, 10, 11, 12, 13, 14, 15] (by kernel_rfl) (by kernel_rfl) (by kernel_rfl) (by kernel_rfl) rfl (fun _ _ h_ => R.fldA Tryd.underlying25 rfl Tryd.sizeOf3 (by decide) rfl rfl (TL.nil h_)) ?_
                refine Plan.s2 6 10 [7, 8, 10, 11, 12, 13, 14, 15] [6, 7, 8, 11, 12, 13, 14, 15] (by kernel_rfl) (by kernel_rfl) (by kernel_rfl) rfl rfl ?_ ?_
                · refine R.ldX (cs := [.int .i64 nb3l2_0, .slice Ab3l2_1 xb3l2_1.length pb3l2_1, .slice Ab3l2_2 xb3l2_2.length pb3l2_2]) (l := [.int .i64 nb3l2_0, .slice Ab3l2_1 xb3l2_1.length pb3l2_1, .slice Ab3l2_2 xb3l2_2.length pb3l2_2]) Tryd.isAgg25 Tryd.sizeOf25 rfl rfl .hd rfl rfl ?_
                  refine TL.nil (Plan.e1 (HLe.refl _) ?_)
                  refine Plan.s2 7 10 [8, 10, 11, 12, 13, 14, 15] [7, 8, 11, 12, 13, 14, 15] (by kernel_rfl) (by kernel_rfl) (by kernel_rfl) rfl rfl ?_ ?_
                  · obtain ⟨r75, er75⟩ : ∃ r, r = (alloc_All_m ((nb3l2_0, xb3l2_1, xb3l2_2))) := ⟨_, rfl⟩
                    refine TL.call [] rfl rfl rfl (alloc_All_c _ ((sb1_1.trans (s14.trans (sF14_0_1_2.trans (sF14_0_2_3.trans (s_c1.trans (s_l2.trans (s64.trans (sF64_0_1_7.trans (sF64_0_2_8.trans sb8_9))))))))) _ _ hG0) ((nb3l2_0, xb3l2_1, xb3l2_2)) _ (wb3l2_1.mono (s64.trans (sF64_0_1_7.trans (sF64_0_2_8.trans sb8_9)))) _ (wb3l2_2.mono (s64.trans (sF64_0_1_7.trans (sF64_0_2_8.trans sb8_9)))) (by first | omega | (simp; done) | (simp; omega) | (simp at *; omega)) (by first | omega | (simp; done) | (simp; omega) | (simp at *; omega))) ?_
                    intro v75 H75 L75 s75 q75
                    rw [← er75] at q75
                    obtain ⟨u75_0_0, c75_0_0, rfl, rfl, w75_0_0⟩ := q75
                    obtain ⟨A75_0_0, p75_0_0, rfl, m75_0_0, n75_0_0⟩ := OwnS.shape w75_0_0
                    have ta75 : r75.length ≤ 2000000 := by rw [er75]; exact all_len (by first | omega | (simp; done) | (simp; omega) | (simp at *; omega))
                    refine TL.nil (Plan.e1 (s75) ?_)
                    refine Plan.v 8 [10, 11, 12, 13, 14, 15] (by kernel_rfl) (by kernel_rfl) (by kernel_rfl) (by kernel_rfl) rfl (fun _ _ h_ => R.len Tryd.underlying29 rfl rfl (TL.nil h_)) ?_
                    refine Plan.s1 10 [11, 12, 13, 14, 15] (by kernel_rfl) (by kernel_rfl) rfl ?_
                    refine R.ld Tryd.isAgg3 rfl rfl (.tl .hd) rfl ?_
                    refine TL.nil (Plan.e1 (HLe.refl _) ?_)
                    refine Plan.v 11 [12, 13, 14, 15] (by kernel_rfl) (by kernel_rfl) (by kernel_rfl) (by kernel_rfl) rfl (fun _ _ h_ => R.add rfl rfl rfl (TL.nil h_)) ?_
                    refine Plan.v 12 [13, 14, 15] (by kernel_rfl) (by kernel_rfl) (by kernel_rfl) (by kernel_rfl) rfl (fun _ _ h_ => R.lss rfl rfl rfl (TL.nil h_)) ?_
                    refine Plan.v 13 [14, 15] (by kernel_rfl) (by kernel_rfl) (by kernel_rfl) (by kernel_rfl) rfl (fun _ _ h_ => R.pkTE rfl rfl (by conv => lhs; whnf) (TL.nil h_)) ?_
                    refine Plan.v 14 [15] (by kernel_rfl) (by kernel_rfl) (by kernel_rfl) (by kernel_rfl) rfl (fun _ _ h_ => R.pkFE rfl rfl (by conv => lhs; whnf) (TL.nil h_)) ?_
                    refine Plan.v 15 [] (by kernel_rfl) (by kernel_rfl) (by kernel_rfl) (by kernel_rfl) rfl (fun _ _ h_ => R.asE rfl (by conv => lhs; whnf) (TL.nil h_)) ?_
                    refine Plan.done (Post.thnN ?_)
                    refine T.has Has.nil ?_
                    refine T.ret ?_
                    have hM : windroselaw02_AllocRoom_m a0 = (decide ((r75.length : Int) < (IntKind.i64.wrap (nb3l2_0 + 2)))) := by subst er75; subst er64; subst er14; rw [windroselaw02_AllocRoom_m, if_f c12, LR.seq_go, if_neg c17, hTc1, LR.seq_go, hEl2, LR.on_go, LR.seq_go, if_neg g70, if_pos g73, LR.seq_go]
                    exact fin1L (v := .bool (decide ((r75.length : Int) < (IntKind.i64.wrap (nb3l2_0 + 2))))) [] rfl rfl (List.Sublist.refl _) ⟨rfl, by first | rw [hM] | rfl⟩
                  · refine R.ld Tryd.isAgg3 rfl rfl .hd rfl ?_
                    refine TL.nil (Plan.e1 (HLe.refl _) ?_)
                    refine Plan.v 11 [7, 8, 12, 13, 14, 15] (by kernel_rfl) (by kernel_rfl) (by kernel_rfl) (by kernel_rfl) rfl (fun _ _ h_ => R.add rfl rfl rfl (TL.nil h_)) ?_
                    refine Plan.s1 7 [8, 12, 13, 14, 15] (by kernel_rfl) (by kernel_rfl) rfl ?_
                    obtain ⟨r75, er75⟩ : ∃ r, r = (alloc_All_m ((nb3l2_0, xb3l2_1, xb3l2_2))) := ⟨_, rfl⟩
                    refine TL.call [] rfl rfl rfl (alloc_All_c _ ((sb1_1.trans (s14.trans (sF14_0_1_2.trans (sF14_0_2_3.trans (s_c1.trans (s_l2.trans (s64.trans (sF64_0_1_7.trans (sF64_0_2_8.trans sb8_9))))))))) _ _ hG0) ((nb3l2_0, xb3l2_1, xb3l2_2)) _ (wb3l2_1.mono (s64.trans (sF64_0_1_7.trans (sF64_0_2_8.trans sb8_9)))) _ (wb3l2_2.mono (s64.trans (sF64_0_1_7.trans (sF64_0_2_8.trans sb8_9)))) (by first | omega | (simp; done) | (simp; omega) | (simp at *; omega)) (by first | omega | (simp; done) | (simp; omega) | (simp at *; omega))) ?_
                    intro v75 H75 L75 s75 q75
                    rw [← er75] at q75
                    obtain ⟨u75_0_0, c75_0_0, rfl, rfl, w75_0_0⟩ := q75
                    obtain ⟨A75_0_0, p75_0_0, rfl, m75_0_0, n75_0_0⟩ := OwnS.shape w75_0_0
                    have ta75 : r75.length ≤ 2000000 := by rw [er75]; exact all_len (by first | omega | (simp; done) | (simp; omega) | (simp at *; omega))
                    refine TL.nil (Plan.e1 (s75) ?_)
                    refine Plan.v 8 [12, 13, 14, 15] (by kernel_rfl) (by kernel_rfl) (by kernel_rfl) (by kernel_rfl) rfl (fun _ _ h_ => R.len Tryd.underlying29 rfl rfl (TL.nil h_)) ?_
                    refine Plan.v 12 [13, 14, 15] (by kernel_rfl) (by kernel_rfl) (by kernel_rfl) (by kernel_rfl) rfl (fun _ _ h_ => R.lss rfl rfl rfl (TL.nil h_)) ?_
                    refine Plan.v 13 [14, 15] (by kernel_rfl) (by kernel_rfl) (by kernel_rfl) (by kernel_rfl) rfl (fun _ _ h_ => R.pkTE rfl rfl (by conv => lhs; whnf) (TL.nil h_)) ?_
                    refine Plan.v 14 [15] (by kernel_rfl) (by kernel_rfl) (by kernel_rfl) (by kernel_rfl) rfl (fun _ _ h_ => R.pkFE rfl rfl (by conv => lhs; whnf) (TL.nil h_)) ?_
                    refine Plan.v 15 [] (by kernel_rfl) (by kernel_rfl) (by kernel_rfl) (by kernel_rfl) rfl (fun _ _ h_ => R.asE rfl (by conv => lhs; whnf) (TL.nil h_)) ?_
                    refine Plan.done (Post.thnN ?_)
                    refine T.has Has.nil ?_
                    refine T.ret ?_
                    have hM : windroselaw02_AllocRoom_m a0 = (decide ((r75.length : Int) < (IntKind.i64.wrap (nb3l2_0 + 2)))) := by subst er75; subst er64; subst er14; rw [windroselaw02_AllocRoom_m, if_f c12, LR.seq_go, if_neg c17, hTc1, LR.seq_go, hEl2, LR.on_go, LR.seq_go, if_neg g70, if_pos g73, LR.seq_go]
                    exact fin1L (v := .bool (decide ((r75.length : Int) < (IntKind.i64.wrap (nb3l2_0 + 2))))) [] rfl rfl (List.Sublist.refl _) ⟨rfl, by first | rw [hM] | rfl⟩
                · refine R.ld Tryd.isAgg3 rfl rfl .hd rfl ?_
                  refine TL.nil (Plan.e1 (HLe.refl _) ?_)
                  refine Plan.v 11 [6, 7, 8, 12, 13, 14, 15] (by kernel_rfl) (by kernel_rfl) (by kernel_rfl) (by kernel_rfl) rfl (fun _ _ h_ => R.add rfl rfl rfl (TL.nil h_)) ?_
                  refine Plan.s1 6 [7, 8, 12, 13, 14, 15] (by kernel_rfl) (by kernel_rfl) rfl ?_
                  refine R.ldX (cs := [.int .i64 nb3l2_0, .slice Ab3l2_1 xb3l2_1.length pb3l2_1, .slice Ab3l2_2 xb3l2_2.length pb3l2_2]) (l := [.int .i64 nb3l2_0, .slice Ab3l2_1 xb3l2_1.length pb3l2_1, .slice Ab3l2_2 xb3l2_2.length pb3l2_2]) Tryd.isAgg25 Tryd.sizeOf25 rfl rfl .hd rfl rfl ?_
                  refine TL.nil (Plan.e1 (HLe.refl _) ?_)
                  refine Plan.s1 7 [8, 12, 13, 14, 15] (by kernel_rfl) (by kernel_rfl) rfl ?_
                  obtain ⟨r75, er75⟩ : ∃ r, r = (alloc_All_m ((nb3l2_0, xb3l2_1, xb3l2_2))) := ⟨_, rfl⟩
                  refine TL.call [] rfl rfl rfl (alloc_All_c _ ((sb1_1.trans (s14.trans (sF14_0_1_2.trans (sF14_0_2_3.trans (s_c1.trans (s_l2.trans (s64.trans (sF64_0_1_7.trans (sF64_0_2_8.trans sb8_9))))))))) _ _ hG0) ((nb3l2_0, xb3l2_1, xb3l2_2)) _ (wb3l2_1.mono (s64.trans (sF64_0_1_7.trans (sF64_0_2_8.trans sb8_9)))) _ (wb3l2_2.mono (s64.trans (sF64_0_1_7.trans (sF64_0_2_8.trans sb8_9)))) (by first | omega | (simp; done) | (simp; omega) | (simp at *; omega)) (by first | omega | (simp; done) | (simp; omega) | (simp at *; omega))) ?_
                  intro v75 H75 L75 s75 q75
                  rw [← er75] at q75
                  obtain ⟨u75_0_0, c75_0_0, rfl, rfl, w75_0_0⟩ := q75
                  obtain ⟨A75_0_0, p75_0_0, rfl, m75_0_0, n75_0_0⟩ := OwnS.shape w75_0_0
                  have ta75 : r75.length ≤ 2000000 := by rw [er75]; exact all_len (by first | omega | (simp; done) | (simp; omega) | (simp at *; omega))
                  refine TL.nil (Plan.e1 (s75) ?_)
                  refine Plan.v 8 [12, 13, 14, 15] (by kernel_rfl) (by kernel_rfl) (by kernel_rfl) (by kernel_rfl) rfl (fun _ _ h_ => R.len Tryd.underlying29 rfl rfl (TL.nil h_)) ?_
                  refine Plan.v 12 [13, 14, 15] (by kernel_rfl) (by kernel_rfl) (by kernel_rfl) (by kernel_rfl) rfl (fun _ _ h_ => R.lss rfl rfl rfl (TL.nil h_)) ?_
                  refine Plan.v 13 [14, 15] (by kernel_rfl) (by kernel_rfl) (by kernel_rfl) (by kernel_rfl) rfl (fun _ _ h_ => R.pkTE rfl rfl (by conv => lhs; whnf) (TL.nil h_)) ?_
                  refine Plan.v 14 [15] (by kernel_rfl) (by kernel_rfl) (by kernel_rfl) (by kernel_rfl) rfl (fun _ _ h_ => R.pkFE rfl rfl (by conv => lhs; whnf) (TL.nil h_)) ?_
                  refine Plan.v 15 [] (by kernel_rfl) (by kernel_rfl) (by kernel_rfl) (by kernel_rfl) rfl (fun _ _ h_ => R.asE rfl (by conv => lhs; whnf) (TL.nil h_)) ?_
                  refine Plan.done (Post.thnN ?_)
                  refine T.has Has.nil ?_
                  refine T.ret ?_
                  have hM : windroselaw02_AllocRoom_m a0 = (decide ((r75.length : Int) < (IntKind.i64.wrap (nb3l2_0 + 2)))) := by subst er75; subst er64; subst er14; rw [windroselaw02_AllocRoom_m, if_f c12, LR.seq_go, if_neg c17, hTc1, LR.seq_go, hEl2, LR.on_go, LR.seq_go, if_neg g70, if_pos g73, LR.seq_go]
                  exact fin1L (v := .bool (decide ((r75.length : Int) < (IntKind.i64.wrap (nb3l2_0 + 2))))) [] rfl rfl (List.Sublist.refl _) ⟨rfl, by first | rw [hM] | rfl⟩
              · refine Plan.v 6 [7, 8, 9, 10, 11, 12, 13, 14, 15] (by kernel_rfl) (by kernel_rfl) (by kernel_rfl) (by kernel_rfl) rfl (fun _ _ h_ => TL.off rfl rfl rfl (TL.nil h_)) ?_
                refine Plan.v 7 [8, 9, 10, 11, 12, 13, 14, 15] (by kernel_rfl) (by kernel_rfl) (by kernel_rfl) (by kernel_rfl) rfl (fun _ _ h_ => TL.off rfl rfl rfl (TL.nil h_)) ?_
                refine Plan.v 8 [9, 10, 11, 12, 13, 14, 15] (by kernel_rfl) (by kernel_rfl) (by kernel_rfl) (by kernel_rfl) rfl (fun _ _ h_ => TL.off rfl rfl rfl (TL.nil h_)) ?_
                refine Plan.v 9 [10, 11, 12, 13, 14, 15] (by kernel_rfl) (by kernel_rfl) (by kernel_rfl) (by kernel_rfl) rfl (fun _ _ h_ => TL.off rfl rfl rfl (TL.nil h_)) ?_
                refine Plan.v 10 [11, 12, 13, 14, 15] (by kernel_rfl) (by kernel_rfl) (by kernel_rfl) (by kernel_rfl) rfl (fun _ _ h_ => TL.off rfl rfl rfl (TL.nil h_)) ?_
                refine Plan.v 11 [12, 13, 14, 15] (by kernel_rfl) (by kernel_rfl) (by kernel_rfl) (by kernel_rfl) rfl (fun _ _ h_ => TL.off rfl rfl rfl (TL.nil h_)) ?_
                refine Plan.v 12 [13, 14, 15] (by kernel_rfl) (by kernel_rfl) (by kernel_rfl) (by kernel_rfl) rfl (fun _ _ h_ => TL.off rfl rfl rfl (TL.nil h_)) ?_
                refine Plan.v 13 [14, 15] (by kernel_rfl) (by kernel_rfl) (by kernel_rfl) (by kernel_rfl) rfl (fun _ _ h_ => R.pkFE rfl rfl (by conv => lhs; whnf) (TL.nil h_)) ?_
                refine Plan.v 14 [15] (by kernel_rfl) (by kernel_rfl) (by kernel_rfl) (by kernel_rfl) rfl (fun _ _ h_ => R.pkFE rfl rfl (by conv => lhs; whnf) (TL.nil h_)) ?_
                refine Plan.v 15 [] (by kernel_rfl) (by kernel_rfl) (by kernel_rfl) (by kernel_rfl) rfl (fun _ _ h_ => R.asE rfl (by conv => lhs; whnf) (TL.nil h_)) ?_
                refine Plan.done (Post.thnN ?_)
                refine T.has Has.nil ?_
                refine T.ret ?_
                have hM : windroselaw02_AllocRoom_m a0 = false := by subst er64; subst er14; rw [windroselaw02_AllocRoom_m, if_f c12, LR.seq_go, if_neg c17, hTc1, LR.seq_go, hEl2, LR.on_go, LR.seq_go, if_neg g70, if_neg g73]
                exact fin1L (v := .bool false) [] rfl rfl (List.Sublist.refl _) ⟨rfl, by first | rw [hM] | rfl⟩

end Go.SX

set_option linter.unusedVariables false
set_option linter.unusedSimpArgs false
namespace Go.SX
open Go
theorem room_l2 : ∀ (m k : Nat) (a : Al), Rt a → (m : Int) = roomI a → ∃ b, Rt b ∧ roomI b = 0 ∧ windroselaw02_AllocRoom_l2 m k a = .go b
  | 0, k, a, h, e => ⟨a, h, by omega, rfl⟩
  | m + 1, k, a, h, e => by
    have h0 := (take_room h).2.1.2 (by omega)
    have t := take_ok h h0
    have hb := take_keeps h h0
    obtain ⟨b, h1, h2, h3⟩ := room_l2 m (k + 1) (takeP a).1 hb (by have := t.room; omega)
    refine ⟨b, h1, h2, ?_⟩
    rw [windroselaw02_AllocRoom_l2]
    simp only [eta3]
    rw [LR.seq_go, take_rt h, if_neg (fun k => k h0), Alive_rt h, Alive_rt hb, t.not_old h hb, t.alive_new hb, if_neg Bool.false_ne_true, LR.seq_go, Bool.not_true, if_neg Bool.false_ne_true]
    exact h3
theorem room_end {b : Al} (hb : Rt b) (h0 : roomI b = 0) : (LR.seq (alloc_Take_m b) (fun r64 => if r64.2.2 = 6 then true else (if r64.2.2 = 121 then (LR.seq (alloc_All_m b) (fun r75 => (decide ((r75.length : Int) < (IntKind.i64.wrap (b.1 + 2)))))) else false))) = true := by
  have h1 := hb.m1
  have h2 := hb.m2
  rw [LR.seq_go, take_rt hb]
  rcases (take_room hb).2.2 with h | h | ⟨h, h3⟩
  · have := (take_room hb).2.1.1 h; omega
  · rw [if_pos h]
  · rw [if_neg (by omega), if_pos h, LR.seq_go, aliveN_all hb, wrap_i64 (x := b.1 + 2) (by omega) (by omega), decide_eq_true (by omega)]
theorem allocRoom_true (a0 : Al) : windroselaw02_AllocRoom_m a0 = true := by
  obtain ⟨k1, k2⟩ := own_len a0
  unfold windroselaw02_AllocRoom_m
  rw [wakes_true, Bool.not_true, if_neg Bool.false_ne_true, LR.seq_go]
  generalize windroselaw02_own_m a0 = a at *
  by_cases h : Rt a
  rotate_left
  · rw [if_pos (fun k => h ((check_iff (by omega)).1.1 k)), room_not (by omega) h, if_pos rfl, LR.seq_go, all_not (by omega) h]; rfl
  rw [if_neg (fun k => k ((check_iff (by omega)).1.2 h))]
  simp only [eta3]
  obtain ⟨a', ha', e⟩ : ∃ a', Rt a' ∧ (if (60 : Int) < a.1 then ((if ((a.2.1.length : Int) - 2) < 1 then 1 else ((a.2.1.length : Int) - 2)), a.2.1, a.2.2) else a : Al) = a' := by
    refine ⟨_, ?_, rfl⟩
    have h1 := h.n1
    have h2 := aliveN_le a.2.1
    by_cases c : (60 : Int) < a.1
    · rw [if_pos c]
      by_cases c2 : ((a.2.1.length : Int) - 2) < 1
      · rw [if_pos c2]
        exact ⟨by show (1 : Int) ≤ 1; omega, by show (1 : Int) ≤ 1048576; omega, h.n1, by show (a.2.1.length : Int) ≤ 1 + 2; omega, by show (aliveN a.2.1 : Int) - 2 ≤ 1; omega, h.g, h.f⟩
      · rw [if_neg c2]
        exact ⟨by show (1 : Int) ≤ (a.2.1.length : Int) - 2; omega, by show (a.2.1.length : Int) - 2 ≤ 1048576; omega, h.n1, by show (a.2.1.length : Int) ≤ (a.2.1.length : Int) - 2 + 2; omega, by show (aliveN a.2.1 : Int) - 2 ≤ (a.2.1.length : Int) - 2; omega, h.g, h.f⟩
    · rw [if_neg c]; exact h
  have hr := (take_room ha').1
  obtain ⟨b, hb, h0, h3⟩ := room_l2 (roomI a').toNat 0 a' ha' (by omega)
  rw [LR.seq_go, e, room_rt ha', Nat.sub_zero, h3, LR.on_go]
  exact room_end hb h0
end Go.SX

set_option linter.unusedVariables false
set_option linter.unusedSimpArgs false
namespace Go.SX
open Go Go.ChangeShapes Go.WideShapes Go.ChangeAt Go.RowKit

/-- All that stands in a world's memory can be read. -/
def heapOf (W : World) : Heap := fun b => W.heap[b]?
theorem sat_heapOf (W : World) : Sat (heapOf W) [] W := ⟨fun _ _ h => h, fun p h => (by cases h), List.nodup_nil, fun p h => (by cases h)⟩

/-- A contract of a function that hands back v, at a world. -/
theorem calls_of_Fv {P : Program} {f : FuncId} {fn : Func} {c : Code} {vs : List Value} {v : Value} {W : World} (hf : P.funcs[f]? = some fn) (hb : fn.body = some c) (hname : (fn.name == "runtime.NumGoroutine") = false)
    (h : Fv P (fnv f) vs (heapOf W) v) : Calls P f vs.toArray W fun e W' => e = .returned v ∧ Below W.heap.size W W' := by
  obtain ⟨nx, w1, h1, h2⟩ := h W (sat_heapOf W)
  have he := Go.Proofs.enters_of (P := P) hf hname hb vs.toArray W
  have hrun : Sem.run P (do let d ← Deferred.ofValue (fnv f) vs.toArray; invoke d.target d.args) W = .ok (.enter f vs.toArray) W := by
    simp [Deferred.ofValue, invoke, he]
  rw [hrun] at h1
  injection h1 with h1 h3
  subst h1; subst h3
  refine callsIn_wide.1 (CallsIn.mono h2 ?_)
  rintro e w' ⟨u, H', L', rfl, hst, rfl, rfl⟩
  exact ⟨rfl, hst.chg.os, hst.chg.tape, hst.chg.output, hst.chg.size, fun b hb => hst.chg.same b hb (by simp [keys])⟩

section
variable {H : Type} {enc : TypeId × Value → H} {P : Program}

theorem trodAll_below (hl : laidOutB P = true) {W W' : World} (hb : Below W.heap.size W W') {sp : Nat → Bool} : ∀ {ts : List TypeId} {vs : List Value} {ds : List (DataW H)} {p : List MemPlace},
    (∀ t ∈ ts, P.readableRec t = true ∧ t < P.types.size) → DataW.TrodAll enc P W 0 (fun _ => true) true ts vs ds p → (∀ q ∈ p, q.block < W.heap.size ∧ sp q.block = true) → DataW.TrodAll enc P W' 0 sp true ts vs ds p
  | [], _, _, _, _, h, _ => by
    obtain ⟨rfl, rfl, rfl⟩ := trodAll_nil h
    exact trodAll_mk0
  | t :: ts, _, _, _, ht, h, hp => by
    obtain ⟨v, vs, d, ds, a, b, rfl, rfl, rfl, h1, h2⟩ := trodAll_cons h
    have h3 := WideElems.Trod_stays (sp' := sp) hl (ht t (List.mem_cons_self ..)).1 (ht t (List.mem_cons_self ..)).2 h1 (fun x hx => hb.same (hp x (List.mem_append_left _ hx)).1) (fun x hx => (hp x (List.mem_append_left _ hx)).2)
    exact ⟨a, b, h3, trodAll_below hl hb (fun t' h' => ht t' (List.mem_cons_of_mem _ h')) h2 (fun x hx => hp x (List.mem_append_right _ hx)), rfl⟩

/-- What is asked behind a call that turned nothing of what there was, and says true. -/
theorem post_true {f : Func} {s : ChangeSpec} {fresh handsOn again : Bool} {W W' : World} {args : Array Value} {ds gs : List (DataW H)} {before : List MemPlace} {tb : TypeId} (hl : laidOutB P = true)
    (hW : DataW.Whole enc P f.params.toList s.vars false W args.toList ds gs before) (hvars : s.vars = []) (hpar : ∀ t ∈ f.params.toList, P.readableRec t = true ∧ t < P.types.size)
    (hs : s.fn H (ds ++ gs) = { results := [.lit (.bool true)], args := ds }) (hrt : f.resultTypes = #[tb]) (htb : P.underlying tb = some .bool) (hb : Below W.heap.size W W') :
    s.post enc P f false fresh handsOn again W args (.bool true) W' := by
  have hlt := hW.lt
  have hW0 := hW
  obtain ⟨p, q, hA, hV, rfl, hfz, hnd⟩ := hW
  rw [hvars] at hV
  obtain ⟨rfl, rfl⟩ := trodVars_none hV
  rw [List.append_nil] at hfz hlt
  have hres : ∀ (b : Nat) (sp : Nat → Bool) (hd : Bool), DataW.TrodAll enc P W' b sp hd f.resultTypes.toList ((Value.bool true).resultList f.resultTypes.size) [.lit (.bool true)] [] := by
    intro b sp hd
    rw [hrt]
    exact trodAll_mk1 (shut_bool htb true)
  have hargs : ∀ sp : Nat → Bool, (∀ x ∈ p, sp x.block = true) → DataW.TrodAll enc P W' 0 sp true f.params.toList args.toList ds p := fun sp hsp =>
    trodAll_below hl hb hpar hA (fun x hx => ⟨hlt x hx, hsp x hx⟩)
  have hvr : ∀ sp : Nat → Bool, DataW.TrodVars enc P W' sp s.vars ([] : List (DataW H)) [] := fun sp => by rw [hvars]; rfl
  refine ⟨ds, [], p ++ [], [], p, [], hW0, ?_, ?_, ?_, World.keptBut_mono (fun x hx => ⟨hx, ?_⟩) (hb.frame (· ∈ p ++ [])), fun _ => ?_⟩
  · rw [hs]; exact hres _ _ _
  · rw [hs]; exact hargs _ (fun x hx => by simpa using hlt x hx)
  · rw [hs]; exact hvr _
  · exact Or.inr (by simpa using hx)
  · refine ⟨ok_one hrt rfl (okWide_bool_mk htb true), _, _, ([] ++ p) ++ [], ⟨[] ++ p, [], trodAll_append (hargs _ (fun _ _ => rfl)) (hres _ _ _), hvr _, rfl, ?_, fun h => by cases h⟩, ?_⟩
    · intro b off hp
      have hp' : MemPlace.cell b off ∈ p := by simpa using hp
      have := hb.frozen (p := ⟨b, off, none⟩) (hlt _ hp')
      rw [this]
      exact hfz b off hp'
    · intro x hx _
      simpa using hx

theorem cellAt_heapOf {W : World} {b o : Nat} {v : Value} (h : W.cell? ⟨b, o, none⟩ = some v) : cellAt (heapOf W) b o = some v := by
  unfold World.cell? at h
  unfold cellAt heapOf
  simp only at h
  revert h
  cases hb : W.heap[b]? with
  | none => intro h; simp at h
  | some ob => cases ob <;> intro h <;> simp_all

end
end Go.SX

set_option linter.unusedVariables false
set_option linter.unusedSimpArgs false
namespace Go.SX
open Go Go.ChangeShapes Go.WideShapes Go.ChangeAt Go.RowKit Go.Deep
/-- What can be read at the type stands as E says. -/
def Opn (P : Program) (t : TypeId) {α : Type} (E : ER α) (Q : α → Prop) : Prop :=
  ∀ (H : Type) (enc : TypeId × Value → H) (W : World) (sp : Nat → Bool) (hd : Bool) (n : Nat) (cs : List Value) (x : DataW H × List MemPlace), DataW.trod enc P W 0 sp hd n t cs = some x → ∃ a, E.R (heapOf W) cs a ∧ Q a
theorem Opn.int {P : Program} {t : TypeId} {k : IntKind} (ht : P.underlying t = some (.int k)) : Opn P t (intE k) (fun x => (Lit.int k x).wf = true) := fun H enc W sp hd n cs x h => by
  obtain ⟨n, rfl, _, hw⟩ := DataW.trod_int ht h
  exact ⟨n, rfl, hw⟩
theorem Opn.bool {P : Program} {t : TypeId} (ht : P.underlying t = some .bool) : Opn P t boolE (fun _ => True) := fun H enc W sp hd n cs x h => by
  obtain ⟨b, rfl, _⟩ := DataW.trod_bool ht h
  exact ⟨b, rfl, trivial⟩
theorem Opn.weak {P : Program} {t : TypeId} {α : Type} {E : ER α} {Q Q' : α → Prop} (h : Opn P t E Q) (hq : ∀ a, Q a → Q' a) : Opn P t E Q' := fun H enc W sp hd n cs x hx => by
  obtain ⟨a, h1, h2⟩ := h H enc W sp hd n cs x hx
  exact ⟨a, h1, hq a h2⟩
/-- An array of two ints. -/
theorem Opn.two {P : Program} {t i : TypeId} (ht : P.underlying t = some (.array 2 i)) (ct : P.cellsOf t = 2) (hi : P.underlying i = some (.int .i64)) (ci : P.cellsOf i = 1) : Opn P t pairE (fun _ => True) := fun H enc W sp hd n cs x h => by
  obtain ⟨xs, m, _, _, hl, hxl, hf⟩ := DataW.trod_array ht h
  rw [ct] at hl
  match cs, hl, xs, hxl with
  | [v0, v1], _, [y0, y1], _ =>
    have g0 := hf 0 (by omega)
    have g1 := hf 1 (by omega)
    rw [ci] at g0 g1
    simp at g0 g1
    obtain ⟨a, ha, _⟩ := DataW.trod_int hi g0
    obtain ⟨b, hb, _⟩ := DataW.trod_int hi g1
    simp at ha hb
    subst ha; subst hb
    exact ⟨(a, b), rfl, trivial⟩
/-- A slice. -/
theorem Opn.slice {P : Program} {t e : TypeId} {α : Type} {E : ER α} {Q : α → Prop} (ht : P.underlying t = some (.slice e)) (hc : P.cellsOf e = E.size) (he : Opn P e E Q) (hs : 0 < E.size) : Opn P t (slE E) (fun xs => ∀ x ∈ xs, Q x) := fun H enc W sp hd n cs x h => by
  rcases open_slice ht h with ⟨rfl, _⟩ | ⟨a, len, cap, m, n', D, Pl, rfl, _, hl, hm, hmm, _, hx⟩
  · exact ⟨[], ⟨_, rfl, RdS.nil⟩, fun x hx => by simp at hx⟩
  · have key : ∀ i, i < len → ∃ x, (∃ b o, a = ⟨b, o, none⟩ ∧ ElemAt E (heapOf W) b (o + i * E.size) x) ∧ Q x := fun i hi => by
      obtain ⟨cs', h1, h2⟩ := hx i (by rw [hmm]; split <;> omega)
      obtain ⟨x, h3, h4⟩ := he H enc W sp hd n' cs' _ h2
      refine ⟨x, ?_, h4⟩
      rw [hc] at h1
      obtain ⟨_, hlen, hcell⟩ := World.cells?_some h1
      obtain ⟨ab, ao, asp⟩ := a
      cases asp with
      | none =>
        refine ⟨ab, ao, rfl, cs', h3, fun j u hj => ?_⟩
        have hjl : j < E.size := by rw [← hlen]; exact (List.getElem?_eq_some_iff.1 hj).1
        have h5 := hcell j hjl
        rw [hj, add_add, Addr.add_lit] at h5
        have := cellAt_heapOf h5
        rw [show ao + i * E.size + j = ao + (i * E.size + j) by omega]
        exact this
      | some s =>
        exfalso
        obtain ⟨cs0, k1, _⟩ := hx 0 (by rw [hmm]; split <;> omega)
        rw [hc, Nat.zero_mul, Addr.add_zero'] at k1
        obtain ⟨_, klen, kcell⟩ := World.cells?_some k1
        have h5 := kcell 0 hs
        rw [Addr.add_zero'] at h5
        obtain ⟨u, hu⟩ : ∃ u, cs0[0]? = some u := ⟨cs0[0], List.getElem?_eq_getElem (by omega)⟩
        rw [hu] at h5
        unfold World.cell? at h5
        revert h5
        cases hb : W.heap[ab]? with
        | none => intro h; simp [hb] at h
        | some ob => cases ob <;> intro h <;> simp [hb] at h
    obtain ⟨f, hf⟩ : ∃ f : Nat → Option α, ∀ i, i < len → ∃ x, f i = some x ∧ (∃ b o, a = ⟨b, o, none⟩ ∧ ElemAt E (heapOf W) b (o + i * E.size) x) ∧ Q x := by
      classical
      refine ⟨fun i => if hi : i < len then some (Classical.choose (key i hi)) else none, fun i hi => ?_⟩
      exact ⟨_, dif_pos hi, Classical.choose_spec (key i hi)⟩
    have hxs : ∀ n, n ≤ len → ∃ xs : List α, xs.length = n ∧ ∀ i, i < n → xs[i]? = f i := fun n => by
      induction n with
      | zero => exact fun _ => ⟨[], rfl, fun i hi => absurd hi (Nat.not_lt_zero _)⟩
      | succ n ih =>
        intro hn
        obtain ⟨xs, h1, h2⟩ := ih (by omega)
        obtain ⟨x, h3, _⟩ := hf n (by omega)
        refine ⟨xs ++ [x], by simp [h1], fun i hi => ?_⟩
        by_cases h : i < n
        · rw [List.getElem?_append_left (by omega)]; exact h2 i h
        · obtain rfl : i = n := by omega
          rw [List.getElem?_append_right (by omega), h1, Nat.sub_self, h3]; rfl
    obtain ⟨xs, h1, h2⟩ := hxs len (Nat.le_refl _)
    subst h1
    refine ⟨xs, ⟨_, rfl, some a, cap, rfl, hl, hm, fun i x hx => ?_⟩, fun x hx => ?_⟩
    · have hi : i < xs.length := (List.getElem?_eq_some_iff.1 hx).1
      obtain ⟨y, h3, ⟨b, o, h4, h5⟩, _⟩ := hf i hi
      rw [h2 i hi, h3] at hx
      injection hx with hx
      subst hx
      exact ⟨b, o, by rw [h4], h5⟩
    · obtain ⟨i, hi, rfl⟩ := List.mem_iff_getElem.1 hx
      obtain ⟨y, h3, _, h4⟩ := hf i hi
      have := h2 i hi
      rw [h3, List.getElem?_eq_getElem hi] at this
      injection this with this
      rw [this]; exact h4
section
variable {P : Program} {H : Type} {enc : TypeId × Value → H} {W : World} {r : Reach} {b0 : Nat} {t : TypeId} {v : Value} {d : DataW H} {p : List MemPlace} {α : Type} {E : ER α} {Q : α → Prop}
/-- A struct, or an array, that is handed in. -/
theorem open_agg (hu : (∃ fs, P.underlying t = some (.struct fs)) ∨ ∃ n e, P.underlying t = some (.array n e)) (ho : Opn P t E Q) (hval : Value.okWide P W r b0 t v) (h : DataW.Trod enc P W 0 (fun _ => true) true t v d p) :
    ∃ cs a, v = .agg cs ∧ E.R (heapOf W) cs.toList a ∧ Q a := by
  have hv : ∃ cs, v = .agg cs := by
    unfold Value.okWide at hval
    rcases hu with ⟨fs, hu⟩ | ⟨n, e, hu⟩
    · rw [hu] at hval; obtain ⟨cs, h1, _⟩ := hval; exact ⟨cs, h1⟩
    · rw [hu] at hval; obtain ⟨cs, h1, _⟩ := hval; exact ⟨cs, h1⟩
  obtain ⟨cs, rfl⟩ := hv
  obtain ⟨n, hn⟩ := h
  obtain ⟨a, h1, h2⟩ := ho H enc W _ _ n _ _ hn
  exact ⟨cs, a, rfl, h1, h2⟩
end
end Go.SX

set_option linter.unusedVariables false
namespace Go.SX
open Go Go.ChangeShapes Go.WideShapes Go.ChangeAt Go.RowKit Go.Proofs
def allocE : ER (Int × (List (Int × Bool)) × (List Int)) where
  size := 3
  R := fun H cs x => ∃ v1 v2, cs = [.int .i64 x.1, v1, v2] ∧ RdS slotE H v1 x.2.1 ∧ RdS (intE .i64) H v2 x.2.2
  len := fun h => by obtain ⟨v1, v2, rfl, _⟩ := h; rfl
  mono := fun hl h => by obtain ⟨v1, v2, rfl, h0, h1⟩ := h; exact ⟨v1, v2, rfl, h0.mono hl, h1.mono hl⟩
  one := fun h v hv => by
    obtain ⟨v1, v2, rfl, h0, h1⟩ := h
    simp only [List.mem_cons, List.not_mem_nil, or_false] at hv
    rcases hv with rfl | rfl | rfl <;> first | rfl | exact RdS.one (by assumption)

theorem lenN2 {α : Type} {l : List α} (h : l.length = 2) : ∃ v0 v1, l = [v0, v1] := by
  match l, h with
  | [v0, v1], _ => exact ⟨v0, v1, rfl⟩
theorem lenN3 {α : Type} {l : List α} (h : l.length = 3) : ∃ v0 v1 v2, l = [v0, v1, v2] := by
  match l, h with
  | [v0, v1, v2], _ => exact ⟨v0, v1, v2, rfl⟩
theorem opn101 : Opn Tryd.prog 101 slotE (fun x => (((Lit.int .i64 x.1).wf = true) ∧ (True))) := fun H enc W sp hd n cs x h => by
  obtain ⟨xs, m, _, _, hl, hxl, hf⟩ := DataW.trod_struct Tryd.underlying101 h
  rw [show Tryd.prog.cellsOf 101 = 2 by kernel_rfl] at hl
  replace hxl : xs.length = 2 := hxl
  obtain ⟨v0, v1, rfl⟩ := lenN2 hl
  obtain ⟨y0, y1, rfl⟩ := lenN2 hxl
  have g0 : DataW.trod enc Tryd.prog W 0 sp hd m 3 (([v0, v1].drop 0).take (Tryd.prog.cellsOf 3)) = some y0 := hf 0 _ rfl
  rw [show Tryd.prog.cellsOf 3 = 1 by kernel_rfl] at g0
  simp only [List.drop, List.take] at g0
  have g1 : DataW.trod enc Tryd.prog W 0 sp hd m 4 (([v0, v1].drop 1).take (Tryd.prog.cellsOf 4)) = some y1 := hf 1 _ rfl
  rw [show Tryd.prog.cellsOf 4 = 1 by kernel_rfl] at g1
  simp only [List.drop, List.take] at g1
  obtain ⟨x0, h0, _, w0⟩ := DataW.trod_int Tryd.underlying3 g0
  injection h0 with h0; subst h0
  obtain ⟨x1, h1, _⟩ := DataW.trod_bool Tryd.underlying4 g1
  injection h1 with h1; subst h1
  exact ⟨(x0, x1), rfl, ⟨w0, trivial⟩⟩
theorem opn25 : Opn Tryd.prog 25 allocE (fun x => (((Lit.int .i64 x.1).wf = true) ∧ (∀ z ∈ x.2.1, (((Lit.int .i64 z.1).wf = true) ∧ (True))) ∧ (∀ z ∈ x.2.2, (Lit.int .i64 z).wf = true))) := fun H enc W sp hd n cs x h => by
  obtain ⟨xs, m, _, _, hl, hxl, hf⟩ := DataW.trod_struct Tryd.underlying25 h
  rw [show Tryd.prog.cellsOf 25 = 3 by kernel_rfl] at hl
  replace hxl : xs.length = 3 := hxl
  obtain ⟨v0, v1, v2, rfl⟩ := lenN3 hl
  obtain ⟨y0, y1, y2, rfl⟩ := lenN3 hxl
  have g0 : DataW.trod enc Tryd.prog W 0 sp hd m 3 (([v0, v1, v2].drop 0).take (Tryd.prog.cellsOf 3)) = some y0 := hf 0 _ rfl
  rw [show Tryd.prog.cellsOf 3 = 1 by kernel_rfl] at g0
  simp only [List.drop, List.take] at g0
  have g1 : DataW.trod enc Tryd.prog W 0 sp hd m 22 (([v0, v1, v2].drop 1).take (Tryd.prog.cellsOf 22)) = some y1 := hf 1 _ rfl
  rw [show Tryd.prog.cellsOf 22 = 1 by kernel_rfl] at g1
  simp only [List.drop, List.take] at g1
  have g2 : DataW.trod enc Tryd.prog W 0 sp hd m 23 (([v0, v1, v2].drop 2).take (Tryd.prog.cellsOf 23)) = some y2 := hf 2 _ rfl
  rw [show Tryd.prog.cellsOf 23 = 1 by kernel_rfl] at g2
  simp only [List.drop, List.take] at g2
  obtain ⟨x0, h0, _, w0⟩ := DataW.trod_int Tryd.underlying3 g0
  injection h0 with h0; subst h0
  obtain ⟨x1, ⟨u1, h1, r1⟩, w1⟩ := (Opn.slice Tryd.underlying22 (by kernel_rfl) opn101 (by decide)) H enc W sp hd _ _ _ g1
  injection h1 with h1; subst h1
  obtain ⟨x2, ⟨u2, h2, r2⟩, w2⟩ := (Opn.slice Tryd.underlying23 (by kernel_rfl) (Opn.int Tryd.underlying3) (by decide)) H enc W sp hd _ _ _ g2
  injection h2 with h2; subst h2
  exact ⟨(x0, x1, x2), ⟨_, _, rfl, r1, r2⟩, ⟨w0, w1, w2⟩⟩

end Go.SX
namespace Go.Proofs.YtmhoclmjgjopfaaDoor
open Go.ChangeShapes Go.WideShapes Go.ChangeAt Go.RowKit Go.SX

theorem allocRoom_own : ownKnob Tryd.prog.godebug = none := by kernel_rfl
theorem allocRoom_laid : laidOutB Tryd.prog = true := by kernel_rfl
theorem allocRoom_met (os : Os) (args : Array Value) : laidMetH Tryd.prog Rows.allocRoomRow.laid ((World.doorLaid Tryd.prog 400 os).forCall (fun _ _ => 0) ⟨#[], args, []⟩).memory :=
  laidMetH_of_parts3 (fuel := 12) (laidMet_of_run' 12 (by kernel_rfl) (by kernel_rfl)) (by kernel_rfl) (by kernel_rfl)
theorem allocRoom_datum {W : World} {H : Type} {enc : TypeId × Value → H} {sp : Nat → Bool} {hd : Bool} {n : Nat} {cs : List Value} {p : List MemPlace} (h : DataW.trod enc Tryd.prog W 0 sp hd n 101 cs = some (.agg [.lit (.int .i64 0), .lit (.bool true)], p)) : cs = [.int .i64 0, .bool true] := by
  obtain ⟨xs, m, _, hx1, hl, hxl, hf⟩ := DataW.trod_struct Tryd.underlying101 h
  rw [show Tryd.prog.cellsOf 101 = 2 by kernel_rfl] at hl
  replace hxl : xs.length = 2 := hxl
  obtain ⟨v0, v1, rfl⟩ := lenN2 hl
  obtain ⟨y0, y1, rfl⟩ := lenN2 hxl
  have g0 : DataW.trod enc Tryd.prog W 0 sp hd m 3 (([v0, v1].drop 0).take (Tryd.prog.cellsOf 3)) = some y0 := hf 0 _ rfl
  have g1 : DataW.trod enc Tryd.prog W 0 sp hd m 4 (([v0, v1].drop 1).take (Tryd.prog.cellsOf 4)) = some y1 := hf 1 _ rfl
  rw [show Tryd.prog.cellsOf 3 = 1 by kernel_rfl] at g0
  rw [show Tryd.prog.cellsOf 4 = 1 by kernel_rfl] at g1
  simp only [List.drop, List.take] at g0 g1
  obtain ⟨a, h0, h1, _⟩ := DataW.trod_int Tryd.underlying3 g0
  obtain ⟨b, h2, h3⟩ := DataW.trod_bool Tryd.underlying4 g1
  injection h0 with h0
  injection h2 with h2
  subst h0
  subst h2
  simp only [Prod.mk.injEq] at hx1
  have h4 := hx1.1
  simp only [List.map_cons, List.map_nil, h1, h3, DataW.agg.injEq, List.cons.injEq, DataW.lit.injEq, Lit.int.injEq, Lit.bool.injEq, true_and, and_true] at h4
  obtain ⟨h5, h6⟩ := h4
  subst h5; subst h6; rfl
theorem allocRoom_glob {W : World} (h : laidMetH Tryd.prog Rows.allocRoomRow.laid W) : ∃ t, heapOf W 0 = some (.cells #[.int .i64 0, .bool true] t) := by
  rw [MakeChecks.laidMetH_plain _ _ _ (by kernel_rfl)] at h
  obtain ⟨ps, ⟨g0, t0, cs0, f0, p0, q0, hg0, ht0, hv0, hd0, _, hps⟩, _, hrow⟩ := h
  obtain rfl := Option.some.inj ((show Tryd.prog.globalNamed "windrose/alloc.always" = some 0 by kernel_rfl).symm.trans hg0)
  obtain rfl := Option.some.inj ((show (Tryd.prog.globals[0]?).map (·.type) = some 101 by kernel_rfl).symm.trans ht0)
  have hl := allocRoom_datum hd0
  have hcs : cs0 = #[.int .i64 0, .bool true] := Array.toList_inj.1 hl
  subst hcs
  have hm : MemPlace.cell 0 0 ∈ ps := by rw [hps]; simp [MemPlace.row]
  obtain ⟨⟨c, t, hh⟩, _⟩ := hrow 0 0 hm
  have hv := hv0
  simp only [World.var?, hg0, Option.bind_some, hh] at hv
  injection hv with hv
  subst hv
  exact ⟨t, hh⟩

set_option maxRecDepth 100000 in
theorem allocRoom_lifted (os : Os) (started : os.Started) (H : Type) (enc : TypeId × Value → H) :
    ReturnsInHanded {} Tryd.checked os 6 .any (fun w args => (Rows.allocRoomSpec.pre enc Tryd.prog Tryd.f6 [] false w args ∧ laidMetH Tryd.prog Rows.allocRoomRow.laid w) ∧ sizedMet enc Tryd.prog Tryd.f6 (OpenSpec.ofChange Rows.allocRoomSpec) false w args)
      (Rows.allocRoomSpec.post enc Tryd.prog Tryd.f6 false true false false) := by
  refine returnsInHanded_of_change_and (C := Tryd.checked) (X := fun w _ => laidMetH Tryd.prog Rows.allocRoomRow.laid w) (fun _ _ _ hh h => h.of_heap hh) allocRoom_own started (by kernel_rfl) Tryd.func6
    (ChangeSpec.witness_shaped (enc := enc) (C := Tryd.checked) (os := os) (X := fun w _ => laidMetH Tryd.prog Rows.allocRoomRow.laid w) false (World.doorLaid Tryd.prog 400 os) #[.agg #[.int .i64 0, .slice none 0 0, .slice none 0 0]] 8 rfl (World.shaped_of_RefB (by kernel_rfl) (by kernel_rfl)) (by kernel_rfl) (by kernel_rfl) (by kernel_rfl) (allocRoom_met os _)) ?_
  intro W base args ds gs before hval0 hW _ _ hL _
  have hval : ∀ (j : Nat) t v, Tryd.f6.params[j]? = some t → args[j]? = some v → Value.okWide Tryd.prog W .any base t v := hval0
  have hW' := hW
  obtain ⟨p, q, hA0, hV, rfl, hfz, hnd⟩ := hW
  have hA : DataW.TrodAll enc Tryd.prog W 0 (fun _ => true) true Tryd.f6.params.toList args.toList ds p := hA0
  rw [Tryd.params6] at hA hval
  clear hA0 hval0
  obtain ⟨v0, vs0, d0, ds0, p0, q0, e0, rfl, rfl, h0, r0⟩ := trodAll_cons hA
  obtain ⟨e1, rfl, rfl⟩ := trodAll_nil r0
  subst e1
  obtain rfl : args = #[v0] := by cases args; simp_all
  obtain ⟨rfl, rfl⟩ := trodVars_none hV
  obtain ⟨cs0, x0, rfl, hx0, hw0⟩ := open_agg (.inl ⟨_, Tryd.underlying25⟩) opn25 (hval 0 25 v0 rfl rfl) h0
  obtain ⟨u0_1, u0_2, e0_, r0_1, r0_2⟩ := hx0
  obtain rfl : cs0 = #[.int .i64 x0.1, u0_1, u0_2] := Array.toList_inj.1 e0_
  have hpar : ∀ t ∈ Tryd.f6.params.toList, Tryd.prog.readableRec t = true ∧ t < Tryd.prog.types.size := by
    intro t ht
    rw [Tryd.params6] at ht
    simp only [List.mem_cons, List.not_mem_nil, or_false] at ht
    subst ht
    · exact ⟨by kernel_rfl, of_decide_eq_true (by kernel_rfl)⟩
  obtain ⟨tG, hG⟩ := allocRoom_glob hL
  refine (calls_of_Fv Tryd.func6 rfl (by kernel_rfl) (Fv.to (windroselaw02_AllocRoom_c _ hG x0 _ r0_1 _ r0_2) (congrArg Value.bool (allocRoom_true _)))).mono fun e W' ⟨he, hb⟩ => ?_
  subst he
  exact ⟨_, rfl, post_true allocRoom_laid hW' rfl hpar rfl rfl Tryd.underlying4 hb⟩

theorem allocRoom_holds : Rows.AllocRoomSaid :=
  OpenClaim.holds_of_wide 6 Tryd.f6 rfl rfl rfl rfl rfl rfl rfl ⟨rfl, rfl, rfl, rfl, rfl⟩ rfl rfl rfl rfl rfl (by kernel_rfl) Tryd.func6 (by kernel_rfl)
    (of_decide_eq_true (by kernel_rfl)) (by unfold Func.isWrapper; first | (rw [if_pos (by decide +kernel)]; kernel_rfl) | (rw [if_neg (by decide +kernel)]; exact ⟨rfl, rfl⟩))
    (fun os started H enc _ => allocRoom_lifted os started H enc)

theorem allocRoom_card : Rows.AllocRoomCardSaid :=
  Claim7.holds_tied_plain_at .later [] [.data] true (true, "c812bd16461893b59ff1c9b11575473a3dd7f925cadaefe779c83152ab813434") false
    allocRoom_holds (fun _ h => by cases h) (by kernel_rfl) (fun _ h => by cases h) allocRoom_row_tie rfl ⟨rfl, rfl⟩ (by kernel_rfl) rfl
    (fun f fn hf hfn => by
      obtain rfl : f = 6 := Option.some.inj ((show Tryd.prog.funcNamed "windrose/windroselaw02.AllocRoom" = some 6 by kernel_rfl).symm.trans hf) |>.symm
      obtain rfl : fn = Tryd.f6 := (Option.some.inj (Tryd.func6.symm.trans hfn)).symm
      exact ⟨by kernel_rfl, fun j t ht => by
        rw [Tryd.params6] at ht
        have hm : t ∈ [25] := by simpa using Array.mem_of_getElem? ht
        have hall : ([25].all fun u => !Tryd.prog.wantsStandIn u) = true := by kernel_rfl
        exact (show Tryd.prog.wantsStandIn t = false by simpa using List.all_eq_true.1 hall t hm)⟩)
    (by kernel_rfl)
end Go.Proofs.YtmhoclmjgjopfaaDoor
