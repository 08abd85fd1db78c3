/- 'PlanOf' answers true, whatever it is handed, and what it is handed reads behind it as it did: the row, and its tied card. -/
import Derived.RangeFuncNested
import Derived.RangeFuncBound
import Derived.RangeFuncCalls
import Derived.RangeFuncLeaves
import Derived.Shelf.Abstract
import Derived.Laws.AppendOwn
import Derived.Laws.OwnMore
import Derived.KernelRfl
import Derived.IntWalk
import Derived.Laws.Append
import Derived.WideLaws
import Derived.Laws.Slices
import Derived.Laws.MakeOwn
import Derived.OrdersIn
import Derived.Laws.Cover3
import Derived.Test.YtmhoclmjgjopfaaGreatDoorProg
import Derived.Laws.StructEq
import Derived.Shelf.Sort.Plain
import Derived.Sort.OwnSortedInts
import Derived.Shelf.Slices.In.SortNone
import Derived.Shelf.Slices.CompactI
import Derived.ProofKit
import Derived.ChangeSlices
import Derived.Carry
import Derived.Deep.Slices
import Derived.OpenShut
import Derived.Test.YtmhoclmjgjopfaaGreatDoorCards
import Derived.Test.YtmhoclmjgjopfaaGreatDoorTie
import Derived.LaidMore
import Derived.Stop.Joined
import Derived.MakeChecks
import Derived.Test.YtmhoclmjgjopfaaGreatDoorKO2
set_option linter.unusedVariables false
set_option linter.unusedSimpArgs false
namespace Go.SX
open Go Go.Proofs
def Y119 : Heap → List Value → ((Int × Int) × (List (Int × Int))) → Prop := fun H vs y => ∃ v1_0, vs = [.agg #[.int .i64 y.1.1, .int .u64 y.1.2], v1_0] ∧ RdS pairE H v1_0 y.2

theorem Tryz_ty81 : TyE Tryz.prog 81 84 pairE 16 := TyE.mk' (z := .agg #[.int .i64 0, .int .i64 0]) Tryz.underlying81 (by kernel_rfl) rfl (by decide)

def trait_Policy_m (a0 : List (Int × (Bool × Bool × Int × Int × Int))) (a1 : Int) (a2 : Int) : Int × Bool :=
  LR.seq (ident_Parts_m a1) (fun r16 => LR.seq (trait_Find_m a0 r16.1) (fun r22 => LR.seq (if ((kindG a1) : Int) ≠ 3 then true else (if (!r22.2) = true then true else (if a2 ≠ r16.1 then ((decide (a2 ≠ r16.2))) else false)) : Bool) (fun sc1 => if sc1 = true then ((0, false)) else (LR.seq (if a2 = r16.2 then (((if r22.1.2.2.2.1 = 0 then true else false), (if r22.1.2.2.2.1 = 1 then true else false), (if r22.1.2.2.2.1 = 2 then true else false))) else ((false, false, false)) : Bool × Bool × Bool) (fun sc2 => LR.seq (if a2 = r16.1 then (((if r22.1.2.2.2.2 = 0 then true else sc2.1), (if r22.1.2.2.2.2 = 1 then true else sc2.2.1), (if r22.1.2.2.2.2 = 2 then true else sc2.2.2))) else ((sc2.1, sc2.2.1, sc2.2.2)) : Bool × Bool × Bool) (fun sc3 => LR.on (if sc3.2.1 = true then (.ret ((1, true))) else (if sc3.2.2 = true then (.go ((0 + 1))) else (.go 0)) : LR (Int × Bool) (Int)) (fun r => r) (fun sc4 => if sc3.2.2 = true then (((IntKind.i64.wrap (sc4 + 1)), true)) else ((sc4, true)))))))))
set_option maxHeartbeats 3200000 in
theorem trait_Policy_c (H : Heap) {tG0 : TypeId} (hG0 : H 0 = some (.cells #[.int .i64 1, .bool true, .bool true, .int .i64 0, .int .i64 1, .int .i64 2, .int .i64 2, .bool true, .bool false, .int .i64 0, .int .i64 0, .int .i64 2] tG0)) (va0 : Value) (a0 : List (Int × (Bool × Bool × Int × Int × Int))) (ha0 : RdS relationE H va0 a0) (a1 : Int) (a2 : Int) (hl : a0.length ≤ 2000000) : Fv Tryz.prog (fnv 82) [va0, .int .u64 a1, .int .i64 a2] H (.tuple #[.int .i64 (trait_Policy_m a0 a1 a2).1, .bool (trait_Policy_m a0 a1 a2).2]) := by
  refine Fc.of_body (N := 68) Tryz.func82 rfl (by kernel_rfl) rfl rfl ?_
  intro w0
  obtain ⟨Aa0, ca0, rfl, hca0, hda0, ha0⟩ := ha0.shape
  refine T.seq ?_
  refine T.region ?_
  refine R.asE rfl (by conv => lhs; whnf) ?_
  refine R.asE rfl (by conv => lhs; whnf) ?_
  refine TL.nil (Post.thnN ?_)
  refine T.seq ?_
  refine T.region ?_
  refine R.mvE rfl (by conv => lhs; whnf) ?_
  obtain ⟨r16, er16⟩ : ∃ r, r = (ident_Parts_m a1) := ⟨_, rfl⟩
  refine R.callv (v := .tuple #[.int .i64 r16.1, .int .i64 r16.2]) rfl rfl rfl (by rw [er16]; exact ident_Parts_c _ (a1)) ?_
  refine R.mvE rfl (by conv => lhs; whnf) ?_
  refine R.ext rfl rfl rfl ?_
  refine R.ext rfl rfl rfl ?_
  refine R.asE rfl (by conv => lhs; whnf) ?_
  refine R.asE rfl (by conv => lhs; whnf) ?_
  refine TL.nil (Post.thnN ?_)
  refine T.seq ?_
  refine T.region ?_
  refine R.mvE rfl (by conv => lhs; whnf) ?_
  refine R.mvE rfl (by conv => lhs; whnf) ?_
  obtain ⟨r22, er22⟩ : ∃ r, r = (trait_Find_m a0 r16.1) := ⟨_, rfl⟩
  refine R.callv (v := .tuple #[.agg #[.bool r22.1.1, .bool r22.1.2.1, .int .i64 r22.1.2.2.1, .int .i64 r22.1.2.2.2.1, .int .i64 r22.1.2.2.2.2], .bool r22.2]) rfl rfl rfl (by rw [er22]; exact trait_Find_c _ hG0 _ a0 ha0 (r16.1) (by first | omega | (simp; done) | (simp; omega) | (simp at *; omega))) ?_
  have tp22 := find_pol _ _ _ er22 (by first | omega | (simp; done) | (simp; omega) | (simp at *; omega))
  refine R.mvE rfl (by conv => lhs; whnf) ?_
  refine R.ext rfl rfl rfl ?_
  refine R.ext rfl rfl rfl ?_
  refine R.alloc Tryz.zeroValue53 rfl ?_
  intro b10
  refine R.stX (old := [.bool false, .bool false, .int .i64 0, .int .i64 0, .int .i64 0]) (l := [.bool (r22.1.1), .bool (r22.1.2.1), .int .i64 (r22.1.2.2.1), .int .i64 (r22.1.2.2.2.1), .int .i64 (r22.1.2.2.2.2)]) (new := [.bool (r22.1.1), .bool (r22.1.2.1), .int .i64 (r22.1.2.2.1), .int .i64 (r22.1.2.2.2.1), .int .i64 (r22.1.2.2.2.2)]) (et := 53) Tryz.sizeOf53 rfl rfl rfl rfl rfl (by show 0 + 5 ≤ 5; decide) rfl (all_one rfl) .hd ?_
  refine R.asE rfl (by conv => lhs; whnf) ?_
  refine TL.shut .hd ?_
  intro Hb10_1 sb10_1 qb10_1
  have hb10_1 : Hb10_1 b10 = some (.cells #[.bool (r22.1.1), .bool (r22.1.2.1), .int .i64 (r22.1.2.2.1), .int .i64 (r22.1.2.2.2.1), .int .i64 (r22.1.2.2.2.2)] 53) := shut1 qb10_1
  refine TL.nil (Post.thnN ?_)
  refine T.seq ?_
  refine T.seq ?_
  refine T.cutK (ι := Bool) (fun b41c1 H' L' ds' => Has L' [] ∧ (if ((kindG a1) : Int) ≠ 3 then true else (if (!r22.2) = true then true else (if a2 ≠ r16.1 then ((decide (a2 ≠ r16.2))) else false)) : Bool) = b41c1) (fun b41c1 => [(2, .int .i64 a2), (8, .int .i64 (r16.1)), (9, .int .i64 (r16.2)), (10, .pointer (some ⟨b10, 0, none⟩)), (41, .bool (b41c1))]) ?_ ?_
  · refine T.region ?_
    refine R.mvE rfl (by conv => lhs; whnf) ?_
    refine R.callv rfl rfl rfl (kindG_c _ a1) ?_
    refine R.neq rfl rfl rfl ?_
    refine R.mvE rfl (by conv => lhs; whnf) ?_
    refine TL.gsplitD 28 rfl (fun g28 => ?_) (fun g28 => ?_)
    · refine TL.off rfl rfl rfl ?_
      refine TL.off rfl rfl rfl ?_
      refine R.pkTE rfl rfl (by conv => lhs; whnf) ?_
      refine R.mvE rfl (by conv => lhs; whnf) ?_
      refine TL.off rfl rfl rfl ?_
      refine TL.off rfl rfl rfl ?_
      refine TL.off rfl rfl rfl ?_
      refine TL.off rfl rfl rfl ?_
      refine TL.offU rfl rfl ?_
      refine TL.offU rfl rfl ?_
      refine TL.offU rfl rfl ?_
      refine TL.off rfl rfl rfl ?_
      refine R.pkTE rfl rfl (by conv => lhs; whnf) ?_
      refine TL.nil (Post.thnN ?_)
      exact ⟨true, HLe.refl _, ⟨Has.nil, (by rw [if_pos g28])⟩, rfl, rfl, rfl, rfl, rfl, trivial⟩
    · refine R.mvE rfl (by conv => lhs; whnf) ?_
      refine R.not rfl rfl ?_
      refine R.pkFE rfl rfl (by conv => lhs; whnf) ?_
      refine R.mvE rfl (by conv => lhs; whnf) ?_
      refine TL.gsplit 32 rfl (fun g32 => ?_) (fun g32 => ?_)
      · refine TL.off rfl rfl rfl ?_
        refine TL.off rfl rfl rfl ?_
        refine TL.off rfl rfl rfl ?_
        refine TL.off rfl rfl rfl ?_
        refine TL.offU rfl rfl ?_
        refine TL.offU rfl rfl ?_
        refine TL.offU rfl rfl ?_
        refine TL.off rfl rfl rfl ?_
        refine R.pkTE rfl rfl (by conv => lhs; whnf) ?_
        refine TL.nil (Post.thnN ?_)
        exact ⟨true, HLe.refl _, ⟨Has.nil, (by rw [if_neg g28, if_t g32])⟩, rfl, rfl, rfl, rfl, rfl, trivial⟩
      · refine R.mvE rfl (by conv => lhs; whnf) ?_
        refine R.mvE rfl (by conv => lhs; whnf) ?_
        refine R.neq rfl rfl rfl ?_
        refine R.mvE rfl (by conv => lhs; whnf) ?_
        refine TL.gsplitD 36 rfl (fun g36 => ?_) (fun g36 => ?_)
        · refine R.mvE rfl (by conv => lhs; whnf) ?_
          refine R.mvE rfl (by conv => lhs; whnf) ?_
          refine R.neq rfl rfl rfl ?_
          refine R.pkTE rfl rfl (by conv => lhs; whnf) ?_
          refine R.pkFE rfl rfl (by conv => lhs; whnf) ?_
          refine TL.nil (Post.thnN ?_)
          exact ⟨(decide (a2 ≠ r16.2)), HLe.refl _, ⟨Has.nil, (by rw [if_neg g28, if_f g32, if_pos g36])⟩, rfl, rfl, rfl, rfl, rfl, trivial⟩
        · refine TL.off rfl rfl rfl ?_
          refine TL.off rfl rfl rfl ?_
          refine TL.off rfl rfl rfl ?_
          refine R.pkFE rfl rfl (by conv => lhs; whnf) ?_
          refine R.pkFE rfl rfl (by conv => lhs; whnf) ?_
          refine TL.nil (Post.thnN ?_)
          exact ⟨false, HLe.refl _, ⟨Has.nil, (by rw [if_neg g28, if_f g32, if_neg g36])⟩, rfl, rfl, rfl, rfl, rfl, trivial⟩
  · intro b41c1 σ_c1 H_c1 L_c1 ds_c1 s_c1 hI_c1
    obtain ⟨hLc1, hTc1⟩ := hI_c1
    refine T.has hLc1 ?_
    refine T.cond rfl (fun c41 => ?_) (fun c41 => ?_)
    · refine T.set 41 (.bool true) (congrArg Value.bool c41) ?_
      have hZ41 := hTc1.trans c41
      try simp only [or_f, or_t, and_f, and_t, decide_eq_true_eq, decide_eq_false_iff_not, Bool.not_eq_true'] at hZ41
      refine T.seq ?_
      refine T.region ?_
      refine R.asE rfl (by conv => lhs; whnf) ?_
      refine R.asE rfl (by conv => lhs; whnf) ?_
      refine TL.nil (Post.thnN ?_)
      refine T.has Has.nil ?_
      refine T.ret (Post.thnR ?_)
      have hM : trait_Policy_m a0 a1 a2 = (0, false) := by subst er22; subst er16; rw [trait_Policy_m, LR.seq_go, LR.seq_go, hTc1, LR.seq_go, if_t c41]
      exact fin2L (v := .int .i64 0) (v' := .bool false) [] rfl rfl rfl (List.Sublist.refl _) ⟨rfl, by first | rw [hM] | rfl⟩
    · refine T.set 41 (.bool false) (congrArg Value.bool c41) ?_
      have hZ41 := hTc1.trans c41
      try simp only [or_f, or_t, and_f, and_t, decide_eq_true_eq, decide_eq_false_iff_not, Bool.not_eq_true'] at hZ41
      refine T.skip (Post.thnN ?_)
      refine T.seq ?_
      have tp := tp22 (by simpa using hZ41.2.1)
      refine T.region ?_
      refine R.bld (cs := [.bool false, .bool false, .bool false]) rfl (fun _ => by kernel_rfl) ?_
      refine R.alloc Tryz.zeroValue140 rfl ?_
      intro b12
      refine R.stX (old := [.bool false, .bool false, .bool false]) (l := [.bool false, .bool false, .bool false]) (new := [.bool false, .bool false, .bool false]) (et := 140) Tryz.sizeOf140 rfl rfl rfl rfl rfl (by show 0 + 3 ≤ 3; decide) rfl (all_one rfl) .hd ?_
      refine TL.nil (Post.thnN ?_)
      refine T.seq ?_
      refine T.seq ?_
      refine T.region ?_
      refine R.mvE rfl (by conv => lhs; whnf) ?_
      refine R.mvE rfl (by conv => lhs; whnf) ?_
      refine R.eql rfl rfl rfl ?_
      refine TL.nil (Post.thnN ?_)
      refine T.cutK (ι := Bool × Bool × Bool) (fun ⟨bb12c2_0, bb12c2_1, bb12c2_2⟩ H' L' ds' => Has L' [[(b12, .cells #[.bool (bb12c2_0), .bool (bb12c2_1), .bool (bb12c2_2)] 140)]] ∧ (if a2 = r16.2 then (((if r22.1.2.2.2.1 = 0 then true else false), (if r22.1.2.2.2.1 = 1 then true else false), (if r22.1.2.2.2.1 = 2 then true else false))) else ((false, false, false)) : Bool × Bool × Bool) = (bb12c2_0, bb12c2_1, bb12c2_2)) (fun ⟨bb12c2_0, bb12c2_1, bb12c2_2⟩ => [(2, .int .i64 a2), (8, .int .i64 (r16.1)), (10, .pointer (some ⟨b10, 0, none⟩)), (12, .pointer (some ⟨b12, 0, none⟩))]) ?_ ?_
      · refine T.condD rfl (fun c45 => ?_) (fun c45 => ?_)
        · refine T.set 45 (.bool true) (congrArg Value.bool (decide_eq_true c45)) ?_
          refine T.region ?_
          refine R.fldA Tryz.underlying53 rfl Tryz.sizeOf3 (by decide) rfl rfl ?_
          refine R.ldH Tryz.isAgg3 rfl rfl (s_c1 _ _ hb10_1) rfl ?_
          refine R.ixA Tryz.underlying140 Tryz.sizeOf4 rfl rfl rfl (by first | omega | (simp; done) | (simp; omega) | (simp at *; omega)) (by first | omega | (simp; done) | (simp; omega) | (simp at *; omega)) ?_
          refine R.stX (old := [.bool false, .bool false, .bool false]) (l := [.bool true]) (new := [.bool ((if r22.1.2.2.2.1 = 0 then true else false)), .bool ((if r22.1.2.2.2.1 = 1 then true else false)), .bool ((if r22.1.2.2.2.1 = 2 then true else false))]) (et := 140) Tryz.sizeOf4 rfl rfl rfl (cells1 rfl) rfl (by show 0 + r22.1.2.2.2.1.toNat * 1 + 1 ≤ 3; omega) (by rcases (show r22.1.2.2.2.1 = 0 ∨ r22.1.2.2.2.1 = 1 ∨ r22.1.2.2.2.1 = 2 by omega) with h | h | h <;> simp only [h] <;> rfl) (all_one rfl) .hd ?_
          refine TL.nil (Post.thnN ?_)
          exact ⟨((if r22.1.2.2.2.1 = 0 then true else false), (if r22.1.2.2.2.1 = 1 then true else false), (if r22.1.2.2.2.1 = 2 then true else false)), HLe.refl _, ⟨(Has.cons .hd Has.nil), (by rw [if_pos c45])⟩, rfl, rfl, rfl, rfl, trivial⟩
        · refine T.set 45 (.bool false) (congrArg Value.bool (decide_eq_false c45)) ?_
          refine T.skip (Post.thnN ?_)
          exact ⟨(false, false, false), HLe.refl _, ⟨(Has.cons .hd Has.nil), (by rw [if_neg c45])⟩, rfl, rfl, rfl, rfl, trivial⟩
      · intro ⟨bb12c2_0, bb12c2_1, bb12c2_2⟩ σ_c2 H_c2 L_c2 ds_c2 s_c2 hI_c2
        obtain ⟨hLc2, hTc2⟩ := hI_c2
        refine T.has hLc2 ?_
        refine T.seq ?_
        refine T.seq ?_
        refine T.region ?_
        refine R.mvE rfl (by conv => lhs; whnf) ?_
        refine R.mvE rfl (by conv => lhs; whnf) ?_
        refine R.eql rfl rfl rfl ?_
        refine TL.nil (Post.thnN ?_)
        refine T.cutK (ι := Bool × Bool × Bool) (fun ⟨bb12c3_0, bb12c3_1, bb12c3_2⟩ H' L' ds' => Has L' [[(b12, .cells #[.bool (bb12c3_0), .bool (bb12c3_1), .bool (bb12c3_2)] 140)]] ∧ (if a2 = r16.1 then (((if r22.1.2.2.2.2 = 0 then true else bb12c2_0), (if r22.1.2.2.2.2 = 1 then true else bb12c2_1), (if r22.1.2.2.2.2 = 2 then true else bb12c2_2))) else ((bb12c2_0, bb12c2_1, bb12c2_2)) : Bool × Bool × Bool) = (bb12c3_0, bb12c3_1, bb12c3_2)) (fun ⟨bb12c3_0, bb12c3_1, bb12c3_2⟩ => [(12, .pointer (some ⟨b12, 0, none⟩))]) ?_ ?_
        · refine T.condD rfl (fun c51 => ?_) (fun c51 => ?_)
          · refine T.set 51 (.bool true) (congrArg Value.bool (decide_eq_true c51)) ?_
            refine T.region ?_
            refine R.fldA Tryz.underlying53 rfl Tryz.sizeOf3 (by decide) rfl rfl ?_
            refine R.ldH Tryz.isAgg3 rfl rfl ((s_c1.trans s_c2) _ _ hb10_1) rfl ?_
            refine R.ixA Tryz.underlying140 Tryz.sizeOf4 rfl rfl rfl (by first | omega | (simp; done) | (simp; omega) | (simp at *; omega)) (by first | omega | (simp; done) | (simp; omega) | (simp at *; omega)) ?_
            refine R.stX (old := [.bool (bb12c2_0), .bool (bb12c2_1), .bool (bb12c2_2)]) (l := [.bool true]) (new := [.bool ((if r22.1.2.2.2.2 = 0 then true else bb12c2_0)), .bool ((if r22.1.2.2.2.2 = 1 then true else bb12c2_1)), .bool ((if r22.1.2.2.2.2 = 2 then true else bb12c2_2))]) (et := 140) Tryz.sizeOf4 rfl rfl rfl (cells1 rfl) rfl (by show 0 + r22.1.2.2.2.2.toNat * 1 + 1 ≤ 3; omega) (by rcases (show r22.1.2.2.2.2 = 0 ∨ r22.1.2.2.2.2 = 1 ∨ r22.1.2.2.2.2 = 2 by omega) with h | h | h <;> simp only [h] <;> rfl) (all_one rfl) .hd ?_
            refine TL.nil (Post.thnN ?_)
            exact ⟨((if r22.1.2.2.2.2 = 0 then true else bb12c2_0), (if r22.1.2.2.2.2 = 1 then true else bb12c2_1), (if r22.1.2.2.2.2 = 2 then true else bb12c2_2)), HLe.refl _, ⟨(Has.cons .hd Has.nil), (by rw [if_pos c51])⟩, rfl, trivial⟩
          · refine T.set 51 (.bool false) (congrArg Value.bool (decide_eq_false c51)) ?_
            refine T.skip (Post.thnN ?_)
            exact ⟨(bb12c2_0, bb12c2_1, bb12c2_2), HLe.refl _, ⟨(Has.cons .hd Has.nil), (by rw [if_neg c51])⟩, rfl, trivial⟩
        · intro ⟨bb12c3_0, bb12c3_1, bb12c3_2⟩ σ_c3 H_c3 L_c3 ds_c3 s_c3 hI_c3
          obtain ⟨hLc3, hTc3⟩ := hI_c3
          refine T.has hLc3 ?_
          refine T.seq ?_
          refine T.region ?_
          refine R.asE rfl (by conv => lhs; whnf) ?_
          refine TL.nil (Post.thnN ?_)
          refine T.seq ?_
          refine T.block ?_
          refine T.seq ?_
          refine T.cutK (ι := Int) (fun n13c4 H' L' ds' => Has L' [[(b12, .cells #[.bool (bb12c3_0), .bool (bb12c3_1), .bool (bb12c3_2)] 140)]] ∧ (if bb12c3_1 = true then (.ret ((1, true))) else (if bb12c3_2 = true then (.go ((0 + 1))) else (.go 0)) : LR (Int × Bool) (Int)) = .go n13c4) (fun n13c4 => [(12, .pointer (some ⟨b12, 0, none⟩)), (13, .int .i64 n13c4)]) ?_ ?_
          · refine T.block ?_
            refine T.seq ?_
            refine T.block ?_
            refine T.seq ?_
            refine T.block ?_
            refine T.seq ?_
            refine T.seq ?_
            refine T.seq ?_
            refine T.region ?_
            refine R.ixA Tryz.underlying140 Tryz.sizeOf4 rfl rfl rfl (by decide) (by decide) ?_
            refine R.ld Tryz.isAgg4 rfl rfl .hd rfl ?_
            refine R.asE rfl (by conv => lhs; whnf) ?_
            refine TL.nil (Post.thnN ?_)
            refine T.cond rfl (fun c55 => ?_) (fun c55 => ?_)
            · refine T.set 55 (.bool true) (congrArg Value.bool c55) ?_
              refine T.exit (Post.thnE (Post.thnE (Post.blkX ?_)))
              refine id (Post.thnN ?_)
              refine T.seq ?_
              refine T.region ?_
              refine R.asE rfl (by conv => lhs; whnf) ?_
              refine TL.nil (Post.thnN ?_)
              refine T.exit (Post.blkE rfl (Post.thnE (Post.blkE rfl (Post.thnE (Post.blkX ?_)))))
              refine id (Post.thnN ?_)
              refine T.seq ?_
              refine T.region ?_
              refine R.mvE rfl (by conv => lhs; whnf) ?_
              refine R.asE rfl (by conv => lhs; whnf) ?_
              refine R.asE rfl (by conv => lhs; whnf) ?_
              refine TL.nil (Post.thnN ?_)
              refine T.has Has.nil ?_
              refine T.ret ?_
              have hM : trait_Policy_m a0 a1 a2 = (1, true) := by subst er22; subst er16; rw [trait_Policy_m, LR.seq_go, LR.seq_go, hTc1, LR.seq_go, if_f c41, hTc2, LR.seq_go, hTc3, LR.seq_go, if_t c55, LR.on_ret]
              exact fin2L (v := .int .i64 1) (v' := .bool true) [] rfl rfl rfl (List.Sublist.refl _) ⟨rfl, by first | rw [hM] | rfl⟩
            · refine T.set 55 (.bool false) (congrArg Value.bool c55) ?_
              refine T.skip (Post.thnN ?_)
              refine T.seq ?_
              refine T.region ?_
              refine R.ixA Tryz.underlying140 Tryz.sizeOf4 rfl rfl rfl (by decide) (by decide) ?_
              refine R.ld Tryz.isAgg4 rfl rfl .hd rfl ?_
              refine R.asE rfl (by conv => lhs; whnf) ?_
              refine TL.nil (Post.thnN ?_)
              refine T.cond rfl (fun c58 => ?_) (fun c58 => ?_)
              · refine T.set 58 (.bool true) (congrArg Value.bool c58) ?_
                refine T.exit (Post.thnE (Post.blkE rfl (Post.thnE (Post.blkX ?_))))
                refine id (Post.thnN ?_)
                refine T.region ?_
                refine R.mvE rfl (by conv => lhs; whnf) ?_
                refine R.addI rfl rfl rfl (by omega) ?_
                refine R.asE rfl (by conv => lhs; whnf) ?_
                refine TL.nil (Post.blkN ?_)
                refine id (Post.thnN ?_)
                exact ⟨(0 + 1), HLe.refl _, ⟨(Has.cons .hd Has.nil), (by rw [if_f c55, if_t c58])⟩, rfl, rfl, trivial⟩
              · refine T.set 58 (.bool false) (congrArg Value.bool c58) ?_
                refine T.skip (Post.thnN ?_)
                refine T.exit (Post.blkE rfl (Post.thnE (Post.blkE rfl (Post.thnE (Post.blkX ?_)))))
                refine id (Post.thnN ?_)
                exact ⟨0, HLe.refl _, ⟨(Has.cons .hd Has.nil), (by rw [if_f c55, if_f c58])⟩, rfl, rfl, trivial⟩
          · intro n13c4 σ_c4 H_c4 L_c4 ds_c4 s_c4 hI_c4
            obtain ⟨hLc4, hTc4⟩ := hI_c4
            refine T.has hLc4 ?_
            refine T.seq ?_
            refine T.seq ?_
            refine T.region ?_
            refine R.ixA Tryz.underlying140 Tryz.sizeOf4 rfl rfl rfl (by decide) (by decide) ?_
            refine R.ld Tryz.isAgg4 rfl rfl .hd rfl ?_
            refine TL.nil (Post.thnN ?_)
            refine T.cond rfl (fun c64 => ?_) (fun c64 => ?_)
            · refine T.set 64 (.bool true) (congrArg Value.bool c64) ?_
              refine T.region ?_
              refine R.mvE rfl (by conv => lhs; whnf) ?_
              refine R.add rfl rfl rfl ?_
              refine R.asE rfl (by conv => lhs; whnf) ?_
              refine TL.nil (Post.thnN ?_)
              refine T.exit (Post.blkX ?_)
              refine id (Post.thnN ?_)
              refine T.seq ?_
              refine T.region ?_
              refine R.mvE rfl (by conv => lhs; whnf) ?_
              refine R.asE rfl (by conv => lhs; whnf) ?_
              refine R.asE rfl (by conv => lhs; whnf) ?_
              refine TL.nil (Post.thnN ?_)
              refine T.has Has.nil ?_
              refine T.ret ?_
              have hM : trait_Policy_m a0 a1 a2 = ((IntKind.i64.wrap (n13c4 + 1)), true) := by subst er22; subst er16; rw [trait_Policy_m, LR.seq_go, LR.seq_go, hTc1, LR.seq_go, if_f c41, hTc2, LR.seq_go, hTc3, LR.seq_go, hTc4, LR.on_go, if_t c64]
              exact fin2L (v := .int .i64 (IntKind.i64.wrap (n13c4 + 1))) (v' := .bool true) [] rfl rfl rfl (List.Sublist.refl _) ⟨rfl, by first | rw [hM] | rfl⟩
            · refine T.set 64 (.bool false) (congrArg Value.bool c64) ?_
              refine T.skip (Post.thnN ?_)
              refine T.exit (Post.blkX ?_)
              refine id (Post.thnN ?_)
              refine T.seq ?_
              refine T.region ?_
              refine R.mvE rfl (by conv => lhs; whnf) ?_
              refine R.asE rfl (by conv => lhs; whnf) ?_
              refine R.asE rfl (by conv => lhs; whnf) ?_
              refine TL.nil (Post.thnN ?_)
              refine T.has Has.nil ?_
              refine T.ret ?_
              have hM : trait_Policy_m a0 a1 a2 = (n13c4, true) := by subst er22; subst er16; rw [trait_Policy_m, LR.seq_go, LR.seq_go, hTc1, LR.seq_go, if_f c41, hTc2, LR.seq_go, hTc3, LR.seq_go, hTc4, LR.on_go, if_f c64]
              exact fin2L (v := .int .i64 n13c4) (v' := .bool true) [] rfl rfl rfl (List.Sublist.refl _) ⟨rfl, by first | rw [hM] | rfl⟩

def plan_index_m (a0 : Int) : Bool :=
  if (1 : Int) ≤ a0 then ((decide (a0 ≤ 1048578))) else false
set_option maxHeartbeats 3200000 in
theorem plan_index_c (H : Heap) (a0 : Int) : Fv Tryz.prog (fnv 31) [.int .i64 a0] H (.bool (plan_index_m a0)) := by
  refine Fc.of_body (N := 9) Tryz.func31 rfl (by kernel_rfl) rfl rfl ?_
  intro w0
  refine T.seq ?_
  refine T.region ?_
  refine R.asE rfl (by conv => lhs; whnf) ?_
  refine TL.nil (Post.thnN ?_)
  refine T.seq ?_
  refine T.region ?_
  refine R.mvE rfl (by conv => lhs; whnf) ?_
  refine R.geq rfl rfl rfl ?_
  refine R.mvE rfl (by conv => lhs; whnf) ?_
  refine TL.gsplitD 5 rfl (fun g5 => ?_) (fun g5 => ?_)
  · refine R.mvE rfl (by conv => lhs; whnf) ?_
    refine R.leq rfl rfl rfl ?_
    refine R.pkTE rfl rfl (by conv => lhs; whnf) ?_
    refine R.asE rfl (by conv => lhs; whnf) ?_
    refine TL.nil (Post.thnN ?_)
    refine T.has Has.nil ?_
    refine T.ret ?_
    have hM : plan_index_m a0 = (decide (a0 ≤ 1048578)) := by rw [plan_index_m, if_pos g5]
    exact fin1L (v := .bool (decide (a0 ≤ 1048578))) [] rfl rfl (List.Sublist.refl _) ⟨rfl, by first | rw [hM] | rfl⟩
  · refine TL.off rfl rfl rfl ?_
    refine TL.off rfl rfl rfl ?_
    refine R.pkFE rfl rfl (by conv => lhs; whnf) ?_
    refine R.asE rfl (by conv => lhs; whnf) ?_
    refine TL.nil (Post.thnN ?_)
    refine T.has Has.nil ?_
    refine T.ret ?_
    have hM : plan_index_m a0 = false := by rw [plan_index_m, if_neg g5]
    exact fin1L (v := .bool false) [] rfl rfl (List.Sublist.refl _) ⟨rfl, by first | rw [hM] | rfl⟩

def cmp_isNaN_int_m (a0 : Int) : Bool :=
  (decide (a0 ≠ a0))
set_option maxHeartbeats 3200000 in
theorem cmp_isNaN_int_c (H : Heap) (a0 : Int) : Fv Tryz.prog (fnv 92) [.int .i64 a0] H (.bool (cmp_isNaN_int_m a0)) := by
  refine Fc.of_body (N := 6) Tryz.func92 rfl (by kernel_rfl) rfl rfl ?_
  intro w0
  refine T.seq ?_
  refine T.region ?_
  refine R.asE rfl (by conv => lhs; whnf) ?_
  refine TL.nil (Post.thnN ?_)
  refine T.seq ?_
  refine T.region ?_
  refine R.mvE rfl (by conv => lhs; whnf) ?_
  refine R.mvE rfl (by conv => lhs; whnf) ?_
  refine R.neq rfl rfl rfl ?_
  refine R.asE rfl (by conv => lhs; whnf) ?_
  refine TL.nil (Post.thnN ?_)
  refine T.has Has.nil ?_
  refine T.ret ?_
  have hM : cmp_isNaN_int_m a0 = (decide (a0 ≠ a0)) := by rw [cmp_isNaN_int_m]
  exact fin1L (v := .bool (decide (a0 ≠ a0))) [] rfl rfl (List.Sublist.refl _) ⟨rfl, by first | rw [hM] | rfl⟩

def cmp_Compare_int_m (a0 : Int) (a1 : Int) : Int :=
  if (cmp_isNaN_int_m a0) = true then (if (cmp_isNaN_int_m a1) = true then 0 else (-1)) else (if (cmp_isNaN_int_m a1) = true then 1 else (if a0 < a1 then (-1) else (if a1 < a0 then 1 else 0)))
set_option maxHeartbeats 3200000 in
theorem cmp_Compare_int_c (H : Heap) (a0 : Int) (a1 : Int) : Fv Tryz.prog (fnv 74) [.int .i64 a0, .int .i64 a1] H (.int .i64 (cmp_Compare_int_m a0 a1)) := by
  refine Fc.of_body (N := 20) Tryz.func74 rfl (by kernel_rfl) rfl rfl ?_
  intro w0
  refine T.seq ?_
  refine T.region ?_
  refine R.asE rfl (by conv => lhs; whnf) ?_
  refine TL.nil (Post.thnN ?_)
  refine T.seq ?_
  refine T.region ?_
  refine R.mvE rfl (by conv => lhs; whnf) ?_
  refine R.callv rfl rfl rfl (cmp_isNaN_int_c _ (a0)) ?_
  refine R.asE rfl (by conv => lhs; whnf) ?_
  refine TL.nil (Post.thnN ?_)
  refine T.seq ?_
  refine T.region ?_
  refine R.mvE rfl (by conv => lhs; whnf) ?_
  refine R.callv rfl rfl rfl (cmp_isNaN_int_c _ (a1)) ?_
  refine R.asE rfl (by conv => lhs; whnf) ?_
  refine TL.nil (Post.thnN ?_)
  refine T.seq ?_
  refine T.seq ?_
  refine T.region ?_
  refine R.mvE rfl (by conv => lhs; whnf) ?_
  refine TL.nil (Post.thnN ?_)
  refine T.cond rfl (fun c11 => ?_) (fun c11 => ?_)
  · refine T.set 11 (.bool true) (congrArg Value.bool c11) ?_
    refine T.seq ?_
    refine T.seq ?_
    refine T.region ?_
    refine R.mvE rfl (by conv => lhs; whnf) ?_
    refine TL.nil (Post.thnN ?_)
    refine T.cond rfl (fun c12 => ?_) (fun c12 => ?_)
    · refine T.set 12 (.bool true) (congrArg Value.bool c12) ?_
      refine T.seq ?_
      refine T.region ?_
      refine R.asE rfl (by conv => lhs; whnf) ?_
      refine TL.nil (Post.thnN ?_)
      refine T.has Has.nil ?_
      refine T.ret (Post.thnR (Post.thnR ?_))
      have hM : cmp_Compare_int_m a0 a1 = 0 := by rw [cmp_Compare_int_m, if_t c11, if_t c12]
      exact fin1L (v := .int .i64 0) [] rfl rfl (List.Sublist.refl _) ⟨rfl, by first | rw [hM] | rfl⟩
    · refine T.set 12 (.bool false) (congrArg Value.bool c12) ?_
      refine T.skip (Post.thnN ?_)
      refine T.seq ?_
      refine T.region ?_
      refine R.asE rfl (by conv => lhs; whnf) ?_
      refine TL.nil (Post.thnN ?_)
      refine T.has Has.nil ?_
      refine T.ret (Post.thnR ?_)
      have hM : cmp_Compare_int_m a0 a1 = (-1) := by rw [cmp_Compare_int_m, if_t c11, if_f c12]
      exact fin1L (v := .int .i64 (-1)) [] rfl rfl (List.Sublist.refl _) ⟨rfl, by first | rw [hM] | rfl⟩
  · refine T.set 11 (.bool false) (congrArg Value.bool c11) ?_
    refine T.skip (Post.thnN ?_)
    refine T.seq ?_
    refine T.seq ?_
    refine T.region ?_
    refine R.mvE rfl (by conv => lhs; whnf) ?_
    refine TL.nil (Post.thnN ?_)
    refine T.cond rfl (fun c13 => ?_) (fun c13 => ?_)
    · refine T.set 13 (.bool true) (congrArg Value.bool c13) ?_
      refine T.seq ?_
      refine T.region ?_
      refine R.asE rfl (by conv => lhs; whnf) ?_
      refine TL.nil (Post.thnN ?_)
      refine T.has Has.nil ?_
      refine T.ret (Post.thnR ?_)
      have hM : cmp_Compare_int_m a0 a1 = 1 := by rw [cmp_Compare_int_m, if_f c11, if_t c13]
      exact fin1L (v := .int .i64 1) [] rfl rfl (List.Sublist.refl _) ⟨rfl, by first | rw [hM] | rfl⟩
    · refine T.set 13 (.bool false) (congrArg Value.bool c13) ?_
      refine T.skip (Post.thnN ?_)
      refine T.seq ?_
      refine T.seq ?_
      refine T.region ?_
      refine R.mvE rfl (by conv => lhs; whnf) ?_
      refine R.mvE rfl (by conv => lhs; whnf) ?_
      refine R.lss rfl rfl rfl ?_
      refine TL.nil (Post.thnN ?_)
      refine T.condD rfl (fun c16 => ?_) (fun c16 => ?_)
      · refine T.set 16 (.bool true) (congrArg Value.bool (decide_eq_true c16)) ?_
        refine T.seq ?_
        refine T.region ?_
        refine R.asE rfl (by conv => lhs; whnf) ?_
        refine TL.nil (Post.thnN ?_)
        refine T.has Has.nil ?_
        refine T.ret (Post.thnR ?_)
        have hM : cmp_Compare_int_m a0 a1 = (-1) := by rw [cmp_Compare_int_m, if_f c11, if_f c13, if_pos c16]
        exact fin1L (v := .int .i64 (-1)) [] rfl rfl (List.Sublist.refl _) ⟨rfl, by first | rw [hM] | rfl⟩
      · refine T.set 16 (.bool false) (congrArg Value.bool (decide_eq_false c16)) ?_
        refine T.skip (Post.thnN ?_)
        refine T.seq ?_
        refine T.seq ?_
        refine T.region ?_
        refine R.mvE rfl (by conv => lhs; whnf) ?_
        refine R.mvE rfl (by conv => lhs; whnf) ?_
        refine R.gtr rfl rfl rfl ?_
        refine TL.nil (Post.thnN ?_)
        refine T.condD rfl (fun c19 => ?_) (fun c19 => ?_)
        · refine T.set 19 (.bool true) (congrArg Value.bool (decide_eq_true c19)) ?_
          refine T.seq ?_
          refine T.region ?_
          refine R.asE rfl (by conv => lhs; whnf) ?_
          refine TL.nil (Post.thnN ?_)
          refine T.has Has.nil ?_
          refine T.ret (Post.thnR ?_)
          have hM : cmp_Compare_int_m a0 a1 = 1 := by rw [cmp_Compare_int_m, if_f c11, if_f c13, if_neg c16, if_pos c19]
          exact fin1L (v := .int .i64 1) [] rfl rfl (List.Sublist.refl _) ⟨rfl, by first | rw [hM] | rfl⟩
        · refine T.set 19 (.bool false) (congrArg Value.bool (decide_eq_false c19)) ?_
          refine T.skip (Post.thnN ?_)
          refine T.seq ?_
          refine T.region ?_
          refine R.asE rfl (by conv => lhs; whnf) ?_
          refine TL.nil (Post.thnN ?_)
          refine T.has Has.nil ?_
          refine T.ret ?_
          have hM : cmp_Compare_int_m a0 a1 = 0 := by rw [cmp_Compare_int_m, if_f c11, if_f c13, if_neg c16, if_neg c19]
          exact fin1L (v := .int .i64 0) [] rfl rfl (List.Sublist.refl _) ⟨rfl, by first | rw [hM] | rfl⟩

def cmp_isNaN_Id_m (a0 : Int) : Bool :=
  (decide (a0 ≠ a0))
set_option maxHeartbeats 3200000 in
theorem cmp_isNaN_Id_c (H : Heap) (a0 : Int) : Fv Tryz.prog (fnv 93) [.int .u64 a0] H (.bool (cmp_isNaN_Id_m a0)) := by
  refine Fc.of_body (N := 6) Tryz.func93 rfl (by kernel_rfl) rfl rfl ?_
  intro w0
  refine T.seq ?_
  refine T.region ?_
  refine R.asE rfl (by conv => lhs; whnf) ?_
  refine TL.nil (Post.thnN ?_)
  refine T.seq ?_
  refine T.region ?_
  refine R.mvE rfl (by conv => lhs; whnf) ?_
  refine R.mvE rfl (by conv => lhs; whnf) ?_
  refine R.neq rfl rfl rfl ?_
  refine R.asE rfl (by conv => lhs; whnf) ?_
  refine TL.nil (Post.thnN ?_)
  refine T.has Has.nil ?_
  refine T.ret ?_
  have hM : cmp_isNaN_Id_m a0 = (decide (a0 ≠ a0)) := by rw [cmp_isNaN_Id_m]
  exact fin1L (v := .bool (decide (a0 ≠ a0))) [] rfl rfl (List.Sublist.refl _) ⟨rfl, by first | rw [hM] | rfl⟩

def cmp_Compare_Id_m (a0 : Int) (a1 : Int) : Int :=
  if (cmp_isNaN_Id_m a0) = true then (if (cmp_isNaN_Id_m a1) = true then 0 else (-1)) else (if (cmp_isNaN_Id_m a1) = true then 1 else (if a0 < a1 then (-1) else (if a1 < a0 then 1 else 0)))
set_option maxHeartbeats 3200000 in
theorem cmp_Compare_Id_c (H : Heap) (a0 : Int) (a1 : Int) : Fv Tryz.prog (fnv 75) [.int .u64 a0, .int .u64 a1] H (.int .i64 (cmp_Compare_Id_m a0 a1)) := by
  refine Fc.of_body (N := 20) Tryz.func75 rfl (by kernel_rfl) rfl rfl ?_
  intro w0
  refine T.seq ?_
  refine T.region ?_
  refine R.asE rfl (by conv => lhs; whnf) ?_
  refine TL.nil (Post.thnN ?_)
  refine T.seq ?_
  refine T.region ?_
  refine R.mvE rfl (by conv => lhs; whnf) ?_
  refine R.callv rfl rfl rfl (cmp_isNaN_Id_c _ (a0)) ?_
  refine R.asE rfl (by conv => lhs; whnf) ?_
  refine TL.nil (Post.thnN ?_)
  refine T.seq ?_
  refine T.region ?_
  refine R.mvE rfl (by conv => lhs; whnf) ?_
  refine R.callv rfl rfl rfl (cmp_isNaN_Id_c _ (a1)) ?_
  refine R.asE rfl (by conv => lhs; whnf) ?_
  refine TL.nil (Post.thnN ?_)
  refine T.seq ?_
  refine T.seq ?_
  refine T.region ?_
  refine R.mvE rfl (by conv => lhs; whnf) ?_
  refine TL.nil (Post.thnN ?_)
  refine T.cond rfl (fun c11 => ?_) (fun c11 => ?_)
  · refine T.set 11 (.bool true) (congrArg Value.bool c11) ?_
    refine T.seq ?_
    refine T.seq ?_
    refine T.region ?_
    refine R.mvE rfl (by conv => lhs; whnf) ?_
    refine TL.nil (Post.thnN ?_)
    refine T.cond rfl (fun c12 => ?_) (fun c12 => ?_)
    · refine T.set 12 (.bool true) (congrArg Value.bool c12) ?_
      refine T.seq ?_
      refine T.region ?_
      refine R.asE rfl (by conv => lhs; whnf) ?_
      refine TL.nil (Post.thnN ?_)
      refine T.has Has.nil ?_
      refine T.ret (Post.thnR (Post.thnR ?_))
      have hM : cmp_Compare_Id_m a0 a1 = 0 := by rw [cmp_Compare_Id_m, if_t c11, if_t c12]
      exact fin1L (v := .int .i64 0) [] rfl rfl (List.Sublist.refl _) ⟨rfl, by first | rw [hM] | rfl⟩
    · refine T.set 12 (.bool false) (congrArg Value.bool c12) ?_
      refine T.skip (Post.thnN ?_)
      refine T.seq ?_
      refine T.region ?_
      refine R.asE rfl (by conv => lhs; whnf) ?_
      refine TL.nil (Post.thnN ?_)
      refine T.has Has.nil ?_
      refine T.ret (Post.thnR ?_)
      have hM : cmp_Compare_Id_m a0 a1 = (-1) := by rw [cmp_Compare_Id_m, if_t c11, if_f c12]
      exact fin1L (v := .int .i64 (-1)) [] rfl rfl (List.Sublist.refl _) ⟨rfl, by first | rw [hM] | rfl⟩
  · refine T.set 11 (.bool false) (congrArg Value.bool c11) ?_
    refine T.skip (Post.thnN ?_)
    refine T.seq ?_
    refine T.seq ?_
    refine T.region ?_
    refine R.mvE rfl (by conv => lhs; whnf) ?_
    refine TL.nil (Post.thnN ?_)
    refine T.cond rfl (fun c13 => ?_) (fun c13 => ?_)
    · refine T.set 13 (.bool true) (congrArg Value.bool c13) ?_
      refine T.seq ?_
      refine T.region ?_
      refine R.asE rfl (by conv => lhs; whnf) ?_
      refine TL.nil (Post.thnN ?_)
      refine T.has Has.nil ?_
      refine T.ret (Post.thnR ?_)
      have hM : cmp_Compare_Id_m a0 a1 = 1 := by rw [cmp_Compare_Id_m, if_f c11, if_t c13]
      exact fin1L (v := .int .i64 1) [] rfl rfl (List.Sublist.refl _) ⟨rfl, by first | rw [hM] | rfl⟩
    · refine T.set 13 (.bool false) (congrArg Value.bool c13) ?_
      refine T.skip (Post.thnN ?_)
      refine T.seq ?_
      refine T.seq ?_
      refine T.region ?_
      refine R.mvE rfl (by conv => lhs; whnf) ?_
      refine R.mvE rfl (by conv => lhs; whnf) ?_
      refine R.lss rfl rfl rfl ?_
      refine TL.nil (Post.thnN ?_)
      refine T.condD rfl (fun c16 => ?_) (fun c16 => ?_)
      · refine T.set 16 (.bool true) (congrArg Value.bool (decide_eq_true c16)) ?_
        refine T.seq ?_
        refine T.region ?_
        refine R.asE rfl (by conv => lhs; whnf) ?_
        refine TL.nil (Post.thnN ?_)
        refine T.has Has.nil ?_
        refine T.ret (Post.thnR ?_)
        have hM : cmp_Compare_Id_m a0 a1 = (-1) := by rw [cmp_Compare_Id_m, if_f c11, if_f c13, if_pos c16]
        exact fin1L (v := .int .i64 (-1)) [] rfl rfl (List.Sublist.refl _) ⟨rfl, by first | rw [hM] | rfl⟩
      · refine T.set 16 (.bool false) (congrArg Value.bool (decide_eq_false c16)) ?_
        refine T.skip (Post.thnN ?_)
        refine T.seq ?_
        refine T.seq ?_
        refine T.region ?_
        refine R.mvE rfl (by conv => lhs; whnf) ?_
        refine R.mvE rfl (by conv => lhs; whnf) ?_
        refine R.gtr rfl rfl rfl ?_
        refine TL.nil (Post.thnN ?_)
        refine T.condD rfl (fun c19 => ?_) (fun c19 => ?_)
        · refine T.set 19 (.bool true) (congrArg Value.bool (decide_eq_true c19)) ?_
          refine T.seq ?_
          refine T.region ?_
          refine R.asE rfl (by conv => lhs; whnf) ?_
          refine TL.nil (Post.thnN ?_)
          refine T.has Has.nil ?_
          refine T.ret (Post.thnR ?_)
          have hM : cmp_Compare_Id_m a0 a1 = 1 := by rw [cmp_Compare_Id_m, if_f c11, if_f c13, if_neg c16, if_pos c19]
          exact fin1L (v := .int .i64 1) [] rfl rfl (List.Sublist.refl _) ⟨rfl, by first | rw [hM] | rfl⟩
        · refine T.set 19 (.bool false) (congrArg Value.bool (decide_eq_false c19)) ?_
          refine T.skip (Post.thnN ?_)
          refine T.seq ?_
          refine T.region ?_
          refine R.asE rfl (by conv => lhs; whnf) ?_
          refine TL.nil (Post.thnN ?_)
          refine T.has Has.nil ?_
          refine T.ret ?_
          have hM : cmp_Compare_Id_m a0 a1 = 0 := by rw [cmp_Compare_Id_m, if_f c11, if_f c13, if_neg c16, if_neg c19]
          exact fin1L (v := .int .i64 0) [] rfl rfl (List.Sublist.refl _) ⟨rfl, by first | rw [hM] | rfl⟩

def cmp_Or_int_l1  : List Int → Unit → LR (Int) (Unit)
  | [], sl1 => .go ()
  | yl1 :: ysl1, sl1 => if yl1 ≠ 0 then (.ret yl1) else (cmp_Or_int_l1 ysl1 ())
def cmp_Or_int_m (a0 : List Int) : Int :=
  LR.on (cmp_Or_int_l1 a0 ()) (fun r => r) (fun ol1 => 0)
set_option maxHeartbeats 3200000 in
theorem cmp_Or_int_c (H : Heap) (va0 : Value) (a0 : List Int) (ha0 : RdS (intE .i64) H va0 a0) : Fv Tryz.prog (fnv 73) [va0] H (.int .i64 (cmp_Or_int_m a0)) := by
  refine Fc.of_body (N := 18) Tryz.func73 rfl (by kernel_rfl) rfl rfl ?_
  intro w0
  obtain ⟨Aa0, ca0, rfl, hca0, hda0, ha0⟩ := ha0.shape
  refine T.seq ?_
  refine T.region ?_
  refine R.asE rfl (by conv => lhs; whnf) ?_
  refine TL.nil (Post.thnN ?_)
  refine T.seq ?_
  refine T.region ?_
  refine R.asE rfl (by conv => lhs; whnf) ?_
  refine TL.nil (Post.thnN ?_)
  refine T.seq ?_
  refine T.seq ?_
  refine T.region ?_
  refine R.mvE rfl (by conv => lhs; whnf) ?_
  refine R.len Tryz.underlying30 rfl rfl ?_
  refine R.mvE rfl (by conv => lhs; whnf) ?_
  refine TL.nil (Post.thnN ?_)
  refine T.block ?_
  refine T.loop (ι := Nat) (fun kl1 H' L' ds' => kl1 ≤ a0.length ∧ Has L' [] ∧ cmp_Or_int_l1 (a0.drop kl1) () = cmp_Or_int_l1 a0 ()) (fun kl1 => [(8, .int .i64 (kl1 : Int)), (3, .int .i64 0), (6, .slice Aa0 a0.length ca0), (7, .int .i64 (a0.length : Int))]) (fun kl1 => a0.length - kl1) 0 ?_ ?_ ?_
  · exact ⟨(by omega), Has.nil, (by rfl)⟩
  · exact ⟨rfl, rfl, rfl, rfl, trivial⟩
  · intro kl1 σ_l1 H_l1 L_l1 ds_l1 s_l1 hI_l1
    obtain ⟨hkl1, hI_l1⟩ := hI_l1
    obtain ⟨hLl1, hQl1⟩ := hI_l1
    refine T.has hLl1 ?_
    refine T.seq ?_
    refine T.region ?_
    refine R.lss rfl rfl rfl ?_
    refine TL.nil (Post.thnN ?_)
    refine T.seq ?_
    refine T.condD rfl (fun c9 => ?_) (fun c9 => ?_)
    · have hltl1 : kl1 < a0.length := by omega
      obtain ⟨yl1, hyl1⟩ := getk (xs := a0) (k := kl1) (by omega)
      refine T.skip (Post.thnN ?_)
      refine T.seq ?_
      refine T.block ?_
      refine T.seq ?_
      refine T.region ?_
      obtain ⟨b10, o10, i10, k10⟩ := RdS.elem (ha0.mono s_l1) hyl1
      obtain ⟨l10, g10, k10⟩ := k10
      obtain rfl : l10 = [.int .i64 yl1] := g10
      refine R.ixp Tryz.underlying30 Tryz.sizeOf3 rfl rfl rfl (by omega) i10 ?_
      refine R.ldC Tryz.isAgg3 rfl rfl (k10 0 _ rfl) ?_
      refine R.asE rfl (by conv => lhs; whnf) ?_
      refine TL.nil (Post.thnN ?_)
      refine T.seq ?_
      refine T.region ?_
      refine R.mvE rfl (by conv => lhs; whnf) ?_
      refine R.mvE rfl (by conv => lhs; whnf) ?_
      refine R.neq rfl rfl rfl ?_
      refine TL.nil (Post.thnN ?_)
      refine T.condD rfl (fun c14 => ?_) (fun c14 => ?_)
      · refine T.set 14 (.bool true) (congrArg Value.bool (decide_eq_true c14)) ?_
        refine T.seq ?_
        refine T.region ?_
        refine R.mvE rfl (by conv => lhs; whnf) ?_
        refine R.asE rfl (by conv => lhs; whnf) ?_
        refine TL.nil (Post.thnN ?_)
        refine T.has Has.nil ?_
        refine T.ret (Post.blkR (Post.thnR (Post.thnR (Post.blkR (Post.thnR ?_)))))
        have hXl1 : cmp_Or_int_l1 a0 () = .ret yl1 := by rw [← hQl1, drop_cons hyl1, cmp_Or_int_l1]; rw [if_pos c14]
        have hM : cmp_Or_int_m a0 = yl1 := by rw [cmp_Or_int_m, hXl1, LR.on_ret]
        exact fin1L (v := .int .i64 yl1) [] rfl rfl (List.Sublist.refl _) ⟨rfl, by first | rw [hM] | rfl⟩
      · refine T.set 14 (.bool false) (congrArg Value.bool (decide_eq_false c14)) ?_
        refine T.skip (Post.blkN ?_)
        refine id (Post.thnN ?_)
        refine T.region ?_
        refine R.addI rfl rfl rfl (by omega) ?_
        refine R.mvE rfl (by conv => lhs; whnf) ?_
        refine TL.nil (Post.thnN ?_)
        exact ⟨kl1 + 1, s_l1, ⟨(by omega), Has.nil, (by rw [← hQl1, drop_cons hyl1, cmp_Or_int_l1]; rw [if_neg c14])⟩, by show a0.length - (kl1 + 1) < a0.length - kl1; omega, rfl, rfl, rfl, rfl, trivial⟩
    · refine T.exit (Post.thnE (Post.thnE (Post.blkX ?_)))
      have hEl1 : cmp_Or_int_l1 a0 () = .go () := (hQl1.symm.trans (by rw [show kl1 = a0.length by omega, List.drop_length, cmp_Or_int_l1]))
      refine id (Post.thnN ?_)
      refine T.seq ?_
      refine T.region ?_
      refine R.mvE rfl (by conv => lhs; whnf) ?_
      refine R.asE rfl (by conv => lhs; whnf) ?_
      refine TL.nil (Post.thnN ?_)
      refine T.has Has.nil ?_
      refine T.ret ?_
      have hM : cmp_Or_int_m a0 = 0 := by rw [cmp_Or_int_m, hEl1, LR.on_go]
      exact fin1L (v := .int .i64 0) [] rfl rfl (List.Sublist.refl _) ⟨rfl, by first | rw [hM] | rfl⟩

def plan_compare_m (a0 : Int × Int) (a1 : Int × Int) : Int :=
  LR.seq (cmp_Or_int_m ([(cmp_Compare_int_m a0.1 a1.1), (cmp_Compare_Id_m a0.2 a1.2)])) (fun r16 => r16)
set_option maxHeartbeats 3200000 in
theorem plan_compare_c (H : Heap) (a0 : Int × Int) (a1 : Int × Int) : Fv Tryz.prog (fnv 33) [.agg #[.int .i64 a0.1, .int .u64 a0.2], .agg #[.int .i64 a1.1, .int .u64 a1.2]] H (.int .i64 (plan_compare_m a0 a1)) := by
  refine Fc.of_body (N := 17) Tryz.func33 rfl (by kernel_rfl) rfl rfl ?_
  intro w0
  refine T.seq ?_
  refine T.region ?_
  refine R.box rfl (by conv => lhs; whnf) ?_
  intro b2
  refine R.box rfl (by conv => lhs; whnf) ?_
  intro b3
  refine R.asE rfl (by conv => lhs; whnf) ?_
  refine TL.shut .hd ?_
  intro Hb3_1 sb3_1 qb3_1
  have hb3_1 : Hb3_1 b3 = some (.cells #[.int .i64 (a1.1), .int .u64 (a1.2)] 50) := shut1 qb3_1
  refine TL.shut .hd ?_
  intro Hb2_2 sb2_2 qb2_2
  have hb2_2 : Hb2_2 b2 = some (.cells #[.int .i64 (a0.1), .int .u64 (a0.2)] 50) := shut1 qb2_2
  refine TL.nil (Post.thnN ?_)
  refine T.seq ?_
  refine T.draw Tryz_mixed (by kernel_rfl) ?_
  refine Plan.v 0 [1, 2, 3, 4, 5, 6, 7, 8, 9, 10, 11, 12] (by kernel_rfl) (by kernel_rfl) (by kernel_rfl) (by kernel_rfl) rfl (fun _ _ h_ => R.fldA Tryz.underlying50 rfl Tryz.sizeOf3 (by decide) rfl rfl (TL.nil h_)) ?_
  refine Plan.v 1 [2, 3, 4, 5, 6, 7, 8, 9, 10, 11, 12] (by kernel_rfl) (by kernel_rfl) (by kernel_rfl) (by kernel_rfl) rfl (fun _ _ h_ => R.ldH Tryz.isAgg3 rfl rfl hb2_2 rfl (TL.nil h_)) ?_
  refine Plan.v 2 [3, 4, 5, 6, 7, 8, 9, 10, 11, 12] (by kernel_rfl) (by kernel_rfl) (by kernel_rfl) (by kernel_rfl) rfl (fun _ _ h_ => R.fldA Tryz.underlying50 rfl Tryz.sizeOf3 (by decide) rfl rfl (TL.nil h_)) ?_
  refine Plan.v 3 [4, 5, 6, 7, 8, 9, 10, 11, 12] (by kernel_rfl) (by kernel_rfl) (by kernel_rfl) (by kernel_rfl) rfl (fun _ _ h_ => R.ldH Tryz.isAgg3 rfl rfl (sb2_2 _ _ hb3_1) rfl (TL.nil h_)) ?_
  refine Plan.v 4 [5, 6, 7, 8, 9, 10, 11, 12] (by kernel_rfl) (by kernel_rfl) (by kernel_rfl) (by kernel_rfl) rfl (fun _ _ h_ => R.callv rfl rfl rfl (cmp_Compare_int_c _ (a0.1) (a1.1)) (TL.nil h_)) ?_
  refine Plan.v 5 [6, 7, 8, 9, 10, 11, 12] (by kernel_rfl) (by kernel_rfl) (by kernel_rfl) (by kernel_rfl) rfl (fun _ _ h_ => R.fldA Tryz.underlying50 rfl Tryz.sizeOf48 (by decide) rfl rfl (TL.nil h_)) ?_
  refine Plan.v 6 [7, 8, 9, 10, 11, 12] (by kernel_rfl) (by kernel_rfl) (by kernel_rfl) (by kernel_rfl) rfl (fun _ _ h_ => R.ldH Tryz.isAgg48 rfl rfl hb2_2 rfl (TL.nil h_)) ?_
  refine Plan.v 7 [8, 9, 10, 11, 12] (by kernel_rfl) (by kernel_rfl) (by kernel_rfl) (by kernel_rfl) rfl (fun _ _ h_ => R.fldA Tryz.underlying50 rfl Tryz.sizeOf48 (by decide) rfl rfl (TL.nil h_)) ?_
  refine Plan.v 8 [9, 10, 11, 12] (by kernel_rfl) (by kernel_rfl) (by kernel_rfl) (by kernel_rfl) rfl (fun _ _ h_ => R.ldH Tryz.isAgg48 rfl rfl (sb2_2 _ _ hb3_1) rfl (TL.nil h_)) ?_
  refine Plan.v 9 [10, 11, 12] (by kernel_rfl) (by kernel_rfl) (by kernel_rfl) (by kernel_rfl) rfl (fun _ _ h_ => R.callv rfl rfl rfl (cmp_Compare_Id_c _ (a0.2) (a1.2)) (TL.nil h_)) ?_
  refine Plan.s1 10 [11, 12] (by kernel_rfl) (by kernel_rfl) rfl ?_
  refine R.bsN [.int .i64 (cmp_Compare_int_m a0.1 a1.1), .int .i64 (cmp_Compare_Id_m a0.2 a1.2)] rfl Tryz.underlying30 Tryz.sizeOf3 Tryz.zeroValue3 rfl rfl rfl rfl rfl rfl ?_
  intro b15
  have w15 : OwnS (intE .i64) 3 Hb2_2 (.slice (some ⟨b15, 0, none⟩) 2 2) [(cmp_Compare_int_m a0.1 a1.1), (cmp_Compare_Id_m a0.2 a1.2)] [(b15, .cells #[.int .i64 (cmp_Compare_int_m a0.1 a1.1), .int .i64 (cmp_Compare_Id_m a0.2 a1.2)] 3)] := OwnS.lit (xs := [(cmp_Compare_int_m a0.1 a1.1), (cmp_Compare_Id_m a0.2 a1.2)]) (cellsOf_cons (a := [.int .i64 (cmp_Compare_int_m a0.1 a1.1)]) rfl (cellsOf_cons (a := [.int .i64 (cmp_Compare_Id_m a0.2 a1.2)]) rfl cellsOf_nil)) (by show 2 ≤ maxLen; decide)
  refine TL.nil (Plan.e1 (HLe.refl _) ?_)
  refine Plan.s1 11 [12] (by kernel_rfl) (by kernel_rfl) rfl ?_
  refine TL.shut .hd ?_
  intro HF15_4 sF15_4 qF15_4
  have fF15_4 := OwnS.read w15 sF15_4 qF15_4
  obtain ⟨r16, er16⟩ : ∃ r, r = (cmp_Or_int_m ([(cmp_Compare_int_m a0.1 a1.1), (cmp_Compare_Id_m a0.2 a1.2)])) := ⟨_, rfl⟩
  refine R.callv (v := .int .i64 r16) rfl rfl rfl (by rw [er16]; exact cmp_Or_int_c _ _ ([(cmp_Compare_int_m a0.1 a1.1), (cmp_Compare_Id_m a0.2 a1.2)]) fF15_4) ?_
  refine TL.nil (Plan.e1 (sF15_4) ?_)
  refine Plan.v 12 [] (by kernel_rfl) (by kernel_rfl) (by kernel_rfl) (by kernel_rfl) rfl (fun _ _ h_ => R.asE rfl (by conv => lhs; whnf) (TL.nil h_)) ?_
  refine Plan.done (Post.thnN ?_)
  refine T.has Has.nil ?_
  refine T.ret ?_
  have hM : plan_compare_m a0 a1 = r16 := by subst er16; rw [plan_compare_m, LR.seq_go]
  exact fin1L (v := .int .i64 r16) [] rfl rfl (List.Sublist.refl _) ⟨rfl, by first | rw [hM] | rfl⟩

def plan_Check_l1 (a0 : List (Int × (Bool × Bool × Int × Int × Int))) (a1 : List (Int × Int)) : List (Int × Int) → Nat → Unit → LR (Int) (Unit)
  | [], kl1, sl1 => .go ()
  | yl1 :: ysl1, kl1, sl1 => LR.seq (ident_Parts_m yl1.2) (fun r24 => LR.seq (trait_Find_m a0 r24.1) (fun r30 => LR.seq (if (!r30.2) = true then true else (if (!(plan_index_m yl1.1)) = true then true else (if ((kindG yl1.2) : Int) ≠ 3 then true else (if (0 : Int) < (kl1 : Int) then ((decide ((0 : Int) ≤ (plan_compare_m (a1.getD ((((kl1 : Int) - 1)).toNat) (((0, 0) : Int × Int) : Int × Int)) yl1)))) else false))) : Bool) (fun sc2 => if sc2 = true then (.ret 300) else (plan_Check_l1 a0 a1 ysl1 (kl1 + 1) ()))))
def plan_Check_m (a0 : List (Int × (Bool × Bool × Int × Int × Int))) (a1 : List (Int × Int)) : Int :=
  if ((trait_Check_m a0) : Int) ≠ 0 then 230 else (LR.on (plan_Check_l1 a0 a1 a1 0 ()) (fun r => r) (fun ol1 => 0))
set_option maxHeartbeats 3200000 in
theorem plan_Check_c (H : Heap) {tG0 : TypeId} (hG0 : H 0 = some (.cells #[.int .i64 1, .bool true, .bool true, .int .i64 0, .int .i64 1, .int .i64 2, .int .i64 2, .bool true, .bool false, .int .i64 0, .int .i64 0, .int .i64 2] tG0)) (va0 : Value) (a0 : List (Int × (Bool × Bool × Int × Int × Int))) (ha0 : RdS relationE H va0 a0) (va1 : Value) (a1 : List (Int × Int)) (ha1 : RdS heldE H va1 a1) (hl : a0.length ≤ 2000000) : Fv Tryz.prog (fnv 7) [va0, va1] H (.int .i64 (plan_Check_m a0 a1)) := by
  refine Fc.of_body (N := 62) Tryz.func7 rfl (by kernel_rfl) rfl rfl ?_
  intro w0
  obtain ⟨Aa0, ca0, rfl, hca0, hda0, ha0⟩ := ha0.shape
  obtain ⟨Aa1, ca1, rfl, hca1, hda1, ha1⟩ := ha1.shape
  refine T.seq ?_
  refine T.region ?_
  refine R.asE rfl (by conv => lhs; whnf) ?_
  refine TL.nil (Post.thnN ?_)
  refine T.seq ?_
  refine T.seq ?_
  refine T.region ?_
  refine R.mvE rfl (by conv => lhs; whnf) ?_
  refine R.callv rfl rfl rfl (trait_Check_c _ hG0 _ a0 ha0) ?_
  refine R.neq rfl rfl rfl ?_
  refine TL.nil (Post.thnN ?_)
  refine T.condD rfl (fun c13 => ?_) (fun c13 => ?_)
  · refine T.set 13 (.bool true) (congrArg Value.bool (decide_eq_true c13)) ?_
    refine T.seq ?_
    refine T.region ?_
    refine R.asE rfl (by conv => lhs; whnf) ?_
    refine TL.nil (Post.thnN ?_)
    refine T.has Has.nil ?_
    refine T.ret (Post.thnR ?_)
    have hM : plan_Check_m a0 a1 = 230 := by rw [plan_Check_m, if_pos c13]
    exact fin1L (v := .int .i64 230) [] rfl rfl (List.Sublist.refl _) ⟨rfl, by first | rw [hM] | rfl⟩
  · refine T.set 13 (.bool false) (congrArg Value.bool (decide_eq_false c13)) ?_
    refine T.skip (Post.thnN ?_)
    refine T.seq ?_
    refine T.seq ?_
    refine T.region ?_
    refine R.mvE rfl (by conv => lhs; whnf) ?_
    refine R.len Tryz.underlying23 rfl rfl ?_
    refine R.mvE rfl (by conv => lhs; whnf) ?_
    refine TL.nil (Post.thnN ?_)
    refine T.block ?_
    refine T.loop (ι := Nat) (fun kl1 H' L' ds' => kl1 ≤ a1.length ∧ Has L' [] ∧ plan_Check_l1 a0 a1 (a1.drop kl1) kl1 () = plan_Check_l1 a0 a1 a1 0 ()) (fun kl1 => [(16, .int .i64 (kl1 : Int)), (0, .slice Aa0 a0.length ca0), (1, .slice Aa1 a1.length ca1), (14, .slice Aa1 a1.length ca1), (15, .int .i64 (a1.length : Int))]) (fun kl1 => a1.length - kl1) 0 ?_ ?_ ?_
    · exact ⟨(by omega), Has.nil, (by rfl)⟩
    · exact ⟨rfl, rfl, rfl, rfl, rfl, trivial⟩
    · intro kl1 σ_l1 H_l1 L_l1 ds_l1 s_l1 hI_l1
      obtain ⟨hkl1, hI_l1⟩ := hI_l1
      obtain ⟨hLl1, hQl1⟩ := hI_l1
      refine T.has hLl1 ?_
      refine T.seq ?_
      refine T.region ?_
      refine R.lss rfl rfl rfl ?_
      refine TL.nil (Post.thnN ?_)
      refine T.seq ?_
      refine T.condD rfl (fun c17 => ?_) (fun c17 => ?_)
      · have hltl1 : kl1 < a1.length := by omega
        obtain ⟨yl1, hyl1⟩ := getk (xs := a1) (k := kl1) (by omega)
        refine T.skip (Post.thnN ?_)
        refine T.seq ?_
        refine T.block ?_
        refine T.seq ?_
        refine T.region ?_
        refine R.mvE rfl (by conv => lhs; whnf) ?_
        obtain ⟨b19, o19, i19, k19⟩ := RdS.elem (ha1.mono s_l1) hyl1
        obtain ⟨l19, g19, k19⟩ := k19
        obtain rfl : l19 = [.int .i64 (yl1.1), .int .u64 (yl1.2)] := g19
        refine R.ixp Tryz.underlying23 Tryz.sizeOf50 rfl rfl rfl (by omega) i19 ?_
        refine R.ldK (l := [.int .i64 (yl1.1), .int .u64 (yl1.2)]) Tryz.isAgg50 Tryz.sizeOf50 rfl rfl k19 rfl ?_
        refine R.alloc Tryz.zeroValue50 rfl ?_
        intro b6
        refine R.asE rfl (by conv => lhs; whnf) ?_
        refine R.stX (old := [.int .i64 0, .int .u64 0]) (l := [.int .i64 (yl1.1), .int .u64 (yl1.2)]) (new := [.int .i64 (yl1.1), .int .u64 (yl1.2)]) (et := 50) Tryz.sizeOf50 rfl rfl rfl rfl rfl (by show 0 + 2 ≤ 2; decide) rfl (all_one rfl) .hd ?_
        refine TL.shut .hd ?_
        intro Hb6_1 sb6_1 qb6_1
        have hb6_1 : Hb6_1 b6 = some (.cells #[.int .i64 (yl1.1), .int .u64 (yl1.2)] 50) := shut1 qb6_1
        refine TL.nil (Post.thnN ?_)
        refine T.seq ?_
        refine T.region ?_
        refine R.fldA Tryz.underlying50 rfl Tryz.sizeOf48 (by decide) rfl rfl ?_
        refine R.ldH Tryz.isAgg48 rfl rfl hb6_1 rfl ?_
        obtain ⟨r24, er24⟩ : ∃ r, r = (ident_Parts_m yl1.2) := ⟨_, rfl⟩
        refine R.callv (v := .tuple #[.int .i64 r24.1, .int .i64 r24.2]) rfl rfl rfl (by rw [er24]; exact ident_Parts_c _ (yl1.2)) ?_
        refine R.mvE rfl (by conv => lhs; whnf) ?_
        refine R.ext rfl rfl rfl ?_
        refine R.ext rfl rfl rfl ?_
        refine R.asE rfl (by conv => lhs; whnf) ?_
        refine R.asE rfl (by conv => lhs; whnf) ?_
        refine TL.nil (Post.thnN ?_)
        refine T.seq ?_
        refine T.region ?_
        refine R.mvE rfl (by conv => lhs; whnf) ?_
        refine R.mvE rfl (by conv => lhs; whnf) ?_
        obtain ⟨r30, er30⟩ : ∃ r, r = (trait_Find_m a0 r24.1) := ⟨_, rfl⟩
        refine R.callv (v := .tuple #[.agg #[.bool r30.1.1, .bool r30.1.2.1, .int .i64 r30.1.2.2.1, .int .i64 r30.1.2.2.2.1, .int .i64 r30.1.2.2.2.2], .bool r30.2]) rfl rfl rfl (by rw [er30]; exact trait_Find_c _ ((s_l1.trans sb6_1) _ _ hG0) _ a0 (ha0.mono (s_l1.trans sb6_1)) (r24.1) (by first | omega | (simp; done) | (simp; omega) | (simp at *; omega))) ?_
        have tp30 := find_pol _ _ _ er30 (by first | omega | (simp; done) | (simp; omega) | (simp at *; omega))
        refine R.mvE rfl (by conv => lhs; whnf) ?_
        refine R.ext rfl rfl rfl ?_
        refine R.ext rfl rfl rfl ?_
        refine R.alloc Tryz.zeroValue53 rfl ?_
        intro b9
        refine R.stX (old := [.bool false, .bool false, .int .i64 0, .int .i64 0, .int .i64 0]) (l := [.bool (r30.1.1), .bool (r30.1.2.1), .int .i64 (r30.1.2.2.1), .int .i64 (r30.1.2.2.2.1), .int .i64 (r30.1.2.2.2.2)]) (new := [.bool (r30.1.1), .bool (r30.1.2.1), .int .i64 (r30.1.2.2.1), .int .i64 (r30.1.2.2.2.1), .int .i64 (r30.1.2.2.2.2)]) (et := 53) Tryz.sizeOf53 rfl rfl rfl rfl rfl (by show 0 + 5 ≤ 5; decide) rfl (all_one rfl) .hd ?_
        refine R.asE rfl (by conv => lhs; whnf) ?_
        refine TL.shut .hd ?_
        intro Hb9_2 sb9_2 qb9_2
        have hb9_2 : Hb9_2 b9 = some (.cells #[.bool (r30.1.1), .bool (r30.1.2.1), .int .i64 (r30.1.2.2.1), .int .i64 (r30.1.2.2.2.1), .int .i64 (r30.1.2.2.2.2)] 53) := shut1 qb9_2
        refine TL.nil (Post.thnN ?_)
        refine T.seq ?_
        refine T.cutK (ι := Bool) (fun b60c2 H' L' ds' => Has L' [] ∧ (if (!r30.2) = true then true else (if (!(plan_index_m yl1.1)) = true then true else (if ((kindG yl1.2) : Int) ≠ 3 then true else (if (0 : Int) < (kl1 : Int) then ((decide ((0 : Int) ≤ (plan_compare_m (a1.getD ((((kl1 : Int) - 1)).toNat) (((0, 0) : Int × Int) : Int × Int)) yl1)))) else false))) : Bool) = b60c2) (fun b60c2 => [(0, .slice Aa0 a0.length ca0), (1, .slice Aa1 a1.length ca1), (14, .slice Aa1 a1.length ca1), (15, .int .i64 (a1.length : Int)), (16, .int .i64 (kl1 : Int)), (60, .bool (b60c2))]) ?_ ?_
        · refine T.draw Tryz_mixed (by kernel_rfl) ?_
          refine Plan.v 0 [1, 2, 3, 4, 5, 6, 7, 8, 9, 10, 11, 12, 13, 14, 15, 16, 17, 18, 19, 20, 21, 22, 23, 24, 25, 26, 27] (by kernel_rfl) (by kernel_rfl) (by kernel_rfl) (by kernel_rfl) rfl (fun _ _ h_ => R.mvE rfl (by conv => lhs; whnf) (TL.nil h_)) ?_
          refine Plan.v 1 [2, 3, 4, 5, 6, 7, 8, 9, 10, 11, 12, 13, 14, 15, 16, 17, 18, 19, 20, 21, 22, 23, 24, 25, 26, 27] (by kernel_rfl) (by kernel_rfl) (by kernel_rfl) (by kernel_rfl) rfl (fun _ _ h_ => R.not rfl rfl (TL.nil h_)) ?_
          refine Plan.v 2 [3, 4, 5, 6, 7, 8, 9, 10, 11, 12, 13, 14, 15, 16, 17, 18, 19, 20, 21, 22, 23, 24, 25, 26, 27] (by kernel_rfl) (by kernel_rfl) (by kernel_rfl) (by kernel_rfl) rfl (fun _ _ h_ => R.mvE rfl (by conv => lhs; whnf) (TL.nil h_)) ?_
          refine Plan.gsplit 35 rfl (fun g35 => ?_) (fun g35 => ?_)
          · refine Plan.v 3 [4, 5, 6, 7, 8, 9, 10, 11, 12, 13, 14, 15, 16, 17, 18, 19, 20, 21, 22, 23, 24, 25, 26, 27] (by kernel_rfl) (by kernel_rfl) (by kernel_rfl) (by kernel_rfl) rfl (fun _ _ h_ => TL.off rfl rfl rfl (TL.nil h_)) ?_
            refine Plan.v 4 [5, 6, 7, 8, 9, 10, 11, 12, 13, 14, 15, 16, 17, 18, 19, 20, 21, 22, 23, 24, 25, 26, 27] (by kernel_rfl) (by kernel_rfl) (by kernel_rfl) (by kernel_rfl) rfl (fun _ _ h_ => TL.off rfl rfl rfl (TL.nil h_)) ?_
            refine Plan.v 5 [6, 7, 8, 9, 10, 11, 12, 13, 14, 15, 16, 17, 18, 19, 20, 21, 22, 23, 24, 25, 26, 27] (by kernel_rfl) (by kernel_rfl) (by kernel_rfl) (by kernel_rfl) rfl (fun _ _ h_ => TL.off rfl rfl rfl (TL.nil h_)) ?_
            refine Plan.v 6 [7, 8, 9, 10, 11, 12, 13, 14, 15, 16, 17, 18, 19, 20, 21, 22, 23, 24, 25, 26, 27] (by kernel_rfl) (by kernel_rfl) (by kernel_rfl) (by kernel_rfl) rfl (fun _ _ h_ => TL.off rfl rfl rfl (TL.nil h_)) ?_
            refine Plan.v 7 [8, 9, 10, 11, 12, 13, 14, 15, 16, 17, 18, 19, 20, 21, 22, 23, 24, 25, 26, 27] (by kernel_rfl) (by kernel_rfl) (by kernel_rfl) (by kernel_rfl) rfl (fun _ _ h_ => R.pkTE rfl rfl (by conv => lhs; whnf) (TL.nil h_)) ?_
            refine Plan.v 8 [9, 10, 11, 12, 13, 14, 15, 16, 17, 18, 19, 20, 21, 22, 23, 24, 25, 26, 27] (by kernel_rfl) (by kernel_rfl) (by kernel_rfl) (by kernel_rfl) rfl (fun _ _ h_ => R.mvE rfl (by conv => lhs; whnf) (TL.nil h_)) ?_
            refine Plan.v 9 [10, 11, 12, 13, 14, 15, 16, 17, 18, 19, 20, 21, 22, 23, 24, 25, 26, 27] (by kernel_rfl) (by kernel_rfl) (by kernel_rfl) (by kernel_rfl) rfl (fun _ _ h_ => TL.off rfl rfl rfl (TL.nil h_)) ?_
            refine Plan.v 10 [11, 12, 13, 14, 15, 16, 17, 18, 19, 20, 21, 22, 23, 24, 25, 26, 27] (by kernel_rfl) (by kernel_rfl) (by kernel_rfl) (by kernel_rfl) rfl (fun _ _ h_ => TL.off rfl rfl rfl (TL.nil h_)) ?_
            refine Plan.v 11 [12, 13, 14, 15, 16, 17, 18, 19, 20, 21, 22, 23, 24, 25, 26, 27] (by kernel_rfl) (by kernel_rfl) (by kernel_rfl) (by kernel_rfl) rfl (fun _ _ h_ => TL.off rfl rfl rfl (TL.nil h_)) ?_
            refine Plan.v 12 [13, 14, 15, 16, 17, 18, 19, 20, 21, 22, 23, 24, 25, 26, 27] (by kernel_rfl) (by kernel_rfl) (by kernel_rfl) (by kernel_rfl) rfl (fun _ _ h_ => TL.off rfl rfl rfl (TL.nil h_)) ?_
            refine Plan.v 13 [14, 15, 16, 17, 18, 19, 20, 21, 22, 23, 24, 25, 26, 27] (by kernel_rfl) (by kernel_rfl) (by kernel_rfl) (by kernel_rfl) rfl (fun _ _ h_ => R.pkTE rfl rfl (by conv => lhs; whnf) (TL.nil h_)) ?_
            refine Plan.v 14 [15, 16, 17, 18, 19, 20, 21, 22, 23, 24, 25, 26, 27] (by kernel_rfl) (by kernel_rfl) (by kernel_rfl) (by kernel_rfl) rfl (fun _ _ h_ => R.mvE rfl (by conv => lhs; whnf) (TL.nil h_)) ?_
            refine Plan.v 15 [16, 17, 18, 19, 20, 21, 22, 23, 24, 25, 26, 27] (by kernel_rfl) (by kernel_rfl) (by kernel_rfl) (by kernel_rfl) rfl (fun _ _ h_ => TL.off rfl rfl rfl (TL.nil h_)) ?_
            refine Plan.v 16 [17, 18, 19, 20, 21, 22, 23, 24, 25, 26, 27] (by kernel_rfl) (by kernel_rfl) (by kernel_rfl) (by kernel_rfl) rfl (fun _ _ h_ => TL.off rfl rfl rfl (TL.nil h_)) ?_
            refine Plan.v 17 [18, 19, 20, 21, 22, 23, 24, 25, 26, 27] (by kernel_rfl) (by kernel_rfl) (by kernel_rfl) (by kernel_rfl) rfl (fun _ _ h_ => TL.off rfl rfl rfl (TL.nil h_)) ?_
            refine Plan.v 18 [19, 20, 21, 22, 23, 24, 25, 26, 27] (by kernel_rfl) (by kernel_rfl) (by kernel_rfl) (by kernel_rfl) rfl (fun _ _ h_ => TL.offU rfl rfl (TL.nil h_)) ?_
            refine Plan.v 19 [20, 21, 22, 23, 24, 25, 26, 27] (by kernel_rfl) (by kernel_rfl) (by kernel_rfl) (by kernel_rfl) rfl (fun _ _ h_ => TL.offU rfl rfl (TL.nil h_)) ?_
            refine Plan.v 20 [21, 22, 23, 24, 25, 26, 27] (by kernel_rfl) (by kernel_rfl) (by kernel_rfl) (by kernel_rfl) rfl (fun _ _ h_ => TL.offU rfl rfl (TL.nil h_)) ?_
            refine Plan.v 21 [22, 23, 24, 25, 26, 27] (by kernel_rfl) (by kernel_rfl) (by kernel_rfl) (by kernel_rfl) rfl (fun _ _ h_ => TL.offU rfl rfl (TL.nil h_)) ?_
            refine Plan.v 22 [23, 24, 25, 26, 27] (by kernel_rfl) (by kernel_rfl) (by kernel_rfl) (by kernel_rfl) rfl (fun _ _ h_ => TL.offU rfl rfl (TL.nil h_)) ?_
            refine Plan.v 23 [24, 25, 26, 27] (by kernel_rfl) (by kernel_rfl) (by kernel_rfl) (by kernel_rfl) rfl (fun _ _ h_ => TL.offU rfl rfl (TL.nil h_)) ?_
            refine Plan.v 24 [25, 26, 27] (by kernel_rfl) (by kernel_rfl) (by kernel_rfl) (by kernel_rfl) rfl (fun _ _ h_ => TL.offU rfl rfl (TL.nil h_)) ?_
            refine Plan.v 25 [26, 27] (by kernel_rfl) (by kernel_rfl) (by kernel_rfl) (by kernel_rfl) rfl (fun _ _ h_ => TL.offU rfl rfl (TL.nil h_)) ?_
            refine Plan.v 26 [27] (by kernel_rfl) (by kernel_rfl) (by kernel_rfl) (by kernel_rfl) rfl (fun _ _ h_ => TL.off rfl rfl rfl (TL.nil h_)) ?_
            refine Plan.v 27 [] (by kernel_rfl) (by kernel_rfl) (by kernel_rfl) (by kernel_rfl) rfl (fun _ _ h_ => R.pkTE rfl rfl (by conv => lhs; whnf) (TL.nil h_)) ?_
            refine Plan.done (Post.thnN ?_)
            exact ⟨true, HLe.refl _, ⟨Has.nil, (by rw [if_t g35])⟩, rfl, rfl, rfl, rfl, rfl, rfl, trivial⟩
          · refine Plan.v 3 [4, 5, 6, 7, 8, 9, 10, 11, 12, 13, 14, 15, 16, 17, 18, 19, 20, 21, 22, 23, 24, 25, 26, 27] (by kernel_rfl) (by kernel_rfl) (by kernel_rfl) (by kernel_rfl) rfl (fun _ _ h_ => R.fldA Tryz.underlying50 rfl Tryz.sizeOf3 (by decide) rfl rfl (TL.nil h_)) ?_
            refine Plan.v 4 [5, 6, 7, 8, 9, 10, 11, 12, 13, 14, 15, 16, 17, 18, 19, 20, 21, 22, 23, 24, 25, 26, 27] (by kernel_rfl) (by kernel_rfl) (by kernel_rfl) (by kernel_rfl) rfl (fun _ _ h_ => R.ldH Tryz.isAgg3 rfl rfl (sb9_2 _ _ hb6_1) rfl (TL.nil h_)) ?_
            refine Plan.v 5 [6, 7, 8, 9, 10, 11, 12, 13, 14, 15, 16, 17, 18, 19, 20, 21, 22, 23, 24, 25, 26, 27] (by kernel_rfl) (by kernel_rfl) (by kernel_rfl) (by kernel_rfl) rfl (fun _ _ h_ => R.callv rfl rfl rfl (plan_index_c _ (yl1.1)) (TL.nil h_)) ?_
            refine Plan.v 6 [7, 8, 9, 10, 11, 12, 13, 14, 15, 16, 17, 18, 19, 20, 21, 22, 23, 24, 25, 26, 27] (by kernel_rfl) (by kernel_rfl) (by kernel_rfl) (by kernel_rfl) rfl (fun _ _ h_ => R.not rfl rfl (TL.nil h_)) ?_
            refine Plan.v 7 [8, 9, 10, 11, 12, 13, 14, 15, 16, 17, 18, 19, 20, 21, 22, 23, 24, 25, 26, 27] (by kernel_rfl) (by kernel_rfl) (by kernel_rfl) (by kernel_rfl) rfl (fun _ _ h_ => R.pkFE rfl rfl (by conv => lhs; whnf) (TL.nil h_)) ?_
            refine Plan.v 8 [9, 10, 11, 12, 13, 14, 15, 16, 17, 18, 19, 20, 21, 22, 23, 24, 25, 26, 27] (by kernel_rfl) (by kernel_rfl) (by kernel_rfl) (by kernel_rfl) rfl (fun _ _ h_ => R.mvE rfl (by conv => lhs; whnf) (TL.nil h_)) ?_
            refine Plan.gsplit 41 rfl (fun g41 => ?_) (fun g41 => ?_)
            · refine Plan.v 9 [10, 11, 12, 13, 14, 15, 16, 17, 18, 19, 20, 21, 22, 23, 24, 25, 26, 27] (by kernel_rfl) (by kernel_rfl) (by kernel_rfl) (by kernel_rfl) rfl (fun _ _ h_ => TL.off rfl rfl rfl (TL.nil h_)) ?_
              refine Plan.v 10 [11, 12, 13, 14, 15, 16, 17, 18, 19, 20, 21, 22, 23, 24, 25, 26, 27] (by kernel_rfl) (by kernel_rfl) (by kernel_rfl) (by kernel_rfl) rfl (fun _ _ h_ => TL.off rfl rfl rfl (TL.nil h_)) ?_
              refine Plan.v 11 [12, 13, 14, 15, 16, 17, 18, 19, 20, 21, 22, 23, 24, 25, 26, 27] (by kernel_rfl) (by kernel_rfl) (by kernel_rfl) (by kernel_rfl) rfl (fun _ _ h_ => TL.off rfl rfl rfl (TL.nil h_)) ?_
              refine Plan.v 12 [13, 14, 15, 16, 17, 18, 19, 20, 21, 22, 23, 24, 25, 26, 27] (by kernel_rfl) (by kernel_rfl) (by kernel_rfl) (by kernel_rfl) rfl (fun _ _ h_ => TL.off rfl rfl rfl (TL.nil h_)) ?_
              refine Plan.v 13 [14, 15, 16, 17, 18, 19, 20, 21, 22, 23, 24, 25, 26, 27] (by kernel_rfl) (by kernel_rfl) (by kernel_rfl) (by kernel_rfl) rfl (fun _ _ h_ => R.pkTE rfl rfl (by conv => lhs; whnf) (TL.nil h_)) ?_
              refine Plan.v 14 [15, 16, 17, 18, 19, 20, 21, 22, 23, 24, 25, 26, 27] (by kernel_rfl) (by kernel_rfl) (by kernel_rfl) (by kernel_rfl) rfl (fun _ _ h_ => R.mvE rfl (by conv => lhs; whnf) (TL.nil h_)) ?_
              refine Plan.v 15 [16, 17, 18, 19, 20, 21, 22, 23, 24, 25, 26, 27] (by kernel_rfl) (by kernel_rfl) (by kernel_rfl) (by kernel_rfl) rfl (fun _ _ h_ => TL.off rfl rfl rfl (TL.nil h_)) ?_
              refine Plan.v 16 [17, 18, 19, 20, 21, 22, 23, 24, 25, 26, 27] (by kernel_rfl) (by kernel_rfl) (by kernel_rfl) (by kernel_rfl) rfl (fun _ _ h_ => TL.off rfl rfl rfl (TL.nil h_)) ?_
              refine Plan.v 17 [18, 19, 20, 21, 22, 23, 24, 25, 26, 27] (by kernel_rfl) (by kernel_rfl) (by kernel_rfl) (by kernel_rfl) rfl (fun _ _ h_ => TL.off rfl rfl rfl (TL.nil h_)) ?_
              refine Plan.v 18 [19, 20, 21, 22, 23, 24, 25, 26, 27] (by kernel_rfl) (by kernel_rfl) (by kernel_rfl) (by kernel_rfl) rfl (fun _ _ h_ => TL.offU rfl rfl (TL.nil h_)) ?_
              refine Plan.v 19 [20, 21, 22, 23, 24, 25, 26, 27] (by kernel_rfl) (by kernel_rfl) (by kernel_rfl) (by kernel_rfl) rfl (fun _ _ h_ => TL.offU rfl rfl (TL.nil h_)) ?_
              refine Plan.v 20 [21, 22, 23, 24, 25, 26, 27] (by kernel_rfl) (by kernel_rfl) (by kernel_rfl) (by kernel_rfl) rfl (fun _ _ h_ => TL.offU rfl rfl (TL.nil h_)) ?_
              refine Plan.v 21 [22, 23, 24, 25, 26, 27] (by kernel_rfl) (by kernel_rfl) (by kernel_rfl) (by kernel_rfl) rfl (fun _ _ h_ => TL.offU rfl rfl (TL.nil h_)) ?_
              refine Plan.v 22 [23, 24, 25, 26, 27] (by kernel_rfl) (by kernel_rfl) (by kernel_rfl) (by kernel_rfl) rfl (fun _ _ h_ => TL.offU rfl rfl (TL.nil h_)) ?_
              refine Plan.v 23 [24, 25, 26, 27] (by kernel_rfl) (by kernel_rfl) (by kernel_rfl) (by kernel_rfl) rfl (fun _ _ h_ => TL.offU rfl rfl (TL.nil h_)) ?_
              refine Plan.v 24 [25, 26, 27] (by kernel_rfl) (by kernel_rfl) (by kernel_rfl) (by kernel_rfl) rfl (fun _ _ h_ => TL.offU rfl rfl (TL.nil h_)) ?_
              refine Plan.v 25 [26, 27] (by kernel_rfl) (by kernel_rfl) (by kernel_rfl) (by kernel_rfl) rfl (fun _ _ h_ => TL.offU rfl rfl (TL.nil h_)) ?_
              refine Plan.v 26 [27] (by kernel_rfl) (by kernel_rfl) (by kernel_rfl) (by kernel_rfl) rfl (fun _ _ h_ => TL.off rfl rfl rfl (TL.nil h_)) ?_
              refine Plan.v 27 [] (by kernel_rfl) (by kernel_rfl) (by kernel_rfl) (by kernel_rfl) rfl (fun _ _ h_ => R.pkTE rfl rfl (by conv => lhs; whnf) (TL.nil h_)) ?_
              refine Plan.done (Post.thnN ?_)
              exact ⟨true, HLe.refl _, ⟨Has.nil, (by rw [if_f g35, if_t g41])⟩, rfl, rfl, rfl, rfl, rfl, rfl, trivial⟩
            · refine Plan.v 9 [10, 11, 12, 13, 14, 15, 16, 17, 18, 19, 20, 21, 22, 23, 24, 25, 26, 27] (by kernel_rfl) (by kernel_rfl) (by kernel_rfl) (by kernel_rfl) rfl (fun _ _ h_ => R.fldA Tryz.underlying50 rfl Tryz.sizeOf48 (by decide) rfl rfl (TL.nil h_)) ?_
              refine Plan.v 10 [11, 12, 13, 14, 15, 16, 17, 18, 19, 20, 21, 22, 23, 24, 25, 26, 27] (by kernel_rfl) (by kernel_rfl) (by kernel_rfl) (by kernel_rfl) rfl (fun _ _ h_ => R.ldH Tryz.isAgg48 rfl rfl (sb9_2 _ _ hb6_1) rfl (TL.nil h_)) ?_
              refine Plan.v 11 [12, 13, 14, 15, 16, 17, 18, 19, 20, 21, 22, 23, 24, 25, 26, 27] (by kernel_rfl) (by kernel_rfl) (by kernel_rfl) (by kernel_rfl) rfl (fun _ _ h_ => R.callv rfl rfl rfl (kindG_c _ yl1.2) (TL.nil h_)) ?_
              refine Plan.v 12 [13, 14, 15, 16, 17, 18, 19, 20, 21, 22, 23, 24, 25, 26, 27] (by kernel_rfl) (by kernel_rfl) (by kernel_rfl) (by kernel_rfl) rfl (fun _ _ h_ => R.neq rfl rfl rfl (TL.nil h_)) ?_
              refine Plan.v 13 [14, 15, 16, 17, 18, 19, 20, 21, 22, 23, 24, 25, 26, 27] (by kernel_rfl) (by kernel_rfl) (by kernel_rfl) (by kernel_rfl) rfl (fun _ _ h_ => R.pkFE rfl rfl (by conv => lhs; whnf) (TL.nil h_)) ?_
              refine Plan.v 14 [15, 16, 17, 18, 19, 20, 21, 22, 23, 24, 25, 26, 27] (by kernel_rfl) (by kernel_rfl) (by kernel_rfl) (by kernel_rfl) rfl (fun _ _ h_ => R.mvE rfl (by conv => lhs; whnf) (TL.nil h_)) ?_
              refine Plan.gsplitD 47 rfl (fun g47 => ?_) (fun g47 => ?_)
              · refine Plan.v 15 [16, 17, 18, 19, 20, 21, 22, 23, 24, 25, 26, 27] (by kernel_rfl) (by kernel_rfl) (by kernel_rfl) (by kernel_rfl) rfl (fun _ _ h_ => TL.off rfl rfl rfl (TL.nil h_)) ?_
                refine Plan.v 16 [17, 18, 19, 20, 21, 22, 23, 24, 25, 26, 27] (by kernel_rfl) (by kernel_rfl) (by kernel_rfl) (by kernel_rfl) rfl (fun _ _ h_ => TL.off rfl rfl rfl (TL.nil h_)) ?_
                refine Plan.v 17 [18, 19, 20, 21, 22, 23, 24, 25, 26, 27] (by kernel_rfl) (by kernel_rfl) (by kernel_rfl) (by kernel_rfl) rfl (fun _ _ h_ => TL.off rfl rfl rfl (TL.nil h_)) ?_
                refine Plan.v 18 [19, 20, 21, 22, 23, 24, 25, 26, 27] (by kernel_rfl) (by kernel_rfl) (by kernel_rfl) (by kernel_rfl) rfl (fun _ _ h_ => TL.offU rfl rfl (TL.nil h_)) ?_
                refine Plan.v 19 [20, 21, 22, 23, 24, 25, 26, 27] (by kernel_rfl) (by kernel_rfl) (by kernel_rfl) (by kernel_rfl) rfl (fun _ _ h_ => TL.offU rfl rfl (TL.nil h_)) ?_
                refine Plan.v 20 [21, 22, 23, 24, 25, 26, 27] (by kernel_rfl) (by kernel_rfl) (by kernel_rfl) (by kernel_rfl) rfl (fun _ _ h_ => TL.offU rfl rfl (TL.nil h_)) ?_
                refine Plan.v 21 [22, 23, 24, 25, 26, 27] (by kernel_rfl) (by kernel_rfl) (by kernel_rfl) (by kernel_rfl) rfl (fun _ _ h_ => TL.offU rfl rfl (TL.nil h_)) ?_
                refine Plan.v 22 [23, 24, 25, 26, 27] (by kernel_rfl) (by kernel_rfl) (by kernel_rfl) (by kernel_rfl) rfl (fun _ _ h_ => TL.offU rfl rfl (TL.nil h_)) ?_
                refine Plan.v 23 [24, 25, 26, 27] (by kernel_rfl) (by kernel_rfl) (by kernel_rfl) (by kernel_rfl) rfl (fun _ _ h_ => TL.offU rfl rfl (TL.nil h_)) ?_
                refine Plan.v 24 [25, 26, 27] (by kernel_rfl) (by kernel_rfl) (by kernel_rfl) (by kernel_rfl) rfl (fun _ _ h_ => TL.offU rfl rfl (TL.nil h_)) ?_
                refine Plan.v 25 [26, 27] (by kernel_rfl) (by kernel_rfl) (by kernel_rfl) (by kernel_rfl) rfl (fun _ _ h_ => TL.offU rfl rfl (TL.nil h_)) ?_
                refine Plan.v 26 [27] (by kernel_rfl) (by kernel_rfl) (by kernel_rfl) (by kernel_rfl) rfl (fun _ _ h_ => TL.off rfl rfl rfl (TL.nil h_)) ?_
                refine Plan.v 27 [] (by kernel_rfl) (by kernel_rfl) (by kernel_rfl) (by kernel_rfl) rfl (fun _ _ h_ => R.pkTE rfl rfl (by conv => lhs; whnf) (TL.nil h_)) ?_
                refine Plan.done (Post.thnN ?_)
                exact ⟨true, HLe.refl _, ⟨Has.nil, (by rw [if_f g35, if_f g41, if_pos g47])⟩, rfl, rfl, rfl, rfl, rfl, rfl, trivial⟩
              · refine Plan.v 15 [16, 17, 18, 19, 20, 21, 22, 23, 24, 25, 26, 27] (by kernel_rfl) (by kernel_rfl) (by kernel_rfl) (by kernel_rfl) rfl (fun _ _ h_ => R.mvE rfl (by conv => lhs; whnf) (TL.nil h_)) ?_
                refine Plan.v 16 [17, 18, 19, 20, 21, 22, 23, 24, 25, 26, 27] (by kernel_rfl) (by kernel_rfl) (by kernel_rfl) (by kernel_rfl) rfl (fun _ _ h_ => R.gtr rfl rfl rfl (TL.nil h_)) ?_
                refine Plan.v 17 [18, 19, 20, 21, 22, 23, 24, 25, 26, 27] (by kernel_rfl) (by kernel_rfl) (by kernel_rfl) (by kernel_rfl) rfl (fun _ _ h_ => R.mvE rfl (by conv => lhs; whnf) (TL.nil h_)) ?_
                refine Plan.gsplitD 50 rfl (fun g50 => ?_) (fun g50 => ?_)
                · refine Plan.v 18 [19, 20, 21, 22, 23, 24, 25, 26, 27] (by kernel_rfl) (by kernel_rfl) (by kernel_rfl) (by kernel_rfl) rfl (fun _ _ h_ => R.mvE rfl (by conv => lhs; whnf) (TL.nil h_)) ?_
                  refine Plan.v 19 [20, 21, 22, 23, 24, 25, 26, 27] (by kernel_rfl) (by kernel_rfl) (by kernel_rfl) (by kernel_rfl) rfl (fun _ _ h_ => R.mvE rfl (by conv => lhs; whnf) (TL.nil h_)) ?_
                  refine Plan.v 20 [21, 22, 23, 24, 25, 26, 27] (by kernel_rfl) (by kernel_rfl) (by kernel_rfl) (by kernel_rfl) rfl (fun _ _ h_ => R.subI rfl rfl rfl (by omega) (TL.nil h_)) ?_
                  have hl54 : (((kl1 : Int) - 1)).toNat < a1.length := by first | omega | (simp; done) | (simp; omega) | (simp at *; omega)
                  obtain ⟨y54, e54, h54⟩ : ∃ y, y = (a1.getD ((((kl1 : Int) - 1)).toNat) (((0, 0) : Int × Int) : Int × Int)) ∧ a1[(((kl1 : Int) - 1)).toNat]? = some y := ⟨_, rfl, getD_get (by first | exact hl54 | simpa using hl54 | (rw [(sortI_perm _).length_eq]; exact hl54))⟩
                  obtain ⟨b54, o54, i54, k54⟩ := RdS.elem (ha1.mono (s_l1.trans (sb6_1.trans sb9_2))) h54
                  obtain ⟨l54, g54, k54⟩ := k54
                  obtain rfl : l54 = [.int .i64 (y54.1), .int .u64 (y54.2)] := g54
                  refine Plan.v 21 [22, 23, 24, 25, 26, 27] (by kernel_rfl) (by kernel_rfl) (by kernel_rfl) (by kernel_rfl) rfl (fun _ _ h_ => R.ixp Tryz.underlying23 Tryz.sizeOf50 rfl rfl rfl (by first | omega | (simp; done) | (simp; omega) | (simp at *; omega)) i54 (TL.nil h_)) ?_
                  refine Plan.v 22 [23, 24, 25, 26, 27] (by kernel_rfl) (by kernel_rfl) (by kernel_rfl) (by kernel_rfl) rfl (fun _ _ h_ => R.ldK (l := [.int .i64 (y54.1), .int .u64 (y54.2)]) Tryz.isAgg50 Tryz.sizeOf50 rfl rfl k54 rfl (TL.nil h_)) ?_
                  refine Plan.v 23 [24, 25, 26, 27] (by kernel_rfl) (by kernel_rfl) (by kernel_rfl) (by kernel_rfl) rfl (fun _ _ h_ => R.ldXH (cs := [.int .i64 (yl1.1), .int .u64 (yl1.2)]) (l := [.int .i64 (yl1.1), .int .u64 (yl1.2)]) Tryz.isAgg50 Tryz.sizeOf50 rfl rfl (sb9_2 _ _ hb6_1) rfl rfl (TL.nil h_)) ?_
                  refine Plan.v 24 [25, 26, 27] (by kernel_rfl) (by kernel_rfl) (by kernel_rfl) (by kernel_rfl) rfl (fun _ _ h_ => R.callv rfl rfl rfl (plan_compare_c _ y54 yl1) (TL.nil h_)) ?_
                  refine Plan.v 25 [26, 27] (by kernel_rfl) (by kernel_rfl) (by kernel_rfl) (by kernel_rfl) rfl (fun _ _ h_ => R.geq rfl rfl rfl (TL.nil h_)) ?_
                  refine Plan.v 26 [27] (by kernel_rfl) (by kernel_rfl) (by kernel_rfl) (by kernel_rfl) rfl (fun _ _ h_ => R.pkTE rfl rfl (by conv => lhs; whnf) (TL.nil h_)) ?_
                  refine Plan.v 27 [] (by kernel_rfl) (by kernel_rfl) (by kernel_rfl) (by kernel_rfl) rfl (fun _ _ h_ => R.pkFE rfl rfl (by conv => lhs; whnf) (TL.nil h_)) ?_
                  refine Plan.done (Post.thnN ?_)
                  exact ⟨(decide ((0 : Int) ≤ (plan_compare_m y54 yl1))), HLe.refl _, ⟨Has.nil, (by subst e54; rw [if_f g35, if_f g41, if_neg g47, if_pos g50])⟩, rfl, rfl, rfl, rfl, rfl, rfl, trivial⟩
                · refine Plan.v 18 [19, 20, 21, 22, 23, 24, 25, 26, 27] (by kernel_rfl) (by kernel_rfl) (by kernel_rfl) (by kernel_rfl) rfl (fun _ _ h_ => TL.off rfl rfl rfl (TL.nil h_)) ?_
                  refine Plan.v 19 [20, 21, 22, 23, 24, 25, 26, 27] (by kernel_rfl) (by kernel_rfl) (by kernel_rfl) (by kernel_rfl) rfl (fun _ _ h_ => TL.off rfl rfl rfl (TL.nil h_)) ?_
                  refine Plan.v 20 [21, 22, 23, 24, 25, 26, 27] (by kernel_rfl) (by kernel_rfl) (by kernel_rfl) (by kernel_rfl) rfl (fun _ _ h_ => TL.off rfl rfl rfl (TL.nil h_)) ?_
                  refine Plan.v 21 [22, 23, 24, 25, 26, 27] (by kernel_rfl) (by kernel_rfl) (by kernel_rfl) (by kernel_rfl) rfl (fun _ _ h_ => TL.off rfl rfl rfl (TL.nil h_)) ?_
                  refine Plan.v 22 [23, 24, 25, 26, 27] (by kernel_rfl) (by kernel_rfl) (by kernel_rfl) (by kernel_rfl) rfl (fun _ _ h_ => TL.off rfl rfl rfl (TL.nil h_)) ?_
                  refine Plan.v 23 [24, 25, 26, 27] (by kernel_rfl) (by kernel_rfl) (by kernel_rfl) (by kernel_rfl) rfl (fun _ _ h_ => TL.off rfl rfl rfl (TL.nil h_)) ?_
                  refine Plan.v 24 [25, 26, 27] (by kernel_rfl) (by kernel_rfl) (by kernel_rfl) (by kernel_rfl) rfl (fun _ _ h_ => TL.off rfl rfl rfl (TL.nil h_)) ?_
                  refine Plan.v 25 [26, 27] (by kernel_rfl) (by kernel_rfl) (by kernel_rfl) (by kernel_rfl) rfl (fun _ _ h_ => TL.off rfl rfl rfl (TL.nil h_)) ?_
                  refine Plan.v 26 [27] (by kernel_rfl) (by kernel_rfl) (by kernel_rfl) (by kernel_rfl) rfl (fun _ _ h_ => R.pkFE rfl rfl (by conv => lhs; whnf) (TL.nil h_)) ?_
                  refine Plan.v 27 [] (by kernel_rfl) (by kernel_rfl) (by kernel_rfl) (by kernel_rfl) rfl (fun _ _ h_ => R.pkFE rfl rfl (by conv => lhs; whnf) (TL.nil h_)) ?_
                  refine Plan.done (Post.thnN ?_)
                  exact ⟨false, HLe.refl _, ⟨Has.nil, (by rw [if_f g35, if_f g41, if_neg g47, if_neg g50])⟩, rfl, rfl, rfl, rfl, rfl, rfl, trivial⟩
        · intro b60c2 σ_c2 H_c2 L_c2 ds_c2 s_c2 hI_c2
          obtain ⟨hLc2, hTc2⟩ := hI_c2
          refine T.has hLc2 ?_
          refine T.cond rfl (fun c60 => ?_) (fun c60 => ?_)
          · refine T.set 60 (.bool true) (congrArg Value.bool c60) ?_
            have hZ60 := hTc2.trans c60
            try simp only [or_f, or_t, and_f, and_t, decide_eq_true_eq, decide_eq_false_iff_not, Bool.not_eq_true'] at hZ60
            refine T.seq ?_
            refine T.region ?_
            refine R.asE rfl (by conv => lhs; whnf) ?_
            refine TL.nil (Post.thnN ?_)
            refine T.has Has.nil ?_
            refine T.ret (Post.blkR (Post.thnR (Post.thnR (Post.blkR (Post.thnR ?_)))))
            have hXl1 : plan_Check_l1 a0 a1 a1 0 () = .ret 300 := by subst er30; subst er24; rw [← hQl1, drop_cons hyl1, plan_Check_l1]; rw [LR.seq_go, LR.seq_go, hTc2, LR.seq_go, if_t c60]
            have hM : plan_Check_m a0 a1 = 300 := by rw [plan_Check_m, if_neg c13, hXl1, LR.on_ret]
            exact fin1L (v := .int .i64 300) [] rfl rfl (List.Sublist.refl _) ⟨rfl, by first | rw [hM] | rfl⟩
          · refine T.set 60 (.bool false) (congrArg Value.bool c60) ?_
            have hZ60 := hTc2.trans c60
            try simp only [or_f, or_t, and_f, and_t, decide_eq_true_eq, decide_eq_false_iff_not, Bool.not_eq_true'] at hZ60
            refine T.skip (Post.blkN ?_)
            refine id (Post.thnN ?_)
            refine T.region ?_
            refine R.addI rfl rfl rfl (by omega) ?_
            refine R.mvE rfl (by conv => lhs; whnf) ?_
            refine TL.nil (Post.thnN ?_)
            exact ⟨kl1 + 1, (s_l1.trans (sb6_1.trans (sb9_2.trans s_c2))), ⟨(by omega), Has.nil, (by subst er30; subst er24; rw [← hQl1, drop_cons hyl1, plan_Check_l1]; rw [LR.seq_go, LR.seq_go, hTc2, LR.seq_go, if_f c60])⟩, by show a1.length - (kl1 + 1) < a1.length - kl1; omega, rfl, rfl, rfl, rfl, rfl, trivial⟩
      · refine T.exit (Post.thnE (Post.thnE (Post.blkX ?_)))
        have hEl1 : plan_Check_l1 a0 a1 a1 0 () = .go () := (hQl1.symm.trans (by rw [show kl1 = a1.length by omega, List.drop_length, plan_Check_l1]))
        refine id (Post.thnN ?_)
        refine T.seq ?_
        refine T.region ?_
        refine R.asE rfl (by conv => lhs; whnf) ?_
        refine TL.nil (Post.thnN ?_)
        refine T.has Has.nil ?_
        refine T.ret ?_
        have hM : plan_Check_m a0 a1 = 0 := by rw [plan_Check_m, if_neg c13, hEl1, LR.on_go]
        exact fin1L (v := .int .i64 0) [] rfl rfl (List.Sublist.refl _) ⟨rfl, by first | rw [hM] | rfl⟩

def plan_mentions_1_l2 (q1 : List (Int × (Bool × Bool × Int × Int × Int))) (yl1 : Int × Int) : List Int → ((List (Int × Int))) → (List (Int × Int))
  | [], sl2 => sl2
  | yl2 :: ysl2, sl2 => if (trait_Policy_m q1 yl1.2 yl2).2 = true then (plan_mentions_1_l2 q1 yl1 ysl2 ((sl2 ++ [(yl2, (trait_Policy_m q1 yl1.2 yl2).1)]))) else (plan_mentions_1_l2 q1 yl1 ysl2 sl2)
def plan_mentions_1_l1 (q1 : List (Int × (Bool × Bool × Int × Int × Int))) : List (Int × Int) → Unit → List ((Int × Int) × (List (Int × Int)))
  | [], sl1 => []
  | yl1 :: ysl1, sl1 => LR.seq (plan_mentions_1_l2 q1 yl1 (cmp2 ([(ident_Parts_m yl1.2).1, (ident_Parts_m yl1.2).2])) []) (fun ol2 => ((yl1, ol2)) :: (plan_mentions_1_l1 q1 ysl1 ()))
def plan_mentions_1_m (q0 : List (Int × Int)) (q1 : List (Int × (Bool × Bool × Int × Int × Int))) : List ((Int × Int) × (List (Int × Int))) :=
  (plan_mentions_1_l1 q1 q0 ()) ++ []
set_option maxHeartbeats 3200000 in
theorem plan_mentions_1_c (H : Heap) {tG0 : TypeId} (hG0 : H 0 = some (.cells #[.int .i64 1, .bool true, .bool true, .int .i64 0, .int .i64 1, .int .i64 2, .int .i64 2, .bool true, .bool false, .int .i64 0, .int .i64 0, .int .i64 2] tG0)) (b1000 : Nat) (vq0 : Value) (q0 : List (Int × Int)) (hq0 : RdS heldE H vq0 q0) (hb0 : H b1000 = some (.cells #[vq0] 23)) (b1001 : Nat) (vq1 : Value) (q1 : List (Int × (Bool × Bool × Int × Int × Int))) (hq1 : RdS relationE H vq1 q1) (hb1 : H b1001 = some (.cells #[vq1] 22)) (hl : q1.length ≤ 2000000) : Iter Tryz.prog (.func (.func 80) #[] ([.pointer (some ⟨b1000, 0, none⟩), .pointer (some ⟨b1001, 0, none⟩)] : List Value).toArray) Y119 H (plan_mentions_1_m q0 q1) := by
  intro l J Jx H1 Lc s1 hJ hJx hY h0
  obtain ⟨Aq0, cq0, rfl, hcq0, hdq0, hq0⟩ := hq0.shape
  obtain ⟨Aq1, cq1, rfl, hcq1, hdq1, hq1⟩ := hq1.shape
  refine Fc.of_body (N := 56) Tryz.func80 rfl (by kernel_rfl) rfl rfl ?_
  intro w0
  refine T.seq ?_
  refine T.region ?_
  refine R.ldH Tryz.isAgg23 rfl rfl (s1 _ _ hb0) rfl ?_
  refine R.len Tryz.underlying23 rfl rfl ?_
  refine R.mvE rfl (by conv => lhs; whnf) ?_
  refine TL.nil (Post.thnN ?_)
  refine T.block ?_
  refine T.loop (ι := Nat × (List ((Int × Int) × (List (Int × Int)))) × Own) (fun ⟨kl1, accl1, Ml1⟩ H' L' ds' => kl1 ≤ q0.length ∧ Has L' (Ml1) ∧ J accl1 H' Ml1 ∧ accl1 ++ plan_mentions_1_l1 q1 (q0.drop kl1) () = plan_mentions_1_l1 q1 q0 ()) (fun ⟨kl1, accl1, Ml1⟩ => [(15, .int .i64 (kl1 : Int)), (0, yieldv l), (2, .pointer (some ⟨b1001, 0, none⟩)), (13, .slice Aq0 q0.length cq0), (14, .int .i64 (q0.length : Int))]) (fun ⟨kl1, accl1, Ml1⟩ => q0.length - kl1) (0, [], Lc) ?_ ?_ ?_
  · exact ⟨(by omega), (Has.refl _), (by simpa using h0), (by rfl)⟩
  · exact ⟨rfl, rfl, rfl, rfl, rfl, trivial⟩
  · intro ⟨kl1, accl1, Ml1⟩ σ_l1 H_l1 L_l1 ds_l1 s_l1 hI_l1
    obtain ⟨hkl1, hI_l1⟩ := hI_l1
    obtain ⟨hLl1, hJl1, hQl1⟩ := hI_l1
    refine T.has hLl1 ?_
    refine T.seq ?_
    refine T.region ?_
    refine R.lss rfl rfl rfl ?_
    refine TL.nil (Post.thnN ?_)
    refine T.seq ?_
    refine T.condD rfl (fun c16 => ?_) (fun c16 => ?_)
    · have hltl1 : kl1 < q0.length := by omega
      obtain ⟨yl1, hyl1⟩ := getk (xs := q0) (k := kl1) (by omega)
      refine T.skip (Post.thnN ?_)
      refine T.seq ?_
      refine T.block ?_
      refine T.seq ?_
      refine T.region ?_
      obtain ⟨b17, o17, i17, k17⟩ := RdS.elem (hq0.mono (s1.trans s_l1)) hyl1
      obtain ⟨l17, g17, k17⟩ := k17
      obtain rfl : l17 = [.int .i64 (yl1.1), .int .u64 (yl1.2)] := g17
      refine R.ixp Tryz.underlying23 Tryz.sizeOf50 rfl rfl rfl (by omega) i17 ?_
      refine R.ldK (l := [.int .i64 (yl1.1), .int .u64 (yl1.2)]) Tryz.isAgg50 Tryz.sizeOf50 rfl rfl k17 rfl ?_
      refine R.alloc Tryz.zeroValue50 rfl ?_
      intro b5
      refine R.stX (old := [.int .i64 0, .int .u64 0]) (l := [.int .i64 (yl1.1), .int .u64 (yl1.2)]) (new := [.int .i64 (yl1.1), .int .u64 (yl1.2)]) (et := 50) Tryz.sizeOf50 rfl rfl rfl rfl rfl (by show 0 + 2 ≤ 2; decide) rfl (all_one rfl) .hd ?_
      refine TL.shut .hd ?_
      intro Hb5_1 sb5_1 qb5_1
      have hb5_1 : Hb5_1 b5 = some (.cells #[.int .i64 (yl1.1), .int .u64 (yl1.2)] 50) := shut1 qb5_1
      refine TL.nil (Post.thnN ?_)
      refine T.seq ?_
      refine T.region ?_
      refine R.asE rfl (by conv => lhs; whnf) ?_
      refine TL.nil (Post.thnN ?_)
      refine T.seq ?_
      refine T.region ?_
      refine R.fldA Tryz.underlying50 rfl Tryz.sizeOf48 (by decide) rfl rfl ?_
      refine R.ldH Tryz.isAgg48 rfl rfl hb5_1 rfl ?_
      refine R.callv rfl rfl rfl (ident_Parts_c _ (yl1.2)) ?_
      refine R.mvE rfl (by conv => lhs; whnf) ?_
      refine R.ext rfl rfl rfl ?_
      refine R.ext rfl rfl rfl ?_
      refine R.asE rfl (by conv => lhs; whnf) ?_
      refine R.asE rfl (by conv => lhs; whnf) ?_
      refine TL.nil (Post.thnN ?_)
      refine T.seq ?_
      refine T.seq ?_
      refine T.region ?_
      refine R.mvE rfl (by conv => lhs; whnf) ?_
      refine R.mvE rfl (by conv => lhs; whnf) ?_
      refine R.bsN [.int .i64 ((ident_Parts_m yl1.2).1), .int .i64 ((ident_Parts_m yl1.2).2)] rfl Tryz.underlying30 Tryz.sizeOf3 Tryz.zeroValue3 rfl rfl rfl rfl rfl rfl ?_
      intro b27
      have w27 : OwnS (intE .i64) 3 Hb5_1 (.slice (some ⟨b27, 0, none⟩) 2 2) [(ident_Parts_m yl1.2).1, (ident_Parts_m yl1.2).2] [(b27, .cells #[.int .i64 ((ident_Parts_m yl1.2).1), .int .i64 ((ident_Parts_m yl1.2).2)] 3)] := OwnS.lit (xs := [(ident_Parts_m yl1.2).1, (ident_Parts_m yl1.2).2]) (cellsOf_cons (a := [.int .i64 ((ident_Parts_m yl1.2).1)]) rfl (cellsOf_cons (a := [.int .i64 ((ident_Parts_m yl1.2).2)]) rfl cellsOf_nil)) (by show 2 ≤ maxLen; decide)
      refine TL.call [true] rfl rfl rfl (compact_c _ _ _ _ w27 (by simp) (by simp)) ?_
      intro v28 H28 L28 s28 q28
      obtain ⟨c28, _, rfl, w28⟩ := q28
      obtain ⟨x28, e28⟩ : ∃ x, x = (cmp2 ([(ident_Parts_m yl1.2).1, (ident_Parts_m yl1.2).2])) := ⟨_, rfl⟩
      rw [← cmp2_eq, ← e28] at w28
      obtain ⟨A28, p28, rfl, m28, n28⟩ := OwnS.shape w28
      have hc28 : x28.length ≤ 2 := by rw [e28]; exact Nat.le_trans (compact_len _) (by simp)
      refine R.len Tryz.underlying30 rfl rfl ?_
      refine R.mvE rfl (by conv => lhs; whnf) ?_
      refine TL.nil (Post.thnN ?_)
      refine T.block ?_
      refine T.shut .hd ?_
      intro HF28_2 sF28_2 qF28_2
      have fF28_2 := OwnS.read w28 sF28_2 qF28_2
      refine T.loop (ι := Nat × Value × (List (Int × Int)) × Chunk) (fun ⟨kl2, v6l2, x6l2, c6l2⟩ H' L' ds' => kl2 ≤ x28.length ∧ Has L' (c6l2 :: Ml1) ∧ OwnS pairE 84 H' v6l2 x6l2 c6l2 ∧ x6l2.length ≤ kl2 ∧ plan_mentions_1_l2 q1 yl1 (x28.drop kl2) x6l2 = plan_mentions_1_l2 q1 yl1 x28 []) (fun ⟨kl2, v6l2, x6l2, c6l2⟩ => [(30, .int .i64 (kl2 : Int)), (0, yieldv l), (2, .pointer (some ⟨b1001, 0, none⟩)), (5, .pointer (some ⟨b5, 0, none⟩)), (6, v6l2), (13, .slice Aq0 q0.length cq0), (14, .int .i64 (q0.length : Int)), (15, .int .i64 (kl1 : Int)), (28, .slice A28 x28.length p28), (29, .int .i64 (x28.length : Int))]) (fun ⟨kl2, v6l2, x6l2, c6l2⟩ => x28.length - kl2) (0, .slice none 0 0, [], []) ?_ ?_ ?_
      · exact ⟨(by omega), (Has.none (Has.refl _)), OwnS.nil, (by first | omega | (simp; done) | (simp; omega) | (simp at *; omega)), (by rfl)⟩
      · exact ⟨rfl, rfl, rfl, rfl, rfl, rfl, rfl, rfl, rfl, rfl, trivial⟩
      · intro ⟨kl2, v6l2, x6l2, c6l2⟩ σ_l2 H_l2 L_l2 ds_l2 s_l2 hI_l2
        obtain ⟨hkl2, hI_l2⟩ := hI_l2
        obtain ⟨hLl2, w6l2, hBl2_0, hQl2⟩ := hI_l2
        obtain ⟨A6l2, p6l2, rfl, m6l2, n6l2_⟩ := OwnS.shape w6l2
        refine T.has hLl2 ?_
        refine T.seq ?_
        refine T.region ?_
        refine R.lss rfl rfl rfl ?_
        refine TL.nil (Post.thnN ?_)
        refine T.seq ?_
        refine T.condD rfl (fun c31 => ?_) (fun c31 => ?_)
        · have hltl2 : kl2 < x28.length := by omega
          obtain ⟨yl2, hyl2⟩ := getk (xs := x28) (k := kl2) (by omega)
          refine T.skip (Post.thnN ?_)
          refine T.seq ?_
          refine T.block ?_
          refine T.seq ?_
          refine T.region ?_
          obtain ⟨b32, o32, i32, k32⟩ := RdS.elem (fF28_2.mono s_l2) hyl2
          obtain ⟨l32, g32, k32⟩ := k32
          obtain rfl : l32 = [.int .i64 yl2] := g32
          refine R.ixp Tryz.underlying30 Tryz.sizeOf3 rfl rfl rfl (by omega) i32 ?_
          refine R.ldC Tryz.isAgg3 rfl rfl (k32 0 _ rfl) ?_
          refine R.asE rfl (by conv => lhs; whnf) ?_
          refine TL.nil (Post.thnN ?_)
          refine T.seq ?_
          refine T.region ?_
          refine R.ldH Tryz.isAgg22 rfl rfl ((s1.trans (s_l1.trans (sb5_1.trans (s28.trans (sF28_2.trans s_l2))))) _ _ hb1) rfl ?_
          refine R.fldA Tryz.underlying50 rfl Tryz.sizeOf48 (by decide) rfl rfl ?_
          refine R.ldH Tryz.isAgg48 rfl rfl ((s28.trans (sF28_2.trans s_l2)) _ _ hb5_1) rfl ?_
          refine R.mvE rfl (by conv => lhs; whnf) ?_
          refine R.callv rfl rfl rfl (trait_Policy_c _ ((s1.trans (s_l1.trans (sb5_1.trans (s28.trans (sF28_2.trans s_l2))))) _ _ hG0) _ q1 (hq1.mono (s1.trans (s_l1.trans (sb5_1.trans (s28.trans (sF28_2.trans s_l2)))))) (yl1.2) (yl2) (by first | omega | (simp; done) | (simp; omega) | (simp at *; omega))) ?_
          refine R.mvE rfl (by conv => lhs; whnf) ?_
          refine R.ext rfl rfl rfl ?_
          refine R.ext rfl rfl rfl ?_
          refine R.asE rfl (by conv => lhs; whnf) ?_
          refine R.asE rfl (by conv => lhs; whnf) ?_
          refine TL.nil (Post.thnN ?_)
          refine T.seq ?_
          refine T.region ?_
          refine R.mvE rfl (by conv => lhs; whnf) ?_
          refine TL.nil (Post.thnN ?_)
          refine T.cond rfl (fun c42 => ?_) (fun c42 => ?_)
          · refine T.set 42 (.bool true) (congrArg Value.bool c42) ?_
            refine T.region ?_
            refine R.mvE rfl (by conv => lhs; whnf) ?_
            refine R.mvE rfl (by conv => lhs; whnf) ?_
            refine R.mvE rfl (by conv => lhs; whnf) ?_
            refine R.bld (cs := [.int .i64 yl2, .int .i64 ((trait_Policy_m q1 yl1.2 yl2).1)]) rfl (fun _ => by kernel_rfl) ?_
            refine R.bs (e := 84) (cs := [.int .i64 yl2, .int .i64 ((trait_Policy_m q1 yl1.2 yl2).1)]) rfl (fun _ => by kernel_rfl) ?_
            intro b47
            have w47 : OwnS pairE 84 H_l2 (.slice (some ⟨b47, 0, none⟩) 1 1) [(yl2, (trait_Policy_m q1 yl1.2 yl2).1)] [(b47, .cells #[.int .i64 yl2, .int .i64 ((trait_Policy_m q1 yl1.2 yl2).1)] 84)] := OwnS.lit (xs := [(yl2, (trait_Policy_m q1 yl1.2 yl2).1)]) (cellsOf_cons (a := [.int .i64 yl2, .int .i64 ((trait_Policy_m q1 yl1.2 yl2).1)]) rfl cellsOf_nil) (by show 1 ≤ maxLen; decide)
            obtain ⟨k48, y48, r48⟩ := Src.ownA w47
            refine R.app (E := pairE) (e := 84) (xs := x6l2) (ys := [(yl2, (trait_Policy_m q1 yl1.2 yl2).1)]) Tryz_ty81 rfl rfl rfl w6l2 (.tl .hd) (r48 _ .hd) y48 (by (try simp only [List.length_append, List.length_cons, List.length_nil, List.length_replicate, List.length_take, List.length_drop]); omega) (by (try simp only [List.length_append, List.length_cons, List.length_nil, List.length_replicate, List.length_take, List.length_drop]); omega) ?_
            intro v48 c48 w48
            obtain ⟨A48, p48, rfl, m48, n48⟩ := OwnS.shape w48
            refine TL.del (.tl .hd) ?_
            refine R.asE rfl (by conv => lhs; whnf) ?_
            refine TL.nil (Post.blkN ?_)
            refine id (Post.thnN ?_)
            refine T.region ?_
            refine R.addI rfl rfl rfl (by omega) ?_
            refine R.mvE rfl (by conv => lhs; whnf) ?_
            refine TL.nil (Post.thnN ?_)
            exact ⟨(kl2 + 1, .slice A48 (x6l2 ++ [(yl2, (trait_Policy_m q1 yl1.2 yl2).1)]).length p48, (x6l2 ++ [(yl2, (trait_Policy_m q1 yl1.2 yl2).1)]), c48), s_l2, ⟨(by omega), (Has.cons .hd (Has.refl _)), w48, (by first | omega | (simp; done) | (simp; omega) | (simp at *; omega)), (by rw [← hQl2, drop_cons hyl2, plan_mentions_1_l2]; rw [if_t c42])⟩, by show x28.length - (kl2 + 1) < x28.length - kl2; omega, rfl, rfl, rfl, rfl, rfl, rfl, rfl, rfl, rfl, rfl, trivial⟩
          · refine T.set 42 (.bool false) (congrArg Value.bool c42) ?_
            refine T.skip (Post.blkN ?_)
            refine id (Post.thnN ?_)
            refine T.region ?_
            refine R.addI rfl rfl rfl (by omega) ?_
            refine R.mvE rfl (by conv => lhs; whnf) ?_
            refine TL.nil (Post.thnN ?_)
            exact ⟨(kl2 + 1, .slice A6l2 x6l2.length p6l2, x6l2, c6l2), s_l2, ⟨(by omega), (Has.cons .hd (Has.refl _)), w6l2, (by first | omega | (simp; done) | (simp; omega) | (simp at *; omega)), (by rw [← hQl2, drop_cons hyl2, plan_mentions_1_l2]; rw [if_f c42])⟩, by show x28.length - (kl2 + 1) < x28.length - kl2; omega, rfl, rfl, rfl, rfl, rfl, rfl, rfl, rfl, rfl, rfl, trivial⟩
        · refine T.exit (Post.thnE (Post.thnE (Post.blkX ?_)))
          have hEl2 : plan_mentions_1_l2 q1 yl1 x28 [] = x6l2 := (hQl2.symm.trans (by rw [show kl2 = x28.length by omega, List.drop_length, plan_mentions_1_l2]))
          refine id (Post.thnN ?_)
          refine T.seq ?_
          refine T.region ?_
          refine R.mvE rfl (by conv => lhs; whnf) ?_
          refine R.ldXH (cs := [.int .i64 (yl1.1), .int .u64 (yl1.2)]) (l := [.int .i64 (yl1.1), .int .u64 (yl1.2)]) Tryz.isAgg50 Tryz.sizeOf50 rfl rfl ((s28.trans (sF28_2.trans s_l2)) _ _ hb5_1) rfl rfl ?_
          refine R.mvE rfl (by conv => lhs; whnf) ?_
          refine TL.shut .hd ?_
          intro HF6l2_3 sF6l2_3 qF6l2_3
          have fF6l2_3 := OwnS.read w6l2 sF6l2_3 qF6l2_3
          have hP53_l1 : (accl1 ++ [(yl1, x6l2)]) <+: plan_mentions_1_l1 q1 q0 () := by subst e28; rw [← hQl1, drop_cons hyl1, plan_mentions_1_l1]; rw [hEl2, LR.seq_go]; exact (pf_app pf_one)
          have hP53_f : (accl1 ++ [(yl1, x6l2)]) <+: plan_mentions_1_m q0 q1 := by rw [plan_mentions_1_m]; exact (pf_l hP53_l1)
          have hp53 : (accl1 ++ [(yl1, x6l2)]) <+: plan_mentions_1_m q0 q1 := by simpa [List.append_assoc] using hP53_f
          refine TL.callT 0 rfl rfl rfl (hY accl1 ((yl1, x6l2)) _ HF6l2_3 Ml1 (s_l1.trans (sb5_1.trans (s28.trans (sF28_2.trans (s_l2.trans sF6l2_3))))) hp53 (hJ _ _ _ _ (sb5_1.trans (s28.trans (sF28_2.trans (s_l2.trans sF6l2_3)))) hJl1) ⟨_, rfl, fF6l2_3⟩) ?_
          intro v53 H53 L53 s53 q53
          rcases q53 with ⟨rfl, j53⟩ | ⟨rfl, j53⟩
          · refine R.not rfl rfl ?_
            refine TL.nil (Post.thnN ?_)
            refine T.condN rfl ?_
            refine T.skip (Post.blkN ?_)
            refine id (Post.thnN ?_)
            refine T.region ?_
            refine R.addI rfl rfl rfl (by omega) ?_
            refine R.mvE rfl (by conv => lhs; whnf) ?_
            refine TL.nil (Post.thnN ?_)
            exact ⟨(kl1 + 1, (accl1 ++ [(yl1, x6l2)]), L53), (s_l1.trans (sb5_1.trans (s28.trans (sF28_2.trans (s_l2.trans (sF6l2_3.trans s53)))))), ⟨(by omega), (Has.refl _), (by simpa [List.append_assoc] using j53), (by subst e28; (rw [← hQl1, drop_cons hyl1, plan_mentions_1_l1]; rw [hEl2, LR.seq_go]) <;> simp)⟩, by show q0.length - (kl1 + 1) < q0.length - kl1; omega, rfl, rfl, rfl, rfl, rfl, trivial⟩
          · refine R.not rfl rfl ?_
            refine TL.nil (Post.thnN ?_)
            refine T.condY rfl ?_
            refine T.ret (Post.blkR (Post.thnR (Post.thnR (Post.blkR ?_))))
            exact fin0L L53 rfl (List.Sublist.refl _) (.inr ⟨accl1, (yl1, x6l2), hp53, j53⟩)
    · refine T.exit (Post.thnE (Post.thnE (Post.blkX ?_)))
      have hEl1 : plan_mentions_1_l1 q1 q0 () = accl1 := (by rw [← hQl1, show kl1 = q0.length by omega, List.drop_length, plan_mentions_1_l1] <;> simp)
      refine id ?_
      have hM : plan_mentions_1_m q0 q1 = accl1 := by rw [plan_mentions_1_m, hEl1] <;> simp
      exact fin0N Ml1 rfl (List.Sublist.refl _) (.inl (by rw [hM]; exact hJl1))

def plan_mentions_m (a0 : List (Int × (Bool × Bool × Int × Int × Int))) (a1 : List (Int × Int)) : (List ((Int × Int) × (List (Int × Int)))) :=
  (plan_mentions_1_m a1 a0)
set_option maxHeartbeats 3200000 in
theorem plan_mentions_c (H : Heap) {tG0 : TypeId} (hG0 : H 0 = some (.cells #[.int .i64 1, .bool true, .bool true, .int .i64 0, .int .i64 1, .int .i64 2, .int .i64 2, .bool true, .bool false, .int .i64 0, .int .i64 0, .int .i64 2] tG0)) (va0 : Value) (a0 : List (Int × (Bool × Bool × Int × Int × Int))) (ha0 : RdS relationE H va0 a0) (va1 : Value) (a1 : List (Int × Int)) (ha1 : RdS heldE H va1 a1) (hl : a0.length ≤ 2000000) : Fp Tryz.prog (fnv 39) [va0, va1] H (fun v' H' => ∃ u0_0, v' = .func (.func 80) #[] u0_0 ∧ Iter Tryz.prog (.func (.func 80) #[] u0_0) Y119 H' (plan_mentions_m a0 a1)) := by
  refine Fc.of_body (N := 6) Tryz.func39 rfl (by kernel_rfl) rfl rfl ?_
  intro w0
  obtain ⟨Aa0, ca0, rfl, hca0, hda0, ha0⟩ := ha0.shape
  obtain ⟨Aa1, ca1, rfl, hca1, hda1, ha1⟩ := ha1.shape
  refine T.seq ?_
  refine T.region ?_
  refine R.box rfl (by conv => lhs; whnf) ?_
  intro b2
  refine R.box rfl (by conv => lhs; whnf) ?_
  intro b3
  refine R.asE rfl (by conv => lhs; whnf) ?_
  refine TL.shut .hd ?_
  intro Hb3_1 sb3_1 qb3_1
  have hb3_1 : Hb3_1 b3 = some (.cells #[.slice Aa1 a1.length ca1] 23) := shut1 qb3_1
  refine TL.shut .hd ?_
  intro Hb2_2 sb2_2 qb2_2
  have hb2_2 : Hb2_2 b2 = some (.cells #[.slice Aa0 a0.length ca0] 22) := shut1 qb2_2
  refine TL.nil (Post.thnN ?_)
  refine T.seq ?_
  refine T.region ?_
  refine R.mkf (cs := [_, _]) rfl rfl ?_
  refine R.asE rfl (by conv => lhs; whnf) ?_
  refine TL.nil (Post.thnN ?_)
  refine T.has Has.nil ?_
  refine T.ret ?_
  have hM : plan_mentions_m a0 a1 = (plan_mentions_1_m a1 a0) := by rw [plan_mentions_m]
  exact fin1L (v := .func (.func 80) #[] ([.pointer (some ⟨b3, 0, none⟩), .pointer (some ⟨b2, 0, none⟩)] : List Value).toArray) [] rfl rfl (List.Sublist.refl _) ⟨rfl, ([.pointer (some ⟨b3, 0, none⟩), .pointer (some ⟨b2, 0, none⟩)] : List Value).toArray, by first | rw [hM] | rfl, by rw [hM]; exact (plan_mentions_1_c _ ((sb3_1.trans sb2_2) _ _ hG0) b3 _ a1 (ha1.mono (sb3_1.trans sb2_2)) (sb2_2 _ _ hb3_1) b2 _ a0 (ha0.mono (sb3_1.trans sb2_2)) hb2_2 (by first | omega | (simp; done) | (simp; omega) | (simp at *; omega)))⟩

def plan_Same_m (a0 : (List Int) × (List (Int × Int)) × (List (Int × Int))) (a1 : (List Int) × (List (Int × Int)) × (List (Int × Int))) : Bool :=
  if a0.1 = a1.1 then (if a0.2.1 = a1.2.1 then ((decide (a0.2.2 = a1.2.2))) else false) else false
set_option maxHeartbeats 3200000 in
theorem plan_Same_c (H : Heap) (a0 : (List Int) × (List (Int × Int)) × (List (Int × Int))) (va0_0 : Value) (ha0_0 : RdS (intE .i64) H va0_0 a0.1) (va0_1 : Value) (ha0_1 : RdS heldE H va0_1 a0.2.1) (va0_2 : Value) (ha0_2 : RdS heldE H va0_2 a0.2.2) (a1 : (List Int) × (List (Int × Int)) × (List (Int × Int))) (va1_0 : Value) (ha1_0 : RdS (intE .i64) H va1_0 a1.1) (va1_1 : Value) (ha1_1 : RdS heldE H va1_1 a1.2.1) (va1_2 : Value) (ha1_2 : RdS heldE H va1_2 a1.2.2) : Fv Tryz.prog (fnv 19) [.agg #[va0_0, va0_1, va0_2], .agg #[va1_0, va1_1, va1_2]] H (.bool (plan_Same_m a0 a1)) := by
  refine Fc.of_body (N := 24) Tryz.func19 rfl (by kernel_rfl) rfl rfl ?_
  intro w0
  obtain ⟨Aa0_0, ca0_0, rfl, hca0_0, hda0_0, ha0_0⟩ := ha0_0.shape
  obtain ⟨Aa0_1, ca0_1, rfl, hca0_1, hda0_1, ha0_1⟩ := ha0_1.shape
  obtain ⟨Aa0_2, ca0_2, rfl, hca0_2, hda0_2, ha0_2⟩ := ha0_2.shape
  obtain ⟨Aa1_0, ca1_0, rfl, hca1_0, hda1_0, ha1_0⟩ := ha1_0.shape
  obtain ⟨Aa1_1, ca1_1, rfl, hca1_1, hda1_1, ha1_1⟩ := ha1_1.shape
  obtain ⟨Aa1_2, ca1_2, rfl, hca1_2, hda1_2, ha1_2⟩ := ha1_2.shape
  refine T.seq ?_
  refine T.region ?_
  refine R.box rfl (by conv => lhs; whnf) ?_
  intro b2
  refine R.box rfl (by conv => lhs; whnf) ?_
  intro b3
  refine R.asE rfl (by conv => lhs; whnf) ?_
  refine TL.shut .hd ?_
  intro Hb3_1 sb3_1 qb3_1
  have hb3_1 : Hb3_1 b3 = some (.cells #[.slice Aa1_0 a1.1.length ca1_0, .slice Aa1_1 a1.2.1.length ca1_1, .slice Aa1_2 a1.2.2.length ca1_2] 33) := shut1 qb3_1
  refine TL.shut .hd ?_
  intro Hb2_2 sb2_2 qb2_2
  have hb2_2 : Hb2_2 b2 = some (.cells #[.slice Aa0_0 a0.1.length ca0_0, .slice Aa0_1 a0.2.1.length ca0_1, .slice Aa0_2 a0.2.2.length ca0_2] 33) := shut1 qb2_2
  refine TL.nil (Post.thnN ?_)
  refine T.seq ?_
  refine T.region ?_
  refine R.fldA Tryz.underlying33 rfl Tryz.sizeOf30 (by decide) rfl rfl ?_
  refine R.ldH Tryz.isAgg30 rfl rfl hb2_2 rfl ?_
  refine R.fldA Tryz.underlying33 rfl Tryz.sizeOf30 (by decide) rfl rfl ?_
  refine R.ldH Tryz.isAgg30 rfl rfl (sb2_2 _ _ hb3_1) rfl ?_
  refine R.callv rfl rfl rfl (slices_Equal_int_d _ _ a0.1 (ha0_0.mono (sb3_1.trans sb2_2)) _ a1.1 (ha1_0.mono (sb3_1.trans sb2_2))) ?_
  refine R.mvE rfl (by conv => lhs; whnf) ?_
  refine TL.gsplitD 10 rfl (fun g10 => ?_) (fun g10 => ?_)
  · refine R.fldA Tryz.underlying33 rfl Tryz.sizeOf23 (by decide) rfl rfl ?_
    refine R.ldH Tryz.isAgg23 rfl rfl hb2_2 rfl ?_
    refine R.fldA Tryz.underlying33 rfl Tryz.sizeOf23 (by decide) rfl rfl ?_
    refine R.ldH Tryz.isAgg23 rfl rfl (sb2_2 _ _ hb3_1) rfl ?_
    refine R.callv rfl rfl rfl (slices_Equal_Held_d _ _ a0.2.1 (ha0_1.mono (sb3_1.trans sb2_2)) _ a1.2.1 (ha1_1.mono (sb3_1.trans sb2_2))) ?_
    refine R.pkTE rfl rfl (by conv => lhs; whnf) ?_
    refine R.mvE rfl (by conv => lhs; whnf) ?_
    refine TL.gsplitD 17 rfl (fun g17 => ?_) (fun g17 => ?_)
    · refine R.fldA Tryz.underlying33 rfl Tryz.sizeOf23 (by decide) rfl rfl ?_
      refine R.ldH Tryz.isAgg23 rfl rfl hb2_2 rfl ?_
      refine R.fldA Tryz.underlying33 rfl Tryz.sizeOf23 (by decide) rfl rfl ?_
      refine R.ldH Tryz.isAgg23 rfl rfl (sb2_2 _ _ hb3_1) rfl ?_
      refine R.callv rfl rfl rfl (slices_Equal_Held_d _ _ a0.2.2 (ha0_2.mono (sb3_1.trans sb2_2)) _ a1.2.2 (ha1_2.mono (sb3_1.trans sb2_2))) ?_
      refine R.pkTE rfl rfl (by conv => lhs; whnf) ?_
      refine R.asE rfl (by conv => lhs; whnf) ?_
      refine TL.nil (Post.thnN ?_)
      refine T.has Has.nil ?_
      refine T.ret ?_
      have hM : plan_Same_m a0 a1 = (decide (a0.2.2 = a1.2.2)) := by rw [plan_Same_m, if_pos g10, if_pos g17]
      exact fin1L (v := .bool (decide (a0.2.2 = a1.2.2))) [] rfl rfl (List.Sublist.refl _) ⟨rfl, by first | rw [hM] | rfl⟩
    · refine TL.off rfl rfl rfl ?_
      refine TL.off rfl rfl rfl ?_
      refine TL.off rfl rfl rfl ?_
      refine TL.off rfl rfl rfl ?_
      refine TL.off rfl rfl rfl ?_
      refine R.pkFE rfl rfl (by conv => lhs; whnf) ?_
      refine R.asE rfl (by conv => lhs; whnf) ?_
      refine TL.nil (Post.thnN ?_)
      refine T.has Has.nil ?_
      refine T.ret ?_
      have hM : plan_Same_m a0 a1 = false := by rw [plan_Same_m, if_pos g10, if_neg g17]
      exact fin1L (v := .bool false) [] rfl rfl (List.Sublist.refl _) ⟨rfl, by first | rw [hM] | rfl⟩
  · refine TL.off rfl rfl rfl ?_
    refine TL.off rfl rfl rfl ?_
    refine TL.off rfl rfl rfl ?_
    refine TL.off rfl rfl rfl ?_
    refine TL.off rfl rfl rfl ?_
    refine R.pkFE rfl rfl (by conv => lhs; whnf) ?_
    refine R.mvE rfl (by conv => lhs; whnf) ?_
    refine TL.off rfl rfl rfl ?_
    refine TL.off rfl rfl rfl ?_
    refine TL.off rfl rfl rfl ?_
    refine TL.off rfl rfl rfl ?_
    refine TL.off rfl rfl rfl ?_
    refine R.pkFE rfl rfl (by conv => lhs; whnf) ?_
    refine R.asE rfl (by conv => lhs; whnf) ?_
    refine TL.nil (Post.thnN ?_)
    refine T.has Has.nil ?_
    refine T.ret ?_
    have hM : plan_Same_m a0 a1 = false := by rw [plan_Same_m, if_neg g10]
    exact fin1L (v := .bool false) [] rfl rfl (List.Sublist.refl _) ⟨rfl, by first | rw [hM] | rfl⟩

def windroseref13_Find_l1 (a1 : Int) : List (Int × (Bool × Bool × Int × Int × Int)) → Unit → LR ((Bool × Bool × Int × Int × Int) × Bool) (Unit)
  | [], sl1 => .go ()
  | yl1 :: ysl1, sl1 => if yl1.1 = a1 then (.ret ((yl1.2, true))) else (windroseref13_Find_l1 a1 ysl1 ())
def windroseref13_Find_m (a0 : List (Int × (Bool × Bool × Int × Int × Int))) (a1 : Int) : (Bool × Bool × Int × Int × Int) × Bool :=
  LR.on (windroseref13_Find_l1 a1 a0 ()) (fun r => r) (fun ol1 => (((false, false, 0, 0, 0) : Bool × Bool × Int × Int × Int), false))
set_option maxHeartbeats 3200000 in
theorem windroseref13_Find_c (H : Heap) (va0 : Value) (a0 : List (Int × (Bool × Bool × Int × Int × Int))) (ha0 : RdS relationE H va0 a0) (a1 : Int) : Fv Tryz.prog (fnv 60) [va0, .int .i64 a1] H (.tuple #[.agg #[.bool (windroseref13_Find_m a0 a1).1.1, .bool (windroseref13_Find_m a0 a1).1.2.1, .int .i64 (windroseref13_Find_m a0 a1).1.2.2.1, .int .i64 (windroseref13_Find_m a0 a1).1.2.2.2.1, .int .i64 (windroseref13_Find_m a0 a1).1.2.2.2.2], .bool (windroseref13_Find_m a0 a1).2]) := by
  refine Fc.of_body (N := 22) Tryz.func60 rfl (by kernel_rfl) rfl rfl ?_
  intro w0
  obtain ⟨Aa0, ca0, rfl, hca0, hda0, ha0⟩ := ha0.shape
  refine T.seq ?_
  refine T.region ?_
  refine R.alloc Tryz.zeroValue53 rfl ?_
  intro b4
  refine R.asE rfl (by conv => lhs; whnf) ?_
  refine TL.nil (Post.thnN ?_)
  refine T.seq ?_
  refine T.seq ?_
  refine T.region ?_
  refine R.mvE rfl (by conv => lhs; whnf) ?_
  refine R.len Tryz.underlying22 rfl rfl ?_
  refine R.mvE rfl (by conv => lhs; whnf) ?_
  refine TL.nil (Post.thnN ?_)
  refine T.block ?_
  refine T.loop (ι := Nat) (fun kl1 H' L' ds' => kl1 ≤ a0.length ∧ Has L' [[(b4, .cells #[.bool false, .bool false, .int .i64 0, .int .i64 0, .int .i64 0] 53)]] ∧ windroseref13_Find_l1 a1 (a0.drop kl1) () = windroseref13_Find_l1 a1 a0 ()) (fun kl1 => [(10, .int .i64 (kl1 : Int)), (1, .int .i64 a1), (4, .pointer (some ⟨b4, 0, none⟩)), (8, .slice Aa0 a0.length ca0), (9, .int .i64 (a0.length : Int))]) (fun kl1 => a0.length - kl1) 0 ?_ ?_ ?_
  · exact ⟨(by omega), (Has.cons .hd Has.nil), (by rfl)⟩
  · exact ⟨rfl, rfl, rfl, rfl, rfl, trivial⟩
  · intro kl1 σ_l1 H_l1 L_l1 ds_l1 s_l1 hI_l1
    obtain ⟨hkl1, hI_l1⟩ := hI_l1
    obtain ⟨hLl1, hQl1⟩ := hI_l1
    refine T.has hLl1 ?_
    refine T.seq ?_
    refine T.region ?_
    refine R.lss rfl rfl rfl ?_
    refine TL.nil (Post.thnN ?_)
    refine T.seq ?_
    refine T.condD rfl (fun c11 => ?_) (fun c11 => ?_)
    · have hltl1 : kl1 < a0.length := by omega
      obtain ⟨yl1, hyl1⟩ := getk (xs := a0) (k := kl1) (by omega)
      refine T.skip (Post.thnN ?_)
      refine T.seq ?_
      refine T.block ?_
      refine T.seq ?_
      refine T.region ?_
      obtain ⟨b12, o12, i12, k12⟩ := RdS.elem (ha0.mono s_l1) hyl1
      obtain ⟨l12, g12, k12⟩ := k12
      obtain rfl : l12 = [.int .i64 (yl1.1), .bool (yl1.2.1), .bool (yl1.2.2.1), .int .i64 (yl1.2.2.2.1), .int .i64 (yl1.2.2.2.2.1), .int .i64 (yl1.2.2.2.2.2)] := g12
      refine R.ixp Tryz.underlying22 Tryz.sizeOf55 rfl rfl rfl (by omega) i12 ?_
      refine R.ldK (l := [.int .i64 (yl1.1), .bool (yl1.2.1), .bool (yl1.2.2.1), .int .i64 (yl1.2.2.2.1), .int .i64 (yl1.2.2.2.2.1), .int .i64 (yl1.2.2.2.2.2)]) Tryz.isAgg55 Tryz.sizeOf55 rfl rfl k12 rfl ?_
      refine R.alloc Tryz.zeroValue55 rfl ?_
      intro b7
      refine R.stX (old := [.int .i64 0, .bool false, .bool false, .int .i64 0, .int .i64 0, .int .i64 0]) (l := [.int .i64 (yl1.1), .bool (yl1.2.1), .bool (yl1.2.2.1), .int .i64 (yl1.2.2.2.1), .int .i64 (yl1.2.2.2.2.1), .int .i64 (yl1.2.2.2.2.2)]) (new := [.int .i64 (yl1.1), .bool (yl1.2.1), .bool (yl1.2.2.1), .int .i64 (yl1.2.2.2.1), .int .i64 (yl1.2.2.2.2.1), .int .i64 (yl1.2.2.2.2.2)]) (et := 55) Tryz.sizeOf55 rfl rfl rfl rfl rfl (by show 0 + 6 ≤ 6; decide) rfl (all_one rfl) .hd ?_
      refine TL.shut .hd ?_
      intro Hb7_1 sb7_1 qb7_1
      have hb7_1 : Hb7_1 b7 = some (.cells #[.int .i64 (yl1.1), .bool (yl1.2.1), .bool (yl1.2.2.1), .int .i64 (yl1.2.2.2.1), .int .i64 (yl1.2.2.2.2.1), .int .i64 (yl1.2.2.2.2.2)] 55) := shut1 qb7_1
      refine TL.nil (Post.thnN ?_)
      refine T.seq ?_
      refine T.region ?_
      refine R.fldA Tryz.underlying55 rfl Tryz.sizeOf3 (by decide) rfl rfl ?_
      refine R.ldH Tryz.isAgg3 rfl rfl hb7_1 rfl ?_
      refine R.mvE rfl (by conv => lhs; whnf) ?_
      refine R.eql rfl rfl rfl ?_
      refine TL.nil (Post.thnN ?_)
      refine T.condD rfl (fun c17 => ?_) (fun c17 => ?_)
      · refine T.set 17 (.bool true) (congrArg Value.bool (decide_eq_true c17)) ?_
        refine T.seq ?_
        refine T.region ?_
        refine R.fldA Tryz.underlying55 rfl Tryz.sizeOf53 (by decide) rfl rfl ?_
        refine R.ldXH (cs := [.int .i64 (yl1.1), .bool (yl1.2.1), .bool (yl1.2.2.1), .int .i64 (yl1.2.2.2.1), .int .i64 (yl1.2.2.2.2.1), .int .i64 (yl1.2.2.2.2.2)]) (l := [.bool (yl1.2.1), .bool (yl1.2.2.1), .int .i64 (yl1.2.2.2.1), .int .i64 (yl1.2.2.2.2.1), .int .i64 (yl1.2.2.2.2.2)]) Tryz.isAgg53 Tryz.sizeOf53 rfl rfl hb7_1 rfl rfl ?_
        refine R.stX (old := [.bool false, .bool false, .int .i64 0, .int .i64 0, .int .i64 0]) (l := [.bool (yl1.2.1), .bool (yl1.2.2.1), .int .i64 (yl1.2.2.2.1), .int .i64 (yl1.2.2.2.2.1), .int .i64 (yl1.2.2.2.2.2)]) (new := [.bool (yl1.2.1), .bool (yl1.2.2.1), .int .i64 (yl1.2.2.2.1), .int .i64 (yl1.2.2.2.2.1), .int .i64 (yl1.2.2.2.2.2)]) (et := 53) Tryz.sizeOf53 rfl rfl rfl rfl rfl (by show 0 + 5 ≤ 5; decide) rfl (all_one rfl) .hd ?_
        refine R.asE rfl (by conv => lhs; whnf) ?_
        refine TL.nil (Post.thnN ?_)
        refine T.has (Has.cons .hd Has.nil) ?_
        refine T.ret (Post.blkR (Post.thnR (Post.thnR (Post.blkR (Post.thnR ?_)))))
        have hXl1 : windroseref13_Find_l1 a1 a0 () = .ret ((yl1.2, true)) := by rw [← hQl1, drop_cons hyl1, windroseref13_Find_l1]; rw [if_pos c17]
        have hM : windroseref13_Find_m a0 a1 = (yl1.2, true) := by rw [windroseref13_Find_m, hXl1, LR.on_ret]
        exact finR2 (v := .agg #[.bool (yl1.2.1), .bool (yl1.2.2.1), .int .i64 (yl1.2.2.2.1), .int .i64 (yl1.2.2.2.2.1), .int .i64 (yl1.2.2.2.2.2)]) (v' := .bool true) [] rfl (.cellA (cs := [.bool (yl1.2.1), .bool (yl1.2.2.1), .int .i64 (yl1.2.2.2.1), .int .i64 (yl1.2.2.2.2.1), .int .i64 (yl1.2.2.2.2.2)]) (l := [.bool (yl1.2.1), .bool (yl1.2.2.1), .int .i64 (yl1.2.2.2.1), .int .i64 (yl1.2.2.2.2.1), .int .i64 (yl1.2.2.2.2.2)]) Tryz.isAgg53 Tryz.sizeOf53 rfl .hd rfl rfl) (.tmp rfl) (List.sublist_append_left ([] : Own) _) ⟨rfl, by first | rw [hM] | rfl⟩
      · refine T.set 17 (.bool false) (congrArg Value.bool (decide_eq_false c17)) ?_
        refine T.skip (Post.blkN ?_)
        refine id (Post.thnN ?_)
        refine T.region ?_
        refine R.addI rfl rfl rfl (by omega) ?_
        refine R.mvE rfl (by conv => lhs; whnf) ?_
        refine TL.nil (Post.thnN ?_)
        exact ⟨kl1 + 1, (s_l1.trans sb7_1), ⟨(by omega), (Has.cons .hd Has.nil), (by rw [← hQl1, drop_cons hyl1, windroseref13_Find_l1]; rw [if_neg c17])⟩, by show a0.length - (kl1 + 1) < a0.length - kl1; omega, rfl, rfl, rfl, rfl, rfl, trivial⟩
    · refine T.exit (Post.thnE (Post.thnE (Post.blkX ?_)))
      have hEl1 : windroseref13_Find_l1 a1 a0 () = .go () := (hQl1.symm.trans (by rw [show kl1 = a0.length by omega, List.drop_length, windroseref13_Find_l1]))
      refine id (Post.thnN ?_)
      refine T.seq ?_
      refine T.region ?_
      refine R.bld (cs := [.bool false, .bool false, .int .i64 0, .int .i64 0, .int .i64 0]) rfl (fun _ => by kernel_rfl) ?_
      refine R.stX (old := [.bool false, .bool false, .int .i64 0, .int .i64 0, .int .i64 0]) (l := [.bool false, .bool false, .int .i64 0, .int .i64 0, .int .i64 0]) (new := [.bool false, .bool false, .int .i64 0, .int .i64 0, .int .i64 0]) (et := 53) Tryz.sizeOf53 rfl rfl rfl rfl rfl (by show 0 + 5 ≤ 5; decide) rfl (all_one rfl) .hd ?_
      refine R.asE rfl (by conv => lhs; whnf) ?_
      refine TL.nil (Post.thnN ?_)
      refine T.has (Has.cons .hd Has.nil) ?_
      refine T.ret ?_
      have hM : windroseref13_Find_m a0 a1 = (((false, false, 0, 0, 0) : Bool × Bool × Int × Int × Int), false) := by rw [windroseref13_Find_m, hEl1, LR.on_go]
      exact finR2 (v := .agg #[.bool false, .bool false, .int .i64 0, .int .i64 0, .int .i64 0]) (v' := .bool false) [] rfl (.cellA (cs := [.bool false, .bool false, .int .i64 0, .int .i64 0, .int .i64 0]) (l := [.bool false, .bool false, .int .i64 0, .int .i64 0, .int .i64 0]) Tryz.isAgg53 Tryz.sizeOf53 rfl .hd rfl rfl) (.tmp rfl) (List.sublist_append_left ([] : Own) _) ⟨rfl, by first | rw [hM] | rfl⟩

def windroseref13_Policy_m (a0 : List (Int × (Bool × Bool × Int × Int × Int))) (a1 : Int) (a2 : Int) : Int × Bool :=
  LR.seq (windroseref01_Parts_m a1) (fun r14 => LR.seq (windroseref13_Find_m a0 r14.1) (fun r20 => LR.seq (if ((windroseref01_Kind_m a1) : Int) ≠ 3 then true else (if (!r20.2) = true then true else (if a2 ≠ r14.1 then ((decide (a2 ≠ r14.2))) else false)) : Bool) (fun sc1 => if sc1 = true then ((0, false)) else (if a2 ≠ r14.1 then ((r20.1.2.2.2.1, true)) else (if a2 ≠ r14.2 then ((r20.1.2.2.2.2, true)) else (LR.seq (if r20.1.2.2.2.1 = 1 then true else ((decide (r20.1.2.2.2.2 = 1))) : Bool) (fun sc2 => if sc2 = true then ((1, true)) else (LR.seq (if r20.1.2.2.2.1 = 2 then true else ((decide (r20.1.2.2.2.2 = 2))) : Bool) (fun sc3 => if sc3 = true then ((2, true)) else ((0, true)))))))))))
set_option maxHeartbeats 3200000 in
theorem windroseref13_Policy_c (H : Heap) (va0 : Value) (a0 : List (Int × (Bool × Bool × Int × Int × Int))) (ha0 : RdS relationE H va0 a0) (a1 : Int) (a2 : Int) : Fv Tryz.prog (fnv 105) [va0, .int .u64 a1, .int .i64 a2] H (.tuple #[.int .i64 (windroseref13_Policy_m a0 a1 a2).1, .bool (windroseref13_Policy_m a0 a1 a2).2]) := by
  refine Fc.of_body (N := 70) Tryz.func105 rfl (by kernel_rfl) rfl rfl ?_
  intro w0
  obtain ⟨Aa0, ca0, rfl, hca0, hda0, ha0⟩ := ha0.shape
  refine T.seq ?_
  refine T.region ?_
  refine R.asE rfl (by conv => lhs; whnf) ?_
  refine R.asE rfl (by conv => lhs; whnf) ?_
  refine TL.nil (Post.thnN ?_)
  refine T.seq ?_
  refine T.region ?_
  refine R.mvE rfl (by conv => lhs; whnf) ?_
  obtain ⟨r14, er14⟩ : ∃ r, r = (windroseref01_Parts_m a1) := ⟨_, rfl⟩
  refine R.callv (v := .tuple #[.int .i64 r14.1, .int .i64 r14.2]) rfl rfl rfl (by rw [er14]; exact windroseref01_Parts_c _ (a1)) ?_
  refine R.mvE rfl (by conv => lhs; whnf) ?_
  refine R.ext rfl rfl rfl ?_
  refine R.ext rfl rfl rfl ?_
  refine R.asE rfl (by conv => lhs; whnf) ?_
  refine R.asE rfl (by conv => lhs; whnf) ?_
  refine TL.nil (Post.thnN ?_)
  refine T.seq ?_
  refine T.region ?_
  refine R.mvE rfl (by conv => lhs; whnf) ?_
  refine R.mvE rfl (by conv => lhs; whnf) ?_
  obtain ⟨r20, er20⟩ : ∃ r, r = (windroseref13_Find_m a0 r14.1) := ⟨_, rfl⟩
  refine R.callv (v := .tuple #[.agg #[.bool r20.1.1, .bool r20.1.2.1, .int .i64 r20.1.2.2.1, .int .i64 r20.1.2.2.2.1, .int .i64 r20.1.2.2.2.2], .bool r20.2]) rfl rfl rfl (by rw [er20]; exact windroseref13_Find_c _ _ a0 ha0 (r14.1)) ?_
  refine R.mvE rfl (by conv => lhs; whnf) ?_
  refine R.ext rfl rfl rfl ?_
  refine R.ext rfl rfl rfl ?_
  refine R.alloc Tryz.zeroValue53 rfl ?_
  intro b10
  refine R.stX (old := [.bool false, .bool false, .int .i64 0, .int .i64 0, .int .i64 0]) (l := [.bool (r20.1.1), .bool (r20.1.2.1), .int .i64 (r20.1.2.2.1), .int .i64 (r20.1.2.2.2.1), .int .i64 (r20.1.2.2.2.2)]) (new := [.bool (r20.1.1), .bool (r20.1.2.1), .int .i64 (r20.1.2.2.1), .int .i64 (r20.1.2.2.2.1), .int .i64 (r20.1.2.2.2.2)]) (et := 53) Tryz.sizeOf53 rfl rfl rfl rfl rfl (by show 0 + 5 ≤ 5; decide) rfl (all_one rfl) .hd ?_
  refine R.asE rfl (by conv => lhs; whnf) ?_
  refine TL.shut .hd ?_
  intro Hb10_1 sb10_1 qb10_1
  have hb10_1 : Hb10_1 b10 = some (.cells #[.bool (r20.1.1), .bool (r20.1.2.1), .int .i64 (r20.1.2.2.1), .int .i64 (r20.1.2.2.2.1), .int .i64 (r20.1.2.2.2.2)] 53) := shut1 qb10_1
  refine TL.nil (Post.thnN ?_)
  refine T.seq ?_
  refine T.seq ?_
  refine T.cutK (ι := Bool) (fun b39c1 H' L' ds' => Has L' [] ∧ (if ((windroseref01_Kind_m a1) : Int) ≠ 3 then true else (if (!r20.2) = true then true else (if a2 ≠ r14.1 then ((decide (a2 ≠ r14.2))) else false)) : Bool) = b39c1) (fun b39c1 => [(2, .int .i64 a2), (8, .int .i64 (r14.1)), (9, .int .i64 (r14.2)), (10, .pointer (some ⟨b10, 0, none⟩)), (39, .bool (b39c1))]) ?_ ?_
  · refine T.region ?_
    refine R.mvE rfl (by conv => lhs; whnf) ?_
    refine R.callv rfl rfl rfl (windroseref01_Kind_c _ (a1)) ?_
    refine R.neq rfl rfl rfl ?_
    refine R.mvE rfl (by conv => lhs; whnf) ?_
    refine TL.gsplitD 26 rfl (fun g26 => ?_) (fun g26 => ?_)
    · refine TL.off rfl rfl rfl ?_
      refine TL.off rfl rfl rfl ?_
      refine R.pkTE rfl rfl (by conv => lhs; whnf) ?_
      refine R.mvE rfl (by conv => lhs; whnf) ?_
      refine TL.off rfl rfl rfl ?_
      refine TL.off rfl rfl rfl ?_
      refine TL.off rfl rfl rfl ?_
      refine TL.off rfl rfl rfl ?_
      refine TL.offU rfl rfl ?_
      refine TL.offU rfl rfl ?_
      refine TL.offU rfl rfl ?_
      refine TL.off rfl rfl rfl ?_
      refine R.pkTE rfl rfl (by conv => lhs; whnf) ?_
      refine TL.nil (Post.thnN ?_)
      exact ⟨true, HLe.refl _, ⟨Has.nil, (by rw [if_pos g26])⟩, rfl, rfl, rfl, rfl, rfl, trivial⟩
    · refine R.mvE rfl (by conv => lhs; whnf) ?_
      refine R.not rfl rfl ?_
      refine R.pkFE rfl rfl (by conv => lhs; whnf) ?_
      refine R.mvE rfl (by conv => lhs; whnf) ?_
      refine TL.gsplit 30 rfl (fun g30 => ?_) (fun g30 => ?_)
      · refine TL.off rfl rfl rfl ?_
        refine TL.off rfl rfl rfl ?_
        refine TL.off rfl rfl rfl ?_
        refine TL.off rfl rfl rfl ?_
        refine TL.offU rfl rfl ?_
        refine TL.offU rfl rfl ?_
        refine TL.offU rfl rfl ?_
        refine TL.off rfl rfl rfl ?_
        refine R.pkTE rfl rfl (by conv => lhs; whnf) ?_
        refine TL.nil (Post.thnN ?_)
        exact ⟨true, HLe.refl _, ⟨Has.nil, (by rw [if_neg g26, if_t g30])⟩, rfl, rfl, rfl, rfl, rfl, trivial⟩
      · refine R.mvE rfl (by conv => lhs; whnf) ?_
        refine R.mvE rfl (by conv => lhs; whnf) ?_
        refine R.neq rfl rfl rfl ?_
        refine R.mvE rfl (by conv => lhs; whnf) ?_
        refine TL.gsplitD 34 rfl (fun g34 => ?_) (fun g34 => ?_)
        · refine R.mvE rfl (by conv => lhs; whnf) ?_
          refine R.mvE rfl (by conv => lhs; whnf) ?_
          refine R.neq rfl rfl rfl ?_
          refine R.pkTE rfl rfl (by conv => lhs; whnf) ?_
          refine R.pkFE rfl rfl (by conv => lhs; whnf) ?_
          refine TL.nil (Post.thnN ?_)
          exact ⟨(decide (a2 ≠ r14.2)), HLe.refl _, ⟨Has.nil, (by rw [if_neg g26, if_f g30, if_pos g34])⟩, rfl, rfl, rfl, rfl, rfl, trivial⟩
        · refine TL.off rfl rfl rfl ?_
          refine TL.off rfl rfl rfl ?_
          refine TL.off rfl rfl rfl ?_
          refine R.pkFE rfl rfl (by conv => lhs; whnf) ?_
          refine R.pkFE rfl rfl (by conv => lhs; whnf) ?_
          refine TL.nil (Post.thnN ?_)
          exact ⟨false, HLe.refl _, ⟨Has.nil, (by rw [if_neg g26, if_f g30, if_neg g34])⟩, rfl, rfl, rfl, rfl, rfl, trivial⟩
  · intro b39c1 σ_c1 H_c1 L_c1 ds_c1 s_c1 hI_c1
    obtain ⟨hLc1, hTc1⟩ := hI_c1
    refine T.has hLc1 ?_
    refine T.cond rfl (fun c39 => ?_) (fun c39 => ?_)
    · refine T.set 39 (.bool true) (congrArg Value.bool c39) ?_
      have hZ39 := hTc1.trans c39
      try simp only [or_f, or_t, and_f, and_t, decide_eq_true_eq, decide_eq_false_iff_not, Bool.not_eq_true'] at hZ39
      refine T.seq ?_
      refine T.region ?_
      refine R.asE rfl (by conv => lhs; whnf) ?_
      refine R.asE rfl (by conv => lhs; whnf) ?_
      refine TL.nil (Post.thnN ?_)
      refine T.has Has.nil ?_
      refine T.ret (Post.thnR ?_)
      have hM : windroseref13_Policy_m a0 a1 a2 = (0, false) := by subst er20; subst er14; rw [windroseref13_Policy_m, LR.seq_go, LR.seq_go, hTc1, LR.seq_go, if_t c39]
      exact fin2L (v := .int .i64 0) (v' := .bool false) [] rfl rfl rfl (List.Sublist.refl _) ⟨rfl, by first | rw [hM] | rfl⟩
    · refine T.set 39 (.bool false) (congrArg Value.bool c39) ?_
      have hZ39 := hTc1.trans c39
      try simp only [or_f, or_t, and_f, and_t, decide_eq_true_eq, decide_eq_false_iff_not, Bool.not_eq_true'] at hZ39
      refine T.skip (Post.thnN ?_)
      refine T.seq ?_
      refine T.block ?_
      refine T.seq ?_
      refine T.region ?_
      refine R.mvE rfl (by conv => lhs; whnf) ?_
      refine R.mvE rfl (by conv => lhs; whnf) ?_
      refine R.neq rfl rfl rfl ?_
      refine R.asE rfl (by conv => lhs; whnf) ?_
      refine TL.nil (Post.thnN ?_)
      refine T.condD rfl (fun c40 => ?_) (fun c40 => ?_)
      · refine T.set 40 (.bool true) (congrArg Value.bool (decide_eq_true c40)) ?_
        refine T.seq ?_
        refine T.region ?_
        refine R.fldA Tryz.underlying53 rfl Tryz.sizeOf3 (by decide) rfl rfl ?_
        refine R.ldH Tryz.isAgg3 rfl rfl (s_c1 _ _ hb10_1) rfl ?_
        refine R.asE rfl (by conv => lhs; whnf) ?_
        refine R.asE rfl (by conv => lhs; whnf) ?_
        refine TL.nil (Post.thnN ?_)
        refine T.has Has.nil ?_
        refine T.ret (Post.blkR (Post.thnR ?_))
        have hM : windroseref13_Policy_m a0 a1 a2 = (r20.1.2.2.2.1, true) := by subst er20; subst er14; rw [windroseref13_Policy_m, LR.seq_go, LR.seq_go, hTc1, LR.seq_go, if_f c39, if_pos c40]
        exact fin2L (v := .int .i64 (r20.1.2.2.2.1)) (v' := .bool true) [] rfl rfl rfl (List.Sublist.refl _) ⟨rfl, by first | rw [hM] | rfl⟩
      · refine T.set 40 (.bool false) (congrArg Value.bool (decide_eq_false c40)) ?_
        refine T.seq ?_
        refine T.region ?_
        refine R.mvE rfl (by conv => lhs; whnf) ?_
        refine R.mvE rfl (by conv => lhs; whnf) ?_
        refine R.neq rfl rfl rfl ?_
        refine R.asE rfl (by conv => lhs; whnf) ?_
        refine TL.nil (Post.thnN ?_)
        refine T.condD rfl (fun c46 => ?_) (fun c46 => ?_)
        · refine T.set 46 (.bool true) (congrArg Value.bool (decide_eq_true c46)) ?_
          refine T.seq ?_
          refine T.region ?_
          refine R.fldA Tryz.underlying53 rfl Tryz.sizeOf3 (by decide) rfl rfl ?_
          refine R.ldH Tryz.isAgg3 rfl rfl (s_c1 _ _ hb10_1) rfl ?_
          refine R.asE rfl (by conv => lhs; whnf) ?_
          refine R.asE rfl (by conv => lhs; whnf) ?_
          refine TL.nil (Post.thnN ?_)
          refine T.has Has.nil ?_
          refine T.ret (Post.blkR (Post.thnR ?_))
          have hM : windroseref13_Policy_m a0 a1 a2 = (r20.1.2.2.2.2, true) := by subst er20; subst er14; rw [windroseref13_Policy_m, LR.seq_go, LR.seq_go, hTc1, LR.seq_go, if_f c39, if_neg c40, if_pos c46]
          exact fin2L (v := .int .i64 (r20.1.2.2.2.2)) (v' := .bool true) [] rfl rfl rfl (List.Sublist.refl _) ⟨rfl, by first | rw [hM] | rfl⟩
        · refine T.set 46 (.bool false) (congrArg Value.bool (decide_eq_false c46)) ?_
          refine T.seq ?_
          refine T.cutK (ι := Bool) (fun b52c2 H' L' ds' => Has L' [] ∧ (if r20.1.2.2.2.1 = 1 then true else ((decide (r20.1.2.2.2.2 = 1))) : Bool) = b52c2) (fun b52c2 => [(10, .pointer (some ⟨b10, 0, none⟩)), (52, .bool (b52c2))]) ?_ ?_
          · refine T.region ?_
            refine R.fldA Tryz.underlying53 rfl Tryz.sizeOf3 (by decide) rfl rfl ?_
            refine R.ldH Tryz.isAgg3 rfl rfl (s_c1 _ _ hb10_1) rfl ?_
            refine R.eql rfl rfl rfl ?_
            refine R.mvE rfl (by conv => lhs; whnf) ?_
            refine TL.gsplitD 56 rfl (fun g56 => ?_) (fun g56 => ?_)
            · refine TL.off rfl rfl rfl ?_
              refine TL.off rfl rfl rfl ?_
              refine TL.off rfl rfl rfl ?_
              refine R.pkTE rfl rfl (by conv => lhs; whnf) ?_
              refine R.asE rfl (by conv => lhs; whnf) ?_
              refine TL.nil (Post.thnN ?_)
              exact ⟨true, HLe.refl _, ⟨Has.nil, (by rw [if_pos g56])⟩, rfl, rfl, trivial⟩
            · refine R.fldA Tryz.underlying53 rfl Tryz.sizeOf3 (by decide) rfl rfl ?_
              refine R.ldH Tryz.isAgg3 rfl rfl (s_c1 _ _ hb10_1) rfl ?_
              refine R.eql rfl rfl rfl ?_
              refine R.pkFE rfl rfl (by conv => lhs; whnf) ?_
              refine R.asE rfl (by conv => lhs; whnf) ?_
              refine TL.nil (Post.thnN ?_)
              exact ⟨(decide (r20.1.2.2.2.2 = 1)), HLe.refl _, ⟨Has.nil, (by rw [if_neg g56])⟩, rfl, rfl, trivial⟩
          · intro b52c2 σ_c2 H_c2 L_c2 ds_c2 s_c2 hI_c2
            obtain ⟨hLc2, hTc2⟩ := hI_c2
            refine T.has hLc2 ?_
            refine T.cond rfl (fun c52 => ?_) (fun c52 => ?_)
            · refine T.set 52 (.bool true) (congrArg Value.bool c52) ?_
              have hZ52 := hTc2.trans c52
              try simp only [or_f, or_t, and_f, and_t, decide_eq_true_eq, decide_eq_false_iff_not, Bool.not_eq_true'] at hZ52
              refine T.seq ?_
              refine T.region ?_
              refine R.asE rfl (by conv => lhs; whnf) ?_
              refine R.asE rfl (by conv => lhs; whnf) ?_
              refine TL.nil (Post.thnN ?_)
              refine T.has Has.nil ?_
              refine T.ret (Post.blkR (Post.thnR ?_))
              have hM : windroseref13_Policy_m a0 a1 a2 = (1, true) := by subst er20; subst er14; rw [windroseref13_Policy_m, LR.seq_go, LR.seq_go, hTc1, LR.seq_go, if_f c39, if_neg c40, if_neg c46, hTc2, LR.seq_go, if_t c52]
              exact fin2L (v := .int .i64 1) (v' := .bool true) [] rfl rfl rfl (List.Sublist.refl _) ⟨rfl, by first | rw [hM] | rfl⟩
            · refine T.set 52 (.bool false) (congrArg Value.bool c52) ?_
              have hZ52 := hTc2.trans c52
              try simp only [or_f, or_t, and_f, and_t, decide_eq_true_eq, decide_eq_false_iff_not, Bool.not_eq_true'] at hZ52
              refine T.seq ?_
              refine T.cutK (ι := Bool) (fun b61c3 H' L' ds' => Has L' [] ∧ (if r20.1.2.2.2.1 = 2 then true else ((decide (r20.1.2.2.2.2 = 2))) : Bool) = b61c3) (fun b61c3 => [(61, .bool (b61c3))]) ?_ ?_
              · refine T.region ?_
                refine R.fldA Tryz.underlying53 rfl Tryz.sizeOf3 (by decide) rfl rfl ?_
                refine R.ldH Tryz.isAgg3 rfl rfl ((s_c1.trans s_c2) _ _ hb10_1) rfl ?_
                refine R.eql rfl rfl rfl ?_
                refine R.mvE rfl (by conv => lhs; whnf) ?_
                refine TL.gsplitD 65 rfl (fun g65 => ?_) (fun g65 => ?_)
                · refine TL.off rfl rfl rfl ?_
                  refine TL.off rfl rfl rfl ?_
                  refine TL.off rfl rfl rfl ?_
                  refine R.pkTE rfl rfl (by conv => lhs; whnf) ?_
                  refine R.asE rfl (by conv => lhs; whnf) ?_
                  refine TL.nil (Post.thnN ?_)
                  exact ⟨true, HLe.refl _, ⟨Has.nil, (by rw [if_pos g65])⟩, rfl, trivial⟩
                · refine R.fldA Tryz.underlying53 rfl Tryz.sizeOf3 (by decide) rfl rfl ?_
                  refine R.ldH Tryz.isAgg3 rfl rfl ((s_c1.trans s_c2) _ _ hb10_1) rfl ?_
                  refine R.eql rfl rfl rfl ?_
                  refine R.pkFE rfl rfl (by conv => lhs; whnf) ?_
                  refine R.asE rfl (by conv => lhs; whnf) ?_
                  refine TL.nil (Post.thnN ?_)
                  exact ⟨(decide (r20.1.2.2.2.2 = 2)), HLe.refl _, ⟨Has.nil, (by rw [if_neg g65])⟩, rfl, trivial⟩
              · intro b61c3 σ_c3 H_c3 L_c3 ds_c3 s_c3 hI_c3
                obtain ⟨hLc3, hTc3⟩ := hI_c3
                refine T.has hLc3 ?_
                refine T.cond rfl (fun c61 => ?_) (fun c61 => ?_)
                · refine T.set 61 (.bool true) (congrArg Value.bool c61) ?_
                  have hZ61 := hTc3.trans c61
                  try simp only [or_f, or_t, and_f, and_t, decide_eq_true_eq, decide_eq_false_iff_not, Bool.not_eq_true'] at hZ61
                  refine T.seq ?_
                  refine T.region ?_
                  refine R.asE rfl (by conv => lhs; whnf) ?_
                  refine R.asE rfl (by conv => lhs; whnf) ?_
                  refine TL.nil (Post.thnN ?_)
                  refine T.has Has.nil ?_
                  refine T.ret (Post.blkR (Post.thnR ?_))
                  have hM : windroseref13_Policy_m a0 a1 a2 = (2, true) := by subst er20; subst er14; rw [windroseref13_Policy_m, LR.seq_go, LR.seq_go, hTc1, LR.seq_go, if_f c39, if_neg c40, if_neg c46, hTc2, LR.seq_go, if_f c52, hTc3, LR.seq_go, if_t c61]
                  exact fin2L (v := .int .i64 2) (v' := .bool true) [] rfl rfl rfl (List.Sublist.refl _) ⟨rfl, by first | rw [hM] | rfl⟩
                · refine T.set 61 (.bool false) (congrArg Value.bool c61) ?_
                  have hZ61 := hTc3.trans c61
                  try simp only [or_f, or_t, and_f, and_t, decide_eq_true_eq, decide_eq_false_iff_not, Bool.not_eq_true'] at hZ61
                  refine T.skip (Post.blkN ?_)
                  refine id (Post.thnN ?_)
                  refine T.seq ?_
                  refine T.region ?_
                  refine R.asE rfl (by conv => lhs; whnf) ?_
                  refine R.asE rfl (by conv => lhs; whnf) ?_
                  refine TL.nil (Post.thnN ?_)
                  refine T.has Has.nil ?_
                  refine T.ret ?_
                  have hM : windroseref13_Policy_m a0 a1 a2 = (0, true) := by subst er20; subst er14; rw [windroseref13_Policy_m, LR.seq_go, LR.seq_go, hTc1, LR.seq_go, if_f c39, if_neg c40, if_neg c46, hTc2, LR.seq_go, if_f c52, hTc3, LR.seq_go, if_f c61]
                  exact fin2L (v := .int .i64 0) (v' := .bool true) [] rfl rfl rfl (List.Sublist.refl _) ⟨rfl, by first | rw [hM] | rfl⟩

def windroseref13_New_m  : (List (Int × (Bool × Bool × Int × Int × Int))) :=
  [((1, (true, true, 0, 1, 2)) : Int × (Bool × Bool × Int × Int × Int)), ((2, (true, false, 0, 0, 2)) : Int × (Bool × Bool × Int × Int × Int))]
set_option maxHeartbeats 3200000 in
theorem windroseref13_New_c (H : Heap) : Fc Tryz.prog (fnv 55) [] H [] (fun v' H' L' => ∃ u0_0 c0_0, v' = u0_0 ∧ L' = [c0_0] ∧ OwnS relationE 55 H' u0_0 windroseref13_New_m c0_0) := by
  refine Fc.of_body (N := 6) Tryz.func55 rfl (by kernel_rfl) rfl rfl ?_
  intro w0
  refine T.seq ?_
  refine T.region ?_
  refine R.asE rfl (by conv => lhs; whnf) ?_
  refine TL.nil (Post.thnN ?_)
  refine T.seq ?_
  refine T.region ?_
  refine R.bld (cs := [.bool true, .bool true, .int .i64 0, .int .i64 1, .int .i64 2]) rfl (fun _ => by kernel_rfl) ?_
  refine R.bld (cs := [.int .i64 1, .bool true, .bool true, .int .i64 0, .int .i64 1, .int .i64 2]) rfl (fun _ => by kernel_rfl) ?_
  refine R.bld (cs := [.bool true, .bool false, .int .i64 0, .int .i64 0, .int .i64 2]) rfl (fun _ => by kernel_rfl) ?_
  refine R.bld (cs := [.int .i64 2, .bool true, .bool false, .int .i64 0, .int .i64 0, .int .i64 2]) rfl (fun _ => by kernel_rfl) ?_
  refine R.bs (e := 55) (cs := [.int .i64 1, .bool true, .bool true, .int .i64 0, .int .i64 1, .int .i64 2, .int .i64 2, .bool true, .bool false, .int .i64 0, .int .i64 0, .int .i64 2]) rfl (fun _ => by kernel_rfl) ?_
  intro b5
  have w5 : OwnS relationE 55 H (.slice (some ⟨b5, 0, none⟩) 2 2) [((1, (true, true, 0, 1, 2)) : Int × (Bool × Bool × Int × Int × Int)), ((2, (true, false, 0, 0, 2)) : Int × (Bool × Bool × Int × Int × Int))] [(b5, .cells #[.int .i64 1, .bool true, .bool true, .int .i64 0, .int .i64 1, .int .i64 2, .int .i64 2, .bool true, .bool false, .int .i64 0, .int .i64 0, .int .i64 2] 55)] := OwnS.lit (xs := [((1, (true, true, 0, 1, 2)) : Int × (Bool × Bool × Int × Int × Int)), ((2, (true, false, 0, 0, 2)) : Int × (Bool × Bool × Int × Int × Int))]) (cellsOf_cons (a := [.int .i64 1, .bool true, .bool true, .int .i64 0, .int .i64 1, .int .i64 2]) rfl (cellsOf_cons (a := [.int .i64 2, .bool true, .bool false, .int .i64 0, .int .i64 0, .int .i64 2]) rfl cellsOf_nil)) (by show 2 ≤ maxLen; decide)
  refine R.asE rfl (by conv => lhs; whnf) ?_
  refine TL.nil (Post.thnN ?_)
  refine T.has (Has.cons .hd Has.nil) ?_
  refine T.ret ?_
  have hM : windroseref13_New_m = [((1, (true, true, 0, 1, 2)) : Int × (Bool × Bool × Int × Int × Int)), ((2, (true, false, 0, 0, 2)) : Int × (Bool × Bool × Int × Int × Int))] := by rw [windroseref13_New_m]
  exact fin1L (v := .slice (some ⟨b5, 0, none⟩) 2 2) [[(b5, .cells #[.int .i64 1, .bool true, .bool true, .int .i64 0, .int .i64 1, .int .i64 2, .int .i64 2, .bool true, .bool false, .int .i64 0, .int .i64 0, .int .i64 2] 55)]] rfl rfl (List.Sublist.refl _) ⟨.slice (some ⟨b5, 0, none⟩) 2 2, [(b5, .cells #[.int .i64 1, .bool true, .bool true, .int .i64 0, .int .i64 1, .int .i64 2, .int .i64 2, .bool true, .bool false, .int .i64 0, .int .i64 0, .int .i64 2] 55)], by first | rw [hM] | rfl, rfl, by rw [hM]; exact w5⟩

def windroseref13_RightTraits_m (a0 : Bool × Bool × Int × Int × Int) : Int :=
  if (!(windroseref01_Is_m a0.2.2.1 0 4)) = true then 231 else (LR.seq (if (!(windroseref01_Is_m a0.2.2.2.1 0 2)) = true then true else ((!(windroseref01_Is_m a0.2.2.2.2 0 2))) : Bool) (fun sc1 => if sc1 = true then 2 else 0))
set_option maxHeartbeats 3200000 in
theorem windroseref13_RightTraits_c (H : Heap) (a0 : Bool × Bool × Int × Int × Int) : Fv Tryz.prog (fnv 56) [.agg #[.bool a0.1, .bool a0.2.1, .int .i64 a0.2.2.1, .int .i64 a0.2.2.2.1, .int .i64 a0.2.2.2.2]] H (.int .i64 (windroseref13_RightTraits_m a0)) := by
  refine Fc.of_body (N := 17) Tryz.func56 rfl (by kernel_rfl) rfl rfl ?_
  intro w0
  refine T.seq ?_
  refine T.region ?_
  refine R.box rfl (by conv => lhs; whnf) ?_
  intro b1
  refine R.asE rfl (by conv => lhs; whnf) ?_
  refine TL.shut .hd ?_
  intro Hb1_1 sb1_1 qb1_1
  have hb1_1 : Hb1_1 b1 = some (.cells #[.bool (a0.1), .bool (a0.2.1), .int .i64 (a0.2.2.1), .int .i64 (a0.2.2.2.1), .int .i64 (a0.2.2.2.2)] 53) := shut1 qb1_1
  refine TL.nil (Post.thnN ?_)
  refine T.seq ?_
  refine T.seq ?_
  refine T.region ?_
  refine R.fldA Tryz.underlying53 rfl Tryz.sizeOf3 (by decide) rfl rfl ?_
  refine R.ldH Tryz.isAgg3 rfl rfl hb1_1 rfl ?_
  refine R.callv rfl rfl rfl (windroseref01_Is_c _ (a0.2.2.1) (0) (4)) ?_
  refine R.not rfl rfl ?_
  refine TL.nil (Post.thnN ?_)
  refine T.cond rfl (fun c6 => ?_) (fun c6 => ?_)
  · refine T.set 6 (.bool true) (congrArg Value.bool c6) ?_
    refine T.seq ?_
    refine T.region ?_
    refine R.asE rfl (by conv => lhs; whnf) ?_
    refine TL.nil (Post.thnN ?_)
    refine T.has Has.nil ?_
    refine T.ret (Post.thnR ?_)
    have hM : windroseref13_RightTraits_m a0 = 231 := by rw [windroseref13_RightTraits_m, if_t c6]
    exact fin1L (v := .int .i64 231) [] rfl rfl (List.Sublist.refl _) ⟨rfl, by first | rw [hM] | rfl⟩
  · refine T.set 6 (.bool false) (congrArg Value.bool c6) ?_
    refine T.skip (Post.thnN ?_)
    refine T.seq ?_
    refine T.seq ?_
    refine T.cutK (ι := Bool) (fun b16c1 H' L' ds' => Has L' [] ∧ (if (!(windroseref01_Is_m a0.2.2.2.1 0 2)) = true then true else ((!(windroseref01_Is_m a0.2.2.2.2 0 2))) : Bool) = b16c1) (fun b16c1 => [(16, .bool (b16c1))]) ?_ ?_
    · refine T.region ?_
      refine R.fldA Tryz.underlying53 rfl Tryz.sizeOf3 (by decide) rfl rfl ?_
      refine R.ldH Tryz.isAgg3 rfl rfl hb1_1 rfl ?_
      refine R.callv rfl rfl rfl (windroseref01_Is_c _ (a0.2.2.2.1) (0) (2)) ?_
      refine R.not rfl rfl ?_
      refine R.mvE rfl (by conv => lhs; whnf) ?_
      refine TL.gsplit 11 rfl (fun g11 => ?_) (fun g11 => ?_)
      · refine TL.off rfl rfl rfl ?_
        refine TL.off rfl rfl rfl ?_
        refine TL.off rfl rfl rfl ?_
        refine TL.off rfl rfl rfl ?_
        refine R.pkTE rfl rfl (by conv => lhs; whnf) ?_
        refine TL.nil (Post.thnN ?_)
        exact ⟨true, HLe.refl _, ⟨Has.nil, (by rw [if_t g11])⟩, rfl, trivial⟩
      · refine R.fldA Tryz.underlying53 rfl Tryz.sizeOf3 (by decide) rfl rfl ?_
        refine R.ldH Tryz.isAgg3 rfl rfl hb1_1 rfl ?_
        refine R.callv rfl rfl rfl (windroseref01_Is_c _ (a0.2.2.2.2) (0) (2)) ?_
        refine R.not rfl rfl ?_
        refine R.pkFE rfl rfl (by conv => lhs; whnf) ?_
        refine TL.nil (Post.thnN ?_)
        exact ⟨(!(windroseref01_Is_m a0.2.2.2.2 0 2)), HLe.refl _, ⟨Has.nil, (by rw [if_f g11])⟩, rfl, trivial⟩
    · intro b16c1 σ_c1 H_c1 L_c1 ds_c1 s_c1 hI_c1
      obtain ⟨hLc1, hTc1⟩ := hI_c1
      refine T.has hLc1 ?_
      refine T.cond rfl (fun c16 => ?_) (fun c16 => ?_)
      · refine T.set 16 (.bool true) (congrArg Value.bool c16) ?_
        have hZ16 := hTc1.trans c16
        try simp only [or_f, or_t, and_f, and_t, decide_eq_true_eq, decide_eq_false_iff_not, Bool.not_eq_true'] at hZ16
        refine T.seq ?_
        refine T.region ?_
        refine R.asE rfl (by conv => lhs; whnf) ?_
        refine TL.nil (Post.thnN ?_)
        refine T.has Has.nil ?_
        refine T.ret (Post.thnR ?_)
        have hM : windroseref13_RightTraits_m a0 = 2 := by rw [windroseref13_RightTraits_m, if_f c6, hTc1, LR.seq_go, if_t c16]
        exact fin1L (v := .int .i64 2) [] rfl rfl (List.Sublist.refl _) ⟨rfl, by first | rw [hM] | rfl⟩
      · refine T.set 16 (.bool false) (congrArg Value.bool c16) ?_
        have hZ16 := hTc1.trans c16
        try simp only [or_f, or_t, and_f, and_t, decide_eq_true_eq, decide_eq_false_iff_not, Bool.not_eq_true'] at hZ16
        refine T.skip (Post.thnN ?_)
        refine T.seq ?_
        refine T.region ?_
        refine R.asE rfl (by conv => lhs; whnf) ?_
        refine TL.nil (Post.thnN ?_)
        refine T.has Has.nil ?_
        refine T.ret ?_
        have hM : windroseref13_RightTraits_m a0 = 0 := by rw [windroseref13_RightTraits_m, if_f c6, hTc1, LR.seq_go, if_f c16]
        exact fin1L (v := .int .i64 0) [] rfl rfl (List.Sublist.refl _) ⟨rfl, by first | rw [hM] | rfl⟩

def windroseref13_Right_l2 (a0 : List (Int × (Bool × Bool × Int × Int × Int))) : List (Int × (Bool × Bool × Int × Int × Int)) → Nat → Unit → LR (Bool) (Unit)
  | [], kl2, sl2 => .go ()
  | yl2 :: ysl2, kl2, sl2 => LR.seq (if ((windroseref13_RightTraits_m yl2.2) : Int) ≠ 0 then true else (if (!(windroseref01_Is_m yl2.1 1 1048578)) = true then true else (if (0 : Int) < (kl2 : Int) then ((decide (yl2.1 ≤ (a0.getD ((((kl2 : Int) - 1)).toNat) (((0, (false, false, 0, 0, 0)) : Int × (Bool × Bool × Int × Int × Int)) : Int × (Bool × Bool × Int × Int × Int))).1))) else false)) : Bool) (fun sc3 => if sc3 = true then (.ret false) else (windroseref13_Right_l2 a0 ysl2 (kl2 + 1) ()))
def windroseref13_Right_m (a0 : List (Int × (Bool × Bool × Int × Int × Int))) : Bool :=
  LR.seq (if (a0.length : Int) < 2 then true else (if (200 : Int) < (a0.length : Int) then true else (LR.seq (windroseref13_New_m) (fun r17 => if ((a0.getD 0 (((0, (false, false, 0, 0, 0)) : Int × (Bool × Bool × Int × Int × Int)) : Int × (Bool × Bool × Int × Int × Int))) : Int × (Bool × Bool × Int × Int × Int)) ≠ (r17.getD 0 (((0, (false, false, 0, 0, 0)) : Int × (Bool × Bool × Int × Int × Int)) : Int × (Bool × Bool × Int × Int × Int))) then true else (LR.seq (windroseref13_New_m) (fun r26 => (decide (((a0.getD 1 (((0, (false, false, 0, 0, 0)) : Int × (Bool × Bool × Int × Int × Int)) : Int × (Bool × Bool × Int × Int × Int))) : Int × (Bool × Bool × Int × Int × Int)) ≠ (r26.getD 1 (((0, (false, false, 0, 0, 0)) : Int × (Bool × Bool × Int × Int × Int)) : Int × (Bool × Bool × Int × Int × Int)))))))))) : Bool) (fun sc1 => if sc1 = true then false else (LR.on (windroseref13_Right_l2 a0 a0 0 ()) (fun r => r) (fun ol2 => true)))
set_option maxHeartbeats 3200000 in
theorem windroseref13_Right_c (H : Heap) (va0 : Value) (a0 : List (Int × (Bool × Bool × Int × Int × Int))) (ha0 : RdS relationE H va0 a0) : Fv Tryz.prog (fnv 26) [va0] H (.bool (windroseref13_Right_m a0)) := by
  refine Fc.of_body (N := 64) Tryz.func26 rfl (by kernel_rfl) rfl rfl ?_
  intro w0
  obtain ⟨Aa0, ca0, rfl, hca0, hda0, ha0⟩ := ha0.shape
  refine T.seq ?_
  refine T.region ?_
  refine R.asE rfl (by conv => lhs; whnf) ?_
  refine TL.nil (Post.thnN ?_)
  refine T.seq ?_
  refine T.seq ?_
  refine T.cutK (ι := Bool) (fun b30c1 H' L' ds' => Has L' [] ∧ (if (a0.length : Int) < 2 then true else (if (200 : Int) < (a0.length : Int) then true else (LR.seq (windroseref13_New_m) (fun r17 => if ((a0.getD 0 (((0, (false, false, 0, 0, 0)) : Int × (Bool × Bool × Int × Int × Int)) : Int × (Bool × Bool × Int × Int × Int))) : Int × (Bool × Bool × Int × Int × Int)) ≠ (r17.getD 0 (((0, (false, false, 0, 0, 0)) : Int × (Bool × Bool × Int × Int × Int)) : Int × (Bool × Bool × Int × Int × Int))) then true else (LR.seq (windroseref13_New_m) (fun r26 => (decide (((a0.getD 1 (((0, (false, false, 0, 0, 0)) : Int × (Bool × Bool × Int × Int × Int)) : Int × (Bool × Bool × Int × Int × Int))) : Int × (Bool × Bool × Int × Int × Int)) ≠ (r26.getD 1 (((0, (false, false, 0, 0, 0)) : Int × (Bool × Bool × Int × Int × Int)) : Int × (Bool × Bool × Int × Int × Int)))))))))) : Bool) = b30c1) (fun b30c1 => [(0, .slice Aa0 a0.length ca0), (30, .bool (b30c1))]) ?_ ?_
  · refine T.draw Tryz_mixed (by kernel_rfl) ?_
    refine Plan.v 0 [1, 2, 3, 4, 5, 6, 7, 8, 9, 10, 11, 12, 13, 14, 15, 16, 17, 18, 19, 20, 21, 22, 23, 24, 25] (by kernel_rfl) (by kernel_rfl) (by kernel_rfl) (by kernel_rfl) rfl (fun _ _ h_ => R.mvE rfl (by conv => lhs; whnf) (TL.nil h_)) ?_
    refine Plan.v 1 [2, 3, 4, 5, 6, 7, 8, 9, 10, 11, 12, 13, 14, 15, 16, 17, 18, 19, 20, 21, 22, 23, 24, 25] (by kernel_rfl) (by kernel_rfl) (by kernel_rfl) (by kernel_rfl) rfl (fun _ _ h_ => R.len Tryz.underlying22 rfl rfl (TL.nil h_)) ?_
    refine Plan.v 2 [3, 4, 5, 6, 7, 8, 9, 10, 11, 12, 13, 14, 15, 16, 17, 18, 19, 20, 21, 22, 23, 24, 25] (by kernel_rfl) (by kernel_rfl) (by kernel_rfl) (by kernel_rfl) rfl (fun _ _ h_ => R.lss rfl rfl rfl (TL.nil h_)) ?_
    refine Plan.v 3 [4, 5, 6, 7, 8, 9, 10, 11, 12, 13, 14, 15, 16, 17, 18, 19, 20, 21, 22, 23, 24, 25] (by kernel_rfl) (by kernel_rfl) (by kernel_rfl) (by kernel_rfl) rfl (fun _ _ h_ => R.mvE rfl (by conv => lhs; whnf) (TL.nil h_)) ?_
    refine Plan.gsplitD 8 rfl (fun g8 => ?_) (fun g8 => ?_)
    · refine Plan.v 4 [5, 6, 7, 8, 9, 10, 11, 12, 13, 14, 15, 16, 17, 18, 19, 20, 21, 22, 23, 24, 25] (by kernel_rfl) (by kernel_rfl) (by kernel_rfl) (by kernel_rfl) rfl (fun _ _ h_ => TL.off rfl rfl rfl (TL.nil h_)) ?_
      refine Plan.v 5 [6, 7, 8, 9, 10, 11, 12, 13, 14, 15, 16, 17, 18, 19, 20, 21, 22, 23, 24, 25] (by kernel_rfl) (by kernel_rfl) (by kernel_rfl) (by kernel_rfl) rfl (fun _ _ h_ => TL.off rfl rfl rfl (TL.nil h_)) ?_
      refine Plan.v 6 [7, 8, 9, 10, 11, 12, 13, 14, 15, 16, 17, 18, 19, 20, 21, 22, 23, 24, 25] (by kernel_rfl) (by kernel_rfl) (by kernel_rfl) (by kernel_rfl) rfl (fun _ _ h_ => TL.off rfl rfl rfl (TL.nil h_)) ?_
      refine Plan.v 7 [8, 9, 10, 11, 12, 13, 14, 15, 16, 17, 18, 19, 20, 21, 22, 23, 24, 25] (by kernel_rfl) (by kernel_rfl) (by kernel_rfl) (by kernel_rfl) rfl (fun _ _ h_ => R.pkTE rfl rfl (by conv => lhs; whnf) (TL.nil h_)) ?_
      refine Plan.v 8 [9, 10, 11, 12, 13, 14, 15, 16, 17, 18, 19, 20, 21, 22, 23, 24, 25] (by kernel_rfl) (by kernel_rfl) (by kernel_rfl) (by kernel_rfl) rfl (fun _ _ h_ => R.mvE rfl (by conv => lhs; whnf) (TL.nil h_)) ?_
      refine Plan.v 9 [10, 11, 12, 13, 14, 15, 16, 17, 18, 19, 20, 21, 22, 23, 24, 25] (by kernel_rfl) (by kernel_rfl) (by kernel_rfl) (by kernel_rfl) rfl (fun _ _ h_ => TL.off rfl rfl rfl (TL.nil h_)) ?_
      refine Plan.v 10 [11, 12, 13, 14, 15, 16, 17, 18, 19, 20, 21, 22, 23, 24, 25] (by kernel_rfl) (by kernel_rfl) (by kernel_rfl) (by kernel_rfl) rfl (fun _ _ h_ => TL.off rfl rfl rfl (TL.nil h_)) ?_
      refine Plan.v 11 [12, 13, 14, 15, 16, 17, 18, 19, 20, 21, 22, 23, 24, 25] (by kernel_rfl) (by kernel_rfl) (by kernel_rfl) (by kernel_rfl) rfl (fun _ _ h_ => TL.off rfl rfl rfl (TL.nil h_)) ?_
      refine Plan.v 12 [13, 14, 15, 16, 17, 18, 19, 20, 21, 22, 23, 24, 25] (by kernel_rfl) (by kernel_rfl) (by kernel_rfl) (by kernel_rfl) rfl (fun _ _ h_ => TL.off rfl rfl rfl (TL.nil h_)) ?_
      refine Plan.v 13 [14, 15, 16, 17, 18, 19, 20, 21, 22, 23, 24, 25] (by kernel_rfl) (by kernel_rfl) (by kernel_rfl) (by kernel_rfl) rfl (fun _ _ h_ => TL.off rfl rfl rfl (TL.nil h_)) ?_
      refine Plan.v 14 [15, 16, 17, 18, 19, 20, 21, 22, 23, 24, 25] (by kernel_rfl) (by kernel_rfl) (by kernel_rfl) (by kernel_rfl) rfl (fun _ _ h_ => TL.off rfl rfl rfl (TL.nil h_)) ?_
      refine Plan.v 15 [16, 17, 18, 19, 20, 21, 22, 23, 24, 25] (by kernel_rfl) (by kernel_rfl) (by kernel_rfl) (by kernel_rfl) rfl (fun _ _ h_ => TL.off rfl rfl rfl (TL.nil h_)) ?_
      refine Plan.v 16 [17, 18, 19, 20, 21, 22, 23, 24, 25] (by kernel_rfl) (by kernel_rfl) (by kernel_rfl) (by kernel_rfl) rfl (fun _ _ h_ => R.pkTE rfl rfl (by conv => lhs; whnf) (TL.nil h_)) ?_
      refine Plan.v 17 [18, 19, 20, 21, 22, 23, 24, 25] (by kernel_rfl) (by kernel_rfl) (by kernel_rfl) (by kernel_rfl) rfl (fun _ _ h_ => R.mvE rfl (by conv => lhs; whnf) (TL.nil h_)) ?_
      refine Plan.v 18 [19, 20, 21, 22, 23, 24, 25] (by kernel_rfl) (by kernel_rfl) (by kernel_rfl) (by kernel_rfl) rfl (fun _ _ h_ => TL.off rfl rfl rfl (TL.nil h_)) ?_
      refine Plan.v 19 [20, 21, 22, 23, 24, 25] (by kernel_rfl) (by kernel_rfl) (by kernel_rfl) (by kernel_rfl) rfl (fun _ _ h_ => TL.off rfl rfl rfl (TL.nil h_)) ?_
      refine Plan.v 20 [21, 22, 23, 24, 25] (by kernel_rfl) (by kernel_rfl) (by kernel_rfl) (by kernel_rfl) rfl (fun _ _ h_ => TL.off rfl rfl rfl (TL.nil h_)) ?_
      refine Plan.v 21 [22, 23, 24, 25] (by kernel_rfl) (by kernel_rfl) (by kernel_rfl) (by kernel_rfl) rfl (fun _ _ h_ => TL.off rfl rfl rfl (TL.nil h_)) ?_
      refine Plan.v 22 [23, 24, 25] (by kernel_rfl) (by kernel_rfl) (by kernel_rfl) (by kernel_rfl) rfl (fun _ _ h_ => TL.off rfl rfl rfl (TL.nil h_)) ?_
      refine Plan.v 23 [24, 25] (by kernel_rfl) (by kernel_rfl) (by kernel_rfl) (by kernel_rfl) rfl (fun _ _ h_ => TL.off rfl rfl rfl (TL.nil h_)) ?_
      refine Plan.v 24 [25] (by kernel_rfl) (by kernel_rfl) (by kernel_rfl) (by kernel_rfl) rfl (fun _ _ h_ => TL.off rfl rfl rfl (TL.nil h_)) ?_
      refine Plan.v 25 [] (by kernel_rfl) (by kernel_rfl) (by kernel_rfl) (by kernel_rfl) rfl (fun _ _ h_ => R.pkTE rfl rfl (by conv => lhs; whnf) (TL.nil h_)) ?_
      refine Plan.done (Post.thnN ?_)
      exact ⟨true, HLe.refl _, ⟨Has.nil, (by rw [if_pos g8])⟩, rfl, rfl, trivial⟩
    · refine Plan.v 4 [5, 6, 7, 8, 9, 10, 11, 12, 13, 14, 15, 16, 17, 18, 19, 20, 21, 22, 23, 24, 25] (by kernel_rfl) (by kernel_rfl) (by kernel_rfl) (by kernel_rfl) rfl (fun _ _ h_ => R.mvE rfl (by conv => lhs; whnf) (TL.nil h_)) ?_
      refine Plan.v 5 [6, 7, 8, 9, 10, 11, 12, 13, 14, 15, 16, 17, 18, 19, 20, 21, 22, 23, 24, 25] (by kernel_rfl) (by kernel_rfl) (by kernel_rfl) (by kernel_rfl) rfl (fun _ _ h_ => R.len Tryz.underlying22 rfl rfl (TL.nil h_)) ?_
      refine Plan.v 6 [7, 8, 9, 10, 11, 12, 13, 14, 15, 16, 17, 18, 19, 20, 21, 22, 23, 24, 25] (by kernel_rfl) (by kernel_rfl) (by kernel_rfl) (by kernel_rfl) rfl (fun _ _ h_ => R.gtr rfl rfl rfl (TL.nil h_)) ?_
      refine Plan.v 7 [8, 9, 10, 11, 12, 13, 14, 15, 16, 17, 18, 19, 20, 21, 22, 23, 24, 25] (by kernel_rfl) (by kernel_rfl) (by kernel_rfl) (by kernel_rfl) rfl (fun _ _ h_ => R.pkFE rfl rfl (by conv => lhs; whnf) (TL.nil h_)) ?_
      refine Plan.v 8 [9, 10, 11, 12, 13, 14, 15, 16, 17, 18, 19, 20, 21, 22, 23, 24, 25] (by kernel_rfl) (by kernel_rfl) (by kernel_rfl) (by kernel_rfl) rfl (fun _ _ h_ => R.mvE rfl (by conv => lhs; whnf) (TL.nil h_)) ?_
      refine Plan.gsplitD 13 rfl (fun g13 => ?_) (fun g13 => ?_)
      · refine Plan.v 9 [10, 11, 12, 13, 14, 15, 16, 17, 18, 19, 20, 21, 22, 23, 24, 25] (by kernel_rfl) (by kernel_rfl) (by kernel_rfl) (by kernel_rfl) rfl (fun _ _ h_ => TL.off rfl rfl rfl (TL.nil h_)) ?_
        refine Plan.v 10 [11, 12, 13, 14, 15, 16, 17, 18, 19, 20, 21, 22, 23, 24, 25] (by kernel_rfl) (by kernel_rfl) (by kernel_rfl) (by kernel_rfl) rfl (fun _ _ h_ => TL.off rfl rfl rfl (TL.nil h_)) ?_
        refine Plan.v 11 [12, 13, 14, 15, 16, 17, 18, 19, 20, 21, 22, 23, 24, 25] (by kernel_rfl) (by kernel_rfl) (by kernel_rfl) (by kernel_rfl) rfl (fun _ _ h_ => TL.off rfl rfl rfl (TL.nil h_)) ?_
        refine Plan.v 12 [13, 14, 15, 16, 17, 18, 19, 20, 21, 22, 23, 24, 25] (by kernel_rfl) (by kernel_rfl) (by kernel_rfl) (by kernel_rfl) rfl (fun _ _ h_ => TL.off rfl rfl rfl (TL.nil h_)) ?_
        refine Plan.v 13 [14, 15, 16, 17, 18, 19, 20, 21, 22, 23, 24, 25] (by kernel_rfl) (by kernel_rfl) (by kernel_rfl) (by kernel_rfl) rfl (fun _ _ h_ => TL.off rfl rfl rfl (TL.nil h_)) ?_
        refine Plan.v 14 [15, 16, 17, 18, 19, 20, 21, 22, 23, 24, 25] (by kernel_rfl) (by kernel_rfl) (by kernel_rfl) (by kernel_rfl) rfl (fun _ _ h_ => TL.off rfl rfl rfl (TL.nil h_)) ?_
        refine Plan.v 15 [16, 17, 18, 19, 20, 21, 22, 23, 24, 25] (by kernel_rfl) (by kernel_rfl) (by kernel_rfl) (by kernel_rfl) rfl (fun _ _ h_ => TL.off rfl rfl rfl (TL.nil h_)) ?_
        refine Plan.v 16 [17, 18, 19, 20, 21, 22, 23, 24, 25] (by kernel_rfl) (by kernel_rfl) (by kernel_rfl) (by kernel_rfl) rfl (fun _ _ h_ => R.pkTE rfl rfl (by conv => lhs; whnf) (TL.nil h_)) ?_
        refine Plan.v 17 [18, 19, 20, 21, 22, 23, 24, 25] (by kernel_rfl) (by kernel_rfl) (by kernel_rfl) (by kernel_rfl) rfl (fun _ _ h_ => R.mvE rfl (by conv => lhs; whnf) (TL.nil h_)) ?_
        refine Plan.v 18 [19, 20, 21, 22, 23, 24, 25] (by kernel_rfl) (by kernel_rfl) (by kernel_rfl) (by kernel_rfl) rfl (fun _ _ h_ => TL.off rfl rfl rfl (TL.nil h_)) ?_
        refine Plan.v 19 [20, 21, 22, 23, 24, 25] (by kernel_rfl) (by kernel_rfl) (by kernel_rfl) (by kernel_rfl) rfl (fun _ _ h_ => TL.off rfl rfl rfl (TL.nil h_)) ?_
        refine Plan.v 20 [21, 22, 23, 24, 25] (by kernel_rfl) (by kernel_rfl) (by kernel_rfl) (by kernel_rfl) rfl (fun _ _ h_ => TL.off rfl rfl rfl (TL.nil h_)) ?_
        refine Plan.v 21 [22, 23, 24, 25] (by kernel_rfl) (by kernel_rfl) (by kernel_rfl) (by kernel_rfl) rfl (fun _ _ h_ => TL.off rfl rfl rfl (TL.nil h_)) ?_
        refine Plan.v 22 [23, 24, 25] (by kernel_rfl) (by kernel_rfl) (by kernel_rfl) (by kernel_rfl) rfl (fun _ _ h_ => TL.off rfl rfl rfl (TL.nil h_)) ?_
        refine Plan.v 23 [24, 25] (by kernel_rfl) (by kernel_rfl) (by kernel_rfl) (by kernel_rfl) rfl (fun _ _ h_ => TL.off rfl rfl rfl (TL.nil h_)) ?_
        refine Plan.v 24 [25] (by kernel_rfl) (by kernel_rfl) (by kernel_rfl) (by kernel_rfl) rfl (fun _ _ h_ => TL.off rfl rfl rfl (TL.nil h_)) ?_
        refine Plan.v 25 [] (by kernel_rfl) (by kernel_rfl) (by kernel_rfl) (by kernel_rfl) rfl (fun _ _ h_ => R.pkTE rfl rfl (by conv => lhs; whnf) (TL.nil h_)) ?_
        refine Plan.done (Post.thnN ?_)
        exact ⟨true, HLe.refl _, ⟨Has.nil, (by rw [if_neg g8, if_pos g13])⟩, rfl, rfl, trivial⟩
      · refine Plan.v 9 [10, 11, 12, 13, 14, 15, 16, 17, 18, 19, 20, 21, 22, 23, 24, 25] (by kernel_rfl) (by kernel_rfl) (by kernel_rfl) (by kernel_rfl) rfl (fun _ _ h_ => R.mvE rfl (by conv => lhs; whnf) (TL.nil h_)) ?_
        have hl15 : 0 < a0.length := by first | omega | (simp; done) | (simp; omega) | (simp at *; omega)
        obtain ⟨y15, e15, h15⟩ : ∃ y, y = (a0.getD 0 (((0, (false, false, 0, 0, 0)) : Int × (Bool × Bool × Int × Int × Int)) : Int × (Bool × Bool × Int × Int × Int))) ∧ a0[0]? = some y := ⟨_, rfl, getD_get (by first | exact hl15 | simpa using hl15 | (rw [(sortI_perm _).length_eq]; exact hl15))⟩
        obtain ⟨b15, o15, i15, k15⟩ := RdS.elem ha0 h15
        obtain ⟨l15, g15, k15⟩ := k15
        obtain rfl : l15 = [.int .i64 (y15.1), .bool (y15.2.1), .bool (y15.2.2.1), .int .i64 (y15.2.2.2.1), .int .i64 (y15.2.2.2.2.1), .int .i64 (y15.2.2.2.2.2)] := g15
        refine Plan.v 10 [11, 12, 13, 14, 15, 16, 17, 18, 19, 20, 21, 22, 23, 24, 25] (by kernel_rfl) (by kernel_rfl) (by kernel_rfl) (by kernel_rfl) rfl (fun _ _ h_ => R.ixp Tryz.underlying22 Tryz.sizeOf55 rfl rfl rfl (by first | omega | (simp; done) | (simp; omega) | (simp at *; omega)) i15 (TL.nil h_)) ?_
        refine Plan.v 11 [12, 13, 14, 15, 16, 17, 18, 19, 20, 21, 22, 23, 24, 25] (by kernel_rfl) (by kernel_rfl) (by kernel_rfl) (by kernel_rfl) rfl (fun _ _ h_ => R.ldK (l := [.int .i64 (y15.1), .bool (y15.2.1), .bool (y15.2.2.1), .int .i64 (y15.2.2.2.1), .int .i64 (y15.2.2.2.2.1), .int .i64 (y15.2.2.2.2.2)]) Tryz.isAgg55 Tryz.sizeOf55 rfl rfl k15 rfl (TL.nil h_)) ?_
        refine Plan.s1 12 [13, 14, 15, 16, 17, 18, 19, 20, 21, 22, 23, 24, 25] (by kernel_rfl) (by kernel_rfl) rfl ?_
        obtain ⟨r17, er17⟩ : ∃ r, r = windroseref13_New_m := ⟨_, rfl⟩
        refine TL.call [] rfl rfl rfl (windroseref13_New_c _ ) ?_
        intro v17 H17 L17 s17 q17
        rw [← er17] at q17
        obtain ⟨u17_0_0, c17_0_0, rfl, rfl, w17_0_0⟩ := q17
        obtain ⟨A17_0_0, p17_0_0, rfl, m17_0_0, n17_0_0⟩ := OwnS.shape w17_0_0
        have tn17 : r17.length = 2 := by rw [er17]; rfl
        refine TL.nil (Plan.e1 (s17) ?_)
        refine Plan.s1 13 [14, 15, 16, 17, 18, 19, 20, 21, 22, 23, 24, 25] (by kernel_rfl) (by kernel_rfl) rfl ?_
        refine TL.shut .hd ?_
        intro HF17_0_0_2 sF17_0_0_2 qF17_0_0_2
        have fF17_0_0_2 := OwnS.read w17_0_0 sF17_0_0_2 qF17_0_0_2
        have hl18 : 0 < r17.length := by first | omega | (simp; done) | (simp; omega) | (simp at *; omega)
        obtain ⟨y18, e18, h18⟩ : ∃ y, y = (r17.getD 0 (((0, (false, false, 0, 0, 0)) : Int × (Bool × Bool × Int × Int × Int)) : Int × (Bool × Bool × Int × Int × Int))) ∧ r17[0]? = some y := ⟨_, rfl, getD_get (by first | exact hl18 | simpa using hl18 | (rw [(sortI_perm _).length_eq]; exact hl18))⟩
        obtain ⟨b18, o18, i18, k18⟩ := RdS.elem fF17_0_0_2 h18
        obtain ⟨l18, g18, k18⟩ := k18
        obtain rfl : l18 = [.int .i64 (y18.1), .bool (y18.2.1), .bool (y18.2.2.1), .int .i64 (y18.2.2.2.1), .int .i64 (y18.2.2.2.2.1), .int .i64 (y18.2.2.2.2.2)] := g18
        refine R.ixp Tryz.underlying22 Tryz.sizeOf55 rfl rfl rfl (by first | omega | (simp; done) | (simp; omega) | (simp at *; omega)) i18 ?_
        refine TL.nil (Plan.e1 (sF17_0_0_2) ?_)
        refine Plan.v 14 [15, 16, 17, 18, 19, 20, 21, 22, 23, 24, 25] (by kernel_rfl) (by kernel_rfl) (by kernel_rfl) (by kernel_rfl) rfl (fun _ _ h_ => R.ldK (l := [.int .i64 (y18.1), .bool (y18.2.1), .bool (y18.2.2.1), .int .i64 (y18.2.2.2.1), .int .i64 (y18.2.2.2.2.1), .int .i64 (y18.2.2.2.2.2)]) Tryz.isAgg55 Tryz.sizeOf55 rfl rfl k18 rfl (TL.nil h_)) ?_
        refine Plan.v 15 [16, 17, 18, 19, 20, 21, 22, 23, 24, 25] (by kernel_rfl) (by kernel_rfl) (by kernel_rfl) (by kernel_rfl) rfl (fun _ _ h_ => R.neG (a := (y15 : Int × (Bool × Bool × Int × Int × Int))) (b := (y18 : Int × (Bool × Bool × Int × Int × Int))) (eqT55 9997 y15 y18) eqG55 rfl rfl rfl (TL.nil h_)) ?_
        refine Plan.v 16 [17, 18, 19, 20, 21, 22, 23, 24, 25] (by kernel_rfl) (by kernel_rfl) (by kernel_rfl) (by kernel_rfl) rfl (fun _ _ h_ => R.pkFE rfl rfl (by conv => lhs; whnf) (TL.nil h_)) ?_
        refine Plan.v 17 [18, 19, 20, 21, 22, 23, 24, 25] (by kernel_rfl) (by kernel_rfl) (by kernel_rfl) (by kernel_rfl) rfl (fun _ _ h_ => R.mvE rfl (by conv => lhs; whnf) (TL.nil h_)) ?_
        refine Plan.gsplitD 22 rfl (fun g22 => ?_) (fun g22 => ?_)
        · refine Plan.v 18 [19, 20, 21, 22, 23, 24, 25] (by kernel_rfl) (by kernel_rfl) (by kernel_rfl) (by kernel_rfl) rfl (fun _ _ h_ => TL.off rfl rfl rfl (TL.nil h_)) ?_
          refine Plan.v 19 [20, 21, 22, 23, 24, 25] (by kernel_rfl) (by kernel_rfl) (by kernel_rfl) (by kernel_rfl) rfl (fun _ _ h_ => TL.off rfl rfl rfl (TL.nil h_)) ?_
          refine Plan.v 20 [21, 22, 23, 24, 25] (by kernel_rfl) (by kernel_rfl) (by kernel_rfl) (by kernel_rfl) rfl (fun _ _ h_ => TL.off rfl rfl rfl (TL.nil h_)) ?_
          refine Plan.v 21 [22, 23, 24, 25] (by kernel_rfl) (by kernel_rfl) (by kernel_rfl) (by kernel_rfl) rfl (fun _ _ h_ => TL.off rfl rfl rfl (TL.nil h_)) ?_
          refine Plan.v 22 [23, 24, 25] (by kernel_rfl) (by kernel_rfl) (by kernel_rfl) (by kernel_rfl) rfl (fun _ _ h_ => TL.off rfl rfl rfl (TL.nil h_)) ?_
          refine Plan.v 23 [24, 25] (by kernel_rfl) (by kernel_rfl) (by kernel_rfl) (by kernel_rfl) rfl (fun _ _ h_ => TL.off rfl rfl rfl (TL.nil h_)) ?_
          refine Plan.v 24 [25] (by kernel_rfl) (by kernel_rfl) (by kernel_rfl) (by kernel_rfl) rfl (fun _ _ h_ => TL.off rfl rfl rfl (TL.nil h_)) ?_
          refine Plan.v 25 [] (by kernel_rfl) (by kernel_rfl) (by kernel_rfl) (by kernel_rfl) rfl (fun _ _ h_ => R.pkTE rfl rfl (by conv => lhs; whnf) (TL.nil h_)) ?_
          refine Plan.done (Post.thnN ?_)
          exact ⟨true, (s17.trans sF17_0_0_2), ⟨Has.nil, (by subst e18; subst er17; subst e15; rw [if_neg g8, if_neg g13, LR.seq_go, if_pos g22])⟩, rfl, rfl, trivial⟩
        · refine Plan.v 18 [19, 20, 21, 22, 23, 24, 25] (by kernel_rfl) (by kernel_rfl) (by kernel_rfl) (by kernel_rfl) rfl (fun _ _ h_ => R.mvE rfl (by conv => lhs; whnf) (TL.nil h_)) ?_
          have hl24 : 1 < a0.length := by first | omega | (simp; done) | (simp; omega) | (simp at *; omega)
          obtain ⟨y24, e24, h24⟩ : ∃ y, y = (a0.getD 1 (((0, (false, false, 0, 0, 0)) : Int × (Bool × Bool × Int × Int × Int)) : Int × (Bool × Bool × Int × Int × Int))) ∧ a0[1]? = some y := ⟨_, rfl, getD_get (by first | exact hl24 | simpa using hl24 | (rw [(sortI_perm _).length_eq]; exact hl24))⟩
          obtain ⟨b24, o24, i24, k24⟩ := RdS.elem (ha0.mono (s17.trans sF17_0_0_2)) h24
          obtain ⟨l24, g24, k24⟩ := k24
          obtain rfl : l24 = [.int .i64 (y24.1), .bool (y24.2.1), .bool (y24.2.2.1), .int .i64 (y24.2.2.2.1), .int .i64 (y24.2.2.2.2.1), .int .i64 (y24.2.2.2.2.2)] := g24
          refine Plan.v 19 [20, 21, 22, 23, 24, 25] (by kernel_rfl) (by kernel_rfl) (by kernel_rfl) (by kernel_rfl) rfl (fun _ _ h_ => R.ixp Tryz.underlying22 Tryz.sizeOf55 rfl rfl rfl (by first | omega | (simp; done) | (simp; omega) | (simp at *; omega)) i24 (TL.nil h_)) ?_
          refine Plan.v 20 [21, 22, 23, 24, 25] (by kernel_rfl) (by kernel_rfl) (by kernel_rfl) (by kernel_rfl) rfl (fun _ _ h_ => R.ldK (l := [.int .i64 (y24.1), .bool (y24.2.1), .bool (y24.2.2.1), .int .i64 (y24.2.2.2.1), .int .i64 (y24.2.2.2.2.1), .int .i64 (y24.2.2.2.2.2)]) Tryz.isAgg55 Tryz.sizeOf55 rfl rfl k24 rfl (TL.nil h_)) ?_
          refine Plan.s1 21 [22, 23, 24, 25] (by kernel_rfl) (by kernel_rfl) rfl ?_
          obtain ⟨r26, er26⟩ : ∃ r, r = windroseref13_New_m := ⟨_, rfl⟩
          refine TL.call [] rfl rfl rfl (windroseref13_New_c _ ) ?_
          intro v26 H26 L26 s26 q26
          rw [← er26] at q26
          obtain ⟨u26_0_0, c26_0_0, rfl, rfl, w26_0_0⟩ := q26
          obtain ⟨A26_0_0, p26_0_0, rfl, m26_0_0, n26_0_0⟩ := OwnS.shape w26_0_0
          have tn26 : r26.length = 2 := by rw [er26]; rfl
          refine TL.nil (Plan.e1 (s26) ?_)
          refine Plan.s1 22 [23, 24, 25] (by kernel_rfl) (by kernel_rfl) rfl ?_
          refine TL.shut .hd ?_
          intro HF26_0_0_4 sF26_0_0_4 qF26_0_0_4
          have fF26_0_0_4 := OwnS.read w26_0_0 sF26_0_0_4 qF26_0_0_4
          have hl27 : 1 < r26.length := by first | omega | (simp; done) | (simp; omega) | (simp at *; omega)
          obtain ⟨y27, e27, h27⟩ : ∃ y, y = (r26.getD 1 (((0, (false, false, 0, 0, 0)) : Int × (Bool × Bool × Int × Int × Int)) : Int × (Bool × Bool × Int × Int × Int))) ∧ r26[1]? = some y := ⟨_, rfl, getD_get (by first | exact hl27 | simpa using hl27 | (rw [(sortI_perm _).length_eq]; exact hl27))⟩
          obtain ⟨b27, o27, i27, k27⟩ := RdS.elem fF26_0_0_4 h27
          obtain ⟨l27, g27, k27⟩ := k27
          obtain rfl : l27 = [.int .i64 (y27.1), .bool (y27.2.1), .bool (y27.2.2.1), .int .i64 (y27.2.2.2.1), .int .i64 (y27.2.2.2.2.1), .int .i64 (y27.2.2.2.2.2)] := g27
          refine R.ixp Tryz.underlying22 Tryz.sizeOf55 rfl rfl rfl (by first | omega | (simp; done) | (simp; omega) | (simp at *; omega)) i27 ?_
          refine TL.nil (Plan.e1 (sF26_0_0_4) ?_)
          refine Plan.v 23 [24, 25] (by kernel_rfl) (by kernel_rfl) (by kernel_rfl) (by kernel_rfl) rfl (fun _ _ h_ => R.ldK (l := [.int .i64 (y27.1), .bool (y27.2.1), .bool (y27.2.2.1), .int .i64 (y27.2.2.2.1), .int .i64 (y27.2.2.2.2.1), .int .i64 (y27.2.2.2.2.2)]) Tryz.isAgg55 Tryz.sizeOf55 rfl rfl k27 rfl (TL.nil h_)) ?_
          refine Plan.v 24 [25] (by kernel_rfl) (by kernel_rfl) (by kernel_rfl) (by kernel_rfl) rfl (fun _ _ h_ => R.neG (a := (y24 : Int × (Bool × Bool × Int × Int × Int))) (b := (y27 : Int × (Bool × Bool × Int × Int × Int))) (eqT55 9997 y24 y27) eqG55 rfl rfl rfl (TL.nil h_)) ?_
          refine Plan.v 25 [] (by kernel_rfl) (by kernel_rfl) (by kernel_rfl) (by kernel_rfl) rfl (fun _ _ h_ => R.pkFE rfl rfl (by conv => lhs; whnf) (TL.nil h_)) ?_
          refine Plan.done (Post.thnN ?_)
          exact ⟨(decide ((y24 : Int × (Bool × Bool × Int × Int × Int)) ≠ y27)), (s17.trans (sF17_0_0_2.trans (s26.trans sF26_0_0_4))), ⟨Has.nil, (by subst e27; subst er26; subst e24; subst e18; subst er17; subst e15; rw [if_neg g8, if_neg g13, LR.seq_go, if_neg g22, LR.seq_go])⟩, rfl, rfl, trivial⟩
  · intro b30c1 σ_c1 H_c1 L_c1 ds_c1 s_c1 hI_c1
    obtain ⟨hLc1, hTc1⟩ := hI_c1
    refine T.has hLc1 ?_
    refine T.cond rfl (fun c30 => ?_) (fun c30 => ?_)
    · refine T.set 30 (.bool true) (congrArg Value.bool c30) ?_
      have hZ30 := hTc1.trans c30
      try simp only [or_f, or_t, and_f, and_t, decide_eq_true_eq, decide_eq_false_iff_not, Bool.not_eq_true'] at hZ30
      refine T.seq ?_
      refine T.region ?_
      refine R.asE rfl (by conv => lhs; whnf) ?_
      refine TL.nil (Post.thnN ?_)
      refine T.has Has.nil ?_
      refine T.ret (Post.thnR ?_)
      have hM : windroseref13_Right_m a0 = false := by rw [windroseref13_Right_m, hTc1, LR.seq_go, if_t c30]
      exact fin1L (v := .bool false) [] rfl rfl (List.Sublist.refl _) ⟨rfl, by first | rw [hM] | rfl⟩
    · refine T.set 30 (.bool false) (congrArg Value.bool c30) ?_
      have hZ30 := hTc1.trans c30
      try simp only [or_f, or_t, and_f, and_t, decide_eq_true_eq, decide_eq_false_iff_not, Bool.not_eq_true'] at hZ30
      refine T.skip (Post.thnN ?_)
      refine T.seq ?_
      refine T.seq ?_
      refine T.region ?_
      refine R.mvE rfl (by conv => lhs; whnf) ?_
      refine R.len Tryz.underlying22 rfl rfl ?_
      refine R.mvE rfl (by conv => lhs; whnf) ?_
      refine TL.nil (Post.thnN ?_)
      refine T.block ?_
      refine T.loop (ι := Nat) (fun kl2 H' L' ds' => kl2 ≤ a0.length ∧ Has L' [] ∧ windroseref13_Right_l2 a0 (a0.drop kl2) kl2 () = windroseref13_Right_l2 a0 a0 0 ()) (fun kl2 => [(33, .int .i64 (kl2 : Int)), (0, .slice Aa0 a0.length ca0), (31, .slice Aa0 a0.length ca0), (32, .int .i64 (a0.length : Int))]) (fun kl2 => a0.length - kl2) 0 ?_ ?_ ?_
      · exact ⟨(by omega), Has.nil, (by rfl)⟩
      · exact ⟨rfl, rfl, rfl, rfl, trivial⟩
      · intro kl2 σ_l2 H_l2 L_l2 ds_l2 s_l2 hI_l2
        obtain ⟨hkl2, hI_l2⟩ := hI_l2
        obtain ⟨hLl2, hQl2⟩ := hI_l2
        refine T.has hLl2 ?_
        refine T.seq ?_
        refine T.region ?_
        refine R.lss rfl rfl rfl ?_
        refine TL.nil (Post.thnN ?_)
        refine T.seq ?_
        refine T.condD rfl (fun c34 => ?_) (fun c34 => ?_)
        · have hltl2 : kl2 < a0.length := by omega
          obtain ⟨yl2, hyl2⟩ := getk (xs := a0) (k := kl2) (by omega)
          refine T.skip (Post.thnN ?_)
          refine T.seq ?_
          refine T.block ?_
          refine T.seq ?_
          refine T.region ?_
          refine R.mvE rfl (by conv => lhs; whnf) ?_
          obtain ⟨b36, o36, i36, k36⟩ := RdS.elem (ha0.mono (s_c1.trans s_l2)) hyl2
          obtain ⟨l36, g36, k36⟩ := k36
          obtain rfl : l36 = [.int .i64 (yl2.1), .bool (yl2.2.1), .bool (yl2.2.2.1), .int .i64 (yl2.2.2.2.1), .int .i64 (yl2.2.2.2.2.1), .int .i64 (yl2.2.2.2.2.2)] := g36
          refine R.ixp Tryz.underlying22 Tryz.sizeOf55 rfl rfl rfl (by omega) i36 ?_
          refine R.ldK (l := [.int .i64 (yl2.1), .bool (yl2.2.1), .bool (yl2.2.2.1), .int .i64 (yl2.2.2.2.1), .int .i64 (yl2.2.2.2.2.1), .int .i64 (yl2.2.2.2.2.2)]) Tryz.isAgg55 Tryz.sizeOf55 rfl rfl k36 rfl ?_
          refine R.alloc Tryz.zeroValue55 rfl ?_
          intro b4
          refine R.asE rfl (by conv => lhs; whnf) ?_
          refine R.stX (old := [.int .i64 0, .bool false, .bool false, .int .i64 0, .int .i64 0, .int .i64 0]) (l := [.int .i64 (yl2.1), .bool (yl2.2.1), .bool (yl2.2.2.1), .int .i64 (yl2.2.2.2.1), .int .i64 (yl2.2.2.2.2.1), .int .i64 (yl2.2.2.2.2.2)]) (new := [.int .i64 (yl2.1), .bool (yl2.2.1), .bool (yl2.2.2.1), .int .i64 (yl2.2.2.2.1), .int .i64 (yl2.2.2.2.2.1), .int .i64 (yl2.2.2.2.2.2)]) (et := 55) Tryz.sizeOf55 rfl rfl rfl rfl rfl (by show 0 + 6 ≤ 6; decide) rfl (all_one rfl) .hd ?_
          refine TL.shut .hd ?_
          intro Hb4_5 sb4_5 qb4_5
          have hb4_5 : Hb4_5 b4 = some (.cells #[.int .i64 (yl2.1), .bool (yl2.2.1), .bool (yl2.2.2.1), .int .i64 (yl2.2.2.2.1), .int .i64 (yl2.2.2.2.2.1), .int .i64 (yl2.2.2.2.2.2)] 55) := shut1 qb4_5
          refine TL.nil (Post.thnN ?_)
          refine T.seq ?_
          refine T.cutK (ι := Bool) (fun b62c3 H' L' ds' => Has L' [] ∧ (if ((windroseref13_RightTraits_m yl2.2) : Int) ≠ 0 then true else (if (!(windroseref01_Is_m yl2.1 1 1048578)) = true then true else (if (0 : Int) < (kl2 : Int) then ((decide (yl2.1 ≤ (a0.getD ((((kl2 : Int) - 1)).toNat) (((0, (false, false, 0, 0, 0)) : Int × (Bool × Bool × Int × Int × Int)) : Int × (Bool × Bool × Int × Int × Int))).1))) else false)) : Bool) = b62c3) (fun b62c3 => [(0, .slice Aa0 a0.length ca0), (31, .slice Aa0 a0.length ca0), (32, .int .i64 (a0.length : Int)), (33, .int .i64 (kl2 : Int)), (62, .bool (b62c3))]) ?_ ?_
          · refine T.draw Tryz_mixed (by kernel_rfl) ?_
            refine Plan.v 0 [1, 2, 3, 4, 5, 6, 7, 8, 9, 10, 11, 12, 13, 14, 15, 16, 17, 18, 19, 20, 21, 22, 23, 24] (by kernel_rfl) (by kernel_rfl) (by kernel_rfl) (by kernel_rfl) rfl (fun _ _ h_ => R.fldA Tryz.underlying55 rfl Tryz.sizeOf53 (by decide) rfl rfl (TL.nil h_)) ?_
            refine Plan.v 1 [2, 3, 4, 5, 6, 7, 8, 9, 10, 11, 12, 13, 14, 15, 16, 17, 18, 19, 20, 21, 22, 23, 24] (by kernel_rfl) (by kernel_rfl) (by kernel_rfl) (by kernel_rfl) rfl (fun _ _ h_ => R.ldXH (cs := [.int .i64 (yl2.1), .bool (yl2.2.1), .bool (yl2.2.2.1), .int .i64 (yl2.2.2.2.1), .int .i64 (yl2.2.2.2.2.1), .int .i64 (yl2.2.2.2.2.2)]) (l := [.bool (yl2.2.1), .bool (yl2.2.2.1), .int .i64 (yl2.2.2.2.1), .int .i64 (yl2.2.2.2.2.1), .int .i64 (yl2.2.2.2.2.2)]) Tryz.isAgg53 Tryz.sizeOf53 rfl rfl hb4_5 rfl rfl (TL.nil h_)) ?_
            refine Plan.v 2 [3, 4, 5, 6, 7, 8, 9, 10, 11, 12, 13, 14, 15, 16, 17, 18, 19, 20, 21, 22, 23, 24] (by kernel_rfl) (by kernel_rfl) (by kernel_rfl) (by kernel_rfl) rfl (fun _ _ h_ => R.callv rfl rfl rfl (windroseref13_RightTraits_c _ yl2.2) (TL.nil h_)) ?_
            refine Plan.v 3 [4, 5, 6, 7, 8, 9, 10, 11, 12, 13, 14, 15, 16, 17, 18, 19, 20, 21, 22, 23, 24] (by kernel_rfl) (by kernel_rfl) (by kernel_rfl) (by kernel_rfl) rfl (fun _ _ h_ => R.neq rfl rfl rfl (TL.nil h_)) ?_
            refine Plan.v 4 [5, 6, 7, 8, 9, 10, 11, 12, 13, 14, 15, 16, 17, 18, 19, 20, 21, 22, 23, 24] (by kernel_rfl) (by kernel_rfl) (by kernel_rfl) (by kernel_rfl) rfl (fun _ _ h_ => R.mvE rfl (by conv => lhs; whnf) (TL.nil h_)) ?_
            refine Plan.gsplitD 42 rfl (fun g42 => ?_) (fun g42 => ?_)
            · refine Plan.v 5 [6, 7, 8, 9, 10, 11, 12, 13, 14, 15, 16, 17, 18, 19, 20, 21, 22, 23, 24] (by kernel_rfl) (by kernel_rfl) (by kernel_rfl) (by kernel_rfl) rfl (fun _ _ h_ => TL.off rfl rfl rfl (TL.nil h_)) ?_
              refine Plan.v 6 [7, 8, 9, 10, 11, 12, 13, 14, 15, 16, 17, 18, 19, 20, 21, 22, 23, 24] (by kernel_rfl) (by kernel_rfl) (by kernel_rfl) (by kernel_rfl) rfl (fun _ _ h_ => TL.off rfl rfl rfl (TL.nil h_)) ?_
              refine Plan.v 7 [8, 9, 10, 11, 12, 13, 14, 15, 16, 17, 18, 19, 20, 21, 22, 23, 24] (by kernel_rfl) (by kernel_rfl) (by kernel_rfl) (by kernel_rfl) rfl (fun _ _ h_ => TL.off rfl rfl rfl (TL.nil h_)) ?_
              refine Plan.v 8 [9, 10, 11, 12, 13, 14, 15, 16, 17, 18, 19, 20, 21, 22, 23, 24] (by kernel_rfl) (by kernel_rfl) (by kernel_rfl) (by kernel_rfl) rfl (fun _ _ h_ => TL.off rfl rfl rfl (TL.nil h_)) ?_
              refine Plan.v 9 [10, 11, 12, 13, 14, 15, 16, 17, 18, 19, 20, 21, 22, 23, 24] (by kernel_rfl) (by kernel_rfl) (by kernel_rfl) (by kernel_rfl) rfl (fun _ _ h_ => R.pkTE rfl rfl (by conv => lhs; whnf) (TL.nil h_)) ?_
              refine Plan.v 10 [11, 12, 13, 14, 15, 16, 17, 18, 19, 20, 21, 22, 23, 24] (by kernel_rfl) (by kernel_rfl) (by kernel_rfl) (by kernel_rfl) rfl (fun _ _ h_ => R.mvE rfl (by conv => lhs; whnf) (TL.nil h_)) ?_
              refine Plan.v 11 [12, 13, 14, 15, 16, 17, 18, 19, 20, 21, 22, 23, 24] (by kernel_rfl) (by kernel_rfl) (by kernel_rfl) (by kernel_rfl) rfl (fun _ _ h_ => TL.off rfl rfl rfl (TL.nil h_)) ?_
              refine Plan.v 12 [13, 14, 15, 16, 17, 18, 19, 20, 21, 22, 23, 24] (by kernel_rfl) (by kernel_rfl) (by kernel_rfl) (by kernel_rfl) rfl (fun _ _ h_ => TL.off rfl rfl rfl (TL.nil h_)) ?_
              refine Plan.v 13 [14, 15, 16, 17, 18, 19, 20, 21, 22, 23, 24] (by kernel_rfl) (by kernel_rfl) (by kernel_rfl) (by kernel_rfl) rfl (fun _ _ h_ => TL.off rfl rfl rfl (TL.nil h_)) ?_
              refine Plan.v 14 [15, 16, 17, 18, 19, 20, 21, 22, 23, 24] (by kernel_rfl) (by kernel_rfl) (by kernel_rfl) (by kernel_rfl) rfl (fun _ _ h_ => TL.offU rfl rfl (TL.nil h_)) ?_
              refine Plan.v 15 [16, 17, 18, 19, 20, 21, 22, 23, 24] (by kernel_rfl) (by kernel_rfl) (by kernel_rfl) (by kernel_rfl) rfl (fun _ _ h_ => TL.offU rfl rfl (TL.nil h_)) ?_
              refine Plan.v 16 [17, 18, 19, 20, 21, 22, 23, 24] (by kernel_rfl) (by kernel_rfl) (by kernel_rfl) (by kernel_rfl) rfl (fun _ _ h_ => TL.offU rfl rfl (TL.nil h_)) ?_
              refine Plan.v 17 [18, 19, 20, 21, 22, 23, 24] (by kernel_rfl) (by kernel_rfl) (by kernel_rfl) (by kernel_rfl) rfl (fun _ _ h_ => TL.offU rfl rfl (TL.nil h_)) ?_
              refine Plan.v 18 [19, 20, 21, 22, 23, 24] (by kernel_rfl) (by kernel_rfl) (by kernel_rfl) (by kernel_rfl) rfl (fun _ _ h_ => TL.offU rfl rfl (TL.nil h_)) ?_
              refine Plan.v 19 [20, 21, 22, 23, 24] (by kernel_rfl) (by kernel_rfl) (by kernel_rfl) (by kernel_rfl) rfl (fun _ _ h_ => TL.offU rfl rfl (TL.nil h_)) ?_
              refine Plan.v 20 [21, 22, 23, 24] (by kernel_rfl) (by kernel_rfl) (by kernel_rfl) (by kernel_rfl) rfl (fun _ _ h_ => TL.offU rfl rfl (TL.nil h_)) ?_
              refine Plan.v 21 [22, 23, 24] (by kernel_rfl) (by kernel_rfl) (by kernel_rfl) (by kernel_rfl) rfl (fun _ _ h_ => TL.offU rfl rfl (TL.nil h_)) ?_
              refine Plan.v 22 [23, 24] (by kernel_rfl) (by kernel_rfl) (by kernel_rfl) (by kernel_rfl) rfl (fun _ _ h_ => TL.offU rfl rfl (TL.nil h_)) ?_
              refine Plan.v 23 [24] (by kernel_rfl) (by kernel_rfl) (by kernel_rfl) (by kernel_rfl) rfl (fun _ _ h_ => TL.off rfl rfl rfl (TL.nil h_)) ?_
              refine Plan.v 24 [] (by kernel_rfl) (by kernel_rfl) (by kernel_rfl) (by kernel_rfl) rfl (fun _ _ h_ => R.pkTE rfl rfl (by conv => lhs; whnf) (TL.nil h_)) ?_
              refine Plan.done (Post.thnN ?_)
              exact ⟨true, HLe.refl _, ⟨Has.nil, (by rw [if_pos g42])⟩, rfl, rfl, rfl, rfl, rfl, trivial⟩
            · refine Plan.v 5 [6, 7, 8, 9, 10, 11, 12, 13, 14, 15, 16, 17, 18, 19, 20, 21, 22, 23, 24] (by kernel_rfl) (by kernel_rfl) (by kernel_rfl) (by kernel_rfl) rfl (fun _ _ h_ => R.fldA Tryz.underlying55 rfl Tryz.sizeOf3 (by decide) rfl rfl (TL.nil h_)) ?_
              refine Plan.v 6 [7, 8, 9, 10, 11, 12, 13, 14, 15, 16, 17, 18, 19, 20, 21, 22, 23, 24] (by kernel_rfl) (by kernel_rfl) (by kernel_rfl) (by kernel_rfl) rfl (fun _ _ h_ => R.ldH Tryz.isAgg3 rfl rfl hb4_5 rfl (TL.nil h_)) ?_
              refine Plan.v 7 [8, 9, 10, 11, 12, 13, 14, 15, 16, 17, 18, 19, 20, 21, 22, 23, 24] (by kernel_rfl) (by kernel_rfl) (by kernel_rfl) (by kernel_rfl) rfl (fun _ _ h_ => R.callv rfl rfl rfl (windroseref01_Is_c _ (yl2.1) (1) (1048578)) (TL.nil h_)) ?_
              refine Plan.v 8 [9, 10, 11, 12, 13, 14, 15, 16, 17, 18, 19, 20, 21, 22, 23, 24] (by kernel_rfl) (by kernel_rfl) (by kernel_rfl) (by kernel_rfl) rfl (fun _ _ h_ => R.not rfl rfl (TL.nil h_)) ?_
              refine Plan.v 9 [10, 11, 12, 13, 14, 15, 16, 17, 18, 19, 20, 21, 22, 23, 24] (by kernel_rfl) (by kernel_rfl) (by kernel_rfl) (by kernel_rfl) rfl (fun _ _ h_ => R.pkFE rfl rfl (by conv => lhs; whnf) (TL.nil h_)) ?_
              refine Plan.v 10 [11, 12, 13, 14, 15, 16, 17, 18, 19, 20, 21, 22, 23, 24] (by kernel_rfl) (by kernel_rfl) (by kernel_rfl) (by kernel_rfl) rfl (fun _ _ h_ => R.mvE rfl (by conv => lhs; whnf) (TL.nil h_)) ?_
              refine Plan.gsplit 48 rfl (fun g48 => ?_) (fun g48 => ?_)
              · refine Plan.v 11 [12, 13, 14, 15, 16, 17, 18, 19, 20, 21, 22, 23, 24] (by kernel_rfl) (by kernel_rfl) (by kernel_rfl) (by kernel_rfl) rfl (fun _ _ h_ => TL.off rfl rfl rfl (TL.nil h_)) ?_
                refine Plan.v 12 [13, 14, 15, 16, 17, 18, 19, 20, 21, 22, 23, 24] (by kernel_rfl) (by kernel_rfl) (by kernel_rfl) (by kernel_rfl) rfl (fun _ _ h_ => TL.off rfl rfl rfl (TL.nil h_)) ?_
                refine Plan.v 13 [14, 15, 16, 17, 18, 19, 20, 21, 22, 23, 24] (by kernel_rfl) (by kernel_rfl) (by kernel_rfl) (by kernel_rfl) rfl (fun _ _ h_ => TL.off rfl rfl rfl (TL.nil h_)) ?_
                refine Plan.v 14 [15, 16, 17, 18, 19, 20, 21, 22, 23, 24] (by kernel_rfl) (by kernel_rfl) (by kernel_rfl) (by kernel_rfl) rfl (fun _ _ h_ => TL.offU rfl rfl (TL.nil h_)) ?_
                refine Plan.v 15 [16, 17, 18, 19, 20, 21, 22, 23, 24] (by kernel_rfl) (by kernel_rfl) (by kernel_rfl) (by kernel_rfl) rfl (fun _ _ h_ => TL.offU rfl rfl (TL.nil h_)) ?_
                refine Plan.v 16 [17, 18, 19, 20, 21, 22, 23, 24] (by kernel_rfl) (by kernel_rfl) (by kernel_rfl) (by kernel_rfl) rfl (fun _ _ h_ => TL.offU rfl rfl (TL.nil h_)) ?_
                refine Plan.v 17 [18, 19, 20, 21, 22, 23, 24] (by kernel_rfl) (by kernel_rfl) (by kernel_rfl) (by kernel_rfl) rfl (fun _ _ h_ => TL.offU rfl rfl (TL.nil h_)) ?_
                refine Plan.v 18 [19, 20, 21, 22, 23, 24] (by kernel_rfl) (by kernel_rfl) (by kernel_rfl) (by kernel_rfl) rfl (fun _ _ h_ => TL.offU rfl rfl (TL.nil h_)) ?_
                refine Plan.v 19 [20, 21, 22, 23, 24] (by kernel_rfl) (by kernel_rfl) (by kernel_rfl) (by kernel_rfl) rfl (fun _ _ h_ => TL.offU rfl rfl (TL.nil h_)) ?_
                refine Plan.v 20 [21, 22, 23, 24] (by kernel_rfl) (by kernel_rfl) (by kernel_rfl) (by kernel_rfl) rfl (fun _ _ h_ => TL.offU rfl rfl (TL.nil h_)) ?_
                refine Plan.v 21 [22, 23, 24] (by kernel_rfl) (by kernel_rfl) (by kernel_rfl) (by kernel_rfl) rfl (fun _ _ h_ => TL.offU rfl rfl (TL.nil h_)) ?_
                refine Plan.v 22 [23, 24] (by kernel_rfl) (by kernel_rfl) (by kernel_rfl) (by kernel_rfl) rfl (fun _ _ h_ => TL.offU rfl rfl (TL.nil h_)) ?_
                refine Plan.v 23 [24] (by kernel_rfl) (by kernel_rfl) (by kernel_rfl) (by kernel_rfl) rfl (fun _ _ h_ => TL.off rfl rfl rfl (TL.nil h_)) ?_
                refine Plan.v 24 [] (by kernel_rfl) (by kernel_rfl) (by kernel_rfl) (by kernel_rfl) rfl (fun _ _ h_ => R.pkTE rfl rfl (by conv => lhs; whnf) (TL.nil h_)) ?_
                refine Plan.done (Post.thnN ?_)
                exact ⟨true, HLe.refl _, ⟨Has.nil, (by rw [if_neg g42, if_t g48])⟩, rfl, rfl, rfl, rfl, rfl, trivial⟩
              · refine Plan.v 11 [12, 13, 14, 15, 16, 17, 18, 19, 20, 21, 22, 23, 24] (by kernel_rfl) (by kernel_rfl) (by kernel_rfl) (by kernel_rfl) rfl (fun _ _ h_ => R.mvE rfl (by conv => lhs; whnf) (TL.nil h_)) ?_
                refine Plan.v 12 [13, 14, 15, 16, 17, 18, 19, 20, 21, 22, 23, 24] (by kernel_rfl) (by kernel_rfl) (by kernel_rfl) (by kernel_rfl) rfl (fun _ _ h_ => R.gtr rfl rfl rfl (TL.nil h_)) ?_
                refine Plan.v 13 [14, 15, 16, 17, 18, 19, 20, 21, 22, 23, 24] (by kernel_rfl) (by kernel_rfl) (by kernel_rfl) (by kernel_rfl) rfl (fun _ _ h_ => R.mvE rfl (by conv => lhs; whnf) (TL.nil h_)) ?_
                refine Plan.gsplitD 51 rfl (fun g51 => ?_) (fun g51 => ?_)
                · refine Plan.v 14 [15, 16, 17, 18, 19, 20, 21, 22, 23, 24] (by kernel_rfl) (by kernel_rfl) (by kernel_rfl) (by kernel_rfl) rfl (fun _ _ h_ => R.mvE rfl (by conv => lhs; whnf) (TL.nil h_)) ?_
                  refine Plan.v 15 [16, 17, 18, 19, 20, 21, 22, 23, 24] (by kernel_rfl) (by kernel_rfl) (by kernel_rfl) (by kernel_rfl) rfl (fun _ _ h_ => R.mvE rfl (by conv => lhs; whnf) (TL.nil h_)) ?_
                  refine Plan.v 16 [17, 18, 19, 20, 21, 22, 23, 24] (by kernel_rfl) (by kernel_rfl) (by kernel_rfl) (by kernel_rfl) rfl (fun _ _ h_ => R.subI rfl rfl rfl (by omega) (TL.nil h_)) ?_
                  have hl55 : (((kl2 : Int) - 1)).toNat < a0.length := by first | omega | (simp; done) | (simp; omega) | (simp at *; omega)
                  obtain ⟨y55, e55, h55⟩ : ∃ y, y = (a0.getD ((((kl2 : Int) - 1)).toNat) (((0, (false, false, 0, 0, 0)) : Int × (Bool × Bool × Int × Int × Int)) : Int × (Bool × Bool × Int × Int × Int))) ∧ a0[(((kl2 : Int) - 1)).toNat]? = some y := ⟨_, rfl, getD_get (by first | exact hl55 | simpa using hl55 | (rw [(sortI_perm _).length_eq]; exact hl55))⟩
                  obtain ⟨b55, o55, i55, k55⟩ := RdS.elem (ha0.mono (s_c1.trans (s_l2.trans sb4_5))) h55
                  obtain ⟨l55, g55, k55⟩ := k55
                  obtain rfl : l55 = [.int .i64 (y55.1), .bool (y55.2.1), .bool (y55.2.2.1), .int .i64 (y55.2.2.2.1), .int .i64 (y55.2.2.2.2.1), .int .i64 (y55.2.2.2.2.2)] := g55
                  refine Plan.v 17 [18, 19, 20, 21, 22, 23, 24] (by kernel_rfl) (by kernel_rfl) (by kernel_rfl) (by kernel_rfl) rfl (fun _ _ h_ => R.ixp Tryz.underlying22 Tryz.sizeOf55 rfl rfl rfl (by first | omega | (simp; done) | (simp; omega) | (simp at *; omega)) i55 (TL.nil h_)) ?_
                  refine Plan.v 18 [19, 20, 21, 22, 23, 24] (by kernel_rfl) (by kernel_rfl) (by kernel_rfl) (by kernel_rfl) rfl (fun _ _ h_ => R.fldA Tryz.underlying55 rfl Tryz.sizeOf3 (by decide) rfl rfl (TL.nil h_)) ?_
                  refine Plan.v 19 [20, 21, 22, 23, 24] (by kernel_rfl) (by kernel_rfl) (by kernel_rfl) (by kernel_rfl) rfl (fun _ _ h_ => R.ldC Tryz.isAgg3 rfl rfl (k55 0 _ rfl) (TL.nil h_)) ?_
                  refine Plan.v 20 [21, 22, 23, 24] (by kernel_rfl) (by kernel_rfl) (by kernel_rfl) (by kernel_rfl) rfl (fun _ _ h_ => R.fldA Tryz.underlying55 rfl Tryz.sizeOf3 (by decide) rfl rfl (TL.nil h_)) ?_
                  refine Plan.v 21 [22, 23, 24] (by kernel_rfl) (by kernel_rfl) (by kernel_rfl) (by kernel_rfl) rfl (fun _ _ h_ => R.ldH Tryz.isAgg3 rfl rfl hb4_5 rfl (TL.nil h_)) ?_
                  refine Plan.v 22 [23, 24] (by kernel_rfl) (by kernel_rfl) (by kernel_rfl) (by kernel_rfl) rfl (fun _ _ h_ => R.geq rfl rfl rfl (TL.nil h_)) ?_
                  refine Plan.v 23 [24] (by kernel_rfl) (by kernel_rfl) (by kernel_rfl) (by kernel_rfl) rfl (fun _ _ h_ => R.pkTE rfl rfl (by conv => lhs; whnf) (TL.nil h_)) ?_
                  refine Plan.v 24 [] (by kernel_rfl) (by kernel_rfl) (by kernel_rfl) (by kernel_rfl) rfl (fun _ _ h_ => R.pkFE rfl rfl (by conv => lhs; whnf) (TL.nil h_)) ?_
                  refine Plan.done (Post.thnN ?_)
                  exact ⟨(decide (yl2.1 ≤ y55.1)), HLe.refl _, ⟨Has.nil, (by subst e55; rw [if_neg g42, if_f g48, if_pos g51])⟩, rfl, rfl, rfl, rfl, rfl, trivial⟩
                · refine Plan.v 14 [15, 16, 17, 18, 19, 20, 21, 22, 23, 24] (by kernel_rfl) (by kernel_rfl) (by kernel_rfl) (by kernel_rfl) rfl (fun _ _ h_ => TL.off rfl rfl rfl (TL.nil h_)) ?_
                  refine Plan.v 15 [16, 17, 18, 19, 20, 21, 22, 23, 24] (by kernel_rfl) (by kernel_rfl) (by kernel_rfl) (by kernel_rfl) rfl (fun _ _ h_ => TL.off rfl rfl rfl (TL.nil h_)) ?_
                  refine Plan.v 16 [17, 18, 19, 20, 21, 22, 23, 24] (by kernel_rfl) (by kernel_rfl) (by kernel_rfl) (by kernel_rfl) rfl (fun _ _ h_ => TL.off rfl rfl rfl (TL.nil h_)) ?_
                  refine Plan.v 17 [18, 19, 20, 21, 22, 23, 24] (by kernel_rfl) (by kernel_rfl) (by kernel_rfl) (by kernel_rfl) rfl (fun _ _ h_ => TL.off rfl rfl rfl (TL.nil h_)) ?_
                  refine Plan.v 18 [19, 20, 21, 22, 23, 24] (by kernel_rfl) (by kernel_rfl) (by kernel_rfl) (by kernel_rfl) rfl (fun _ _ h_ => TL.off rfl rfl rfl (TL.nil h_)) ?_
                  refine Plan.v 19 [20, 21, 22, 23, 24] (by kernel_rfl) (by kernel_rfl) (by kernel_rfl) (by kernel_rfl) rfl (fun _ _ h_ => TL.off rfl rfl rfl (TL.nil h_)) ?_
                  refine Plan.v 20 [21, 22, 23, 24] (by kernel_rfl) (by kernel_rfl) (by kernel_rfl) (by kernel_rfl) rfl (fun _ _ h_ => TL.off rfl rfl rfl (TL.nil h_)) ?_
                  refine Plan.v 21 [22, 23, 24] (by kernel_rfl) (by kernel_rfl) (by kernel_rfl) (by kernel_rfl) rfl (fun _ _ h_ => TL.off rfl rfl rfl (TL.nil h_)) ?_
                  refine Plan.v 22 [23, 24] (by kernel_rfl) (by kernel_rfl) (by kernel_rfl) (by kernel_rfl) rfl (fun _ _ h_ => TL.off rfl rfl rfl (TL.nil h_)) ?_
                  refine Plan.v 23 [24] (by kernel_rfl) (by kernel_rfl) (by kernel_rfl) (by kernel_rfl) rfl (fun _ _ h_ => R.pkFE rfl rfl (by conv => lhs; whnf) (TL.nil h_)) ?_
                  refine Plan.v 24 [] (by kernel_rfl) (by kernel_rfl) (by kernel_rfl) (by kernel_rfl) rfl (fun _ _ h_ => R.pkFE rfl rfl (by conv => lhs; whnf) (TL.nil h_)) ?_
                  refine Plan.done (Post.thnN ?_)
                  exact ⟨false, HLe.refl _, ⟨Has.nil, (by rw [if_neg g42, if_f g48, if_neg g51])⟩, rfl, rfl, rfl, rfl, rfl, trivial⟩
          · intro b62c3 σ_c3 H_c3 L_c3 ds_c3 s_c3 hI_c3
            obtain ⟨hLc3, hTc3⟩ := hI_c3
            refine T.has hLc3 ?_
            refine T.cond rfl (fun c62 => ?_) (fun c62 => ?_)
            · refine T.set 62 (.bool true) (congrArg Value.bool c62) ?_
              have hZ62 := hTc3.trans c62
              try simp only [or_f, or_t, and_f, and_t, decide_eq_true_eq, decide_eq_false_iff_not, Bool.not_eq_true'] at hZ62
              refine T.seq ?_
              refine T.region ?_
              refine R.asE rfl (by conv => lhs; whnf) ?_
              refine TL.nil (Post.thnN ?_)
              refine T.has Has.nil ?_
              refine T.ret (Post.blkR (Post.thnR (Post.thnR (Post.blkR (Post.thnR ?_)))))
              have hXl2 : windroseref13_Right_l2 a0 a0 0 () = .ret false := by rw [← hQl2, drop_cons hyl2, windroseref13_Right_l2]; rw [hTc3, LR.seq_go, if_t c62]
              have hM : windroseref13_Right_m a0 = false := by rw [windroseref13_Right_m, hTc1, LR.seq_go, if_f c30, hXl2, LR.on_ret]
              exact fin1L (v := .bool false) [] rfl rfl (List.Sublist.refl _) ⟨rfl, by first | rw [hM] | rfl⟩
            · refine T.set 62 (.bool false) (congrArg Value.bool c62) ?_
              have hZ62 := hTc3.trans c62
              try simp only [or_f, or_t, and_f, and_t, decide_eq_true_eq, decide_eq_false_iff_not, Bool.not_eq_true'] at hZ62
              refine T.skip (Post.blkN ?_)
              refine id (Post.thnN ?_)
              refine T.region ?_
              refine R.addI rfl rfl rfl (by omega) ?_
              refine R.mvE rfl (by conv => lhs; whnf) ?_
              refine TL.nil (Post.thnN ?_)
              exact ⟨kl2 + 1, (s_l2.trans (sb4_5.trans s_c3)), ⟨(by omega), Has.nil, (by rw [← hQl2, drop_cons hyl2, windroseref13_Right_l2]; rw [hTc3, LR.seq_go, if_f c62])⟩, by show a0.length - (kl2 + 1) < a0.length - kl2; omega, rfl, rfl, rfl, rfl, trivial⟩
        · refine T.exit (Post.thnE (Post.thnE (Post.blkX ?_)))
          have hEl2 : windroseref13_Right_l2 a0 a0 0 () = .go () := (hQl2.symm.trans (by rw [show kl2 = a0.length by omega, List.drop_length, windroseref13_Right_l2]))
          refine id (Post.thnN ?_)
          refine T.seq ?_
          refine T.region ?_
          refine R.asE rfl (by conv => lhs; whnf) ?_
          refine TL.nil (Post.thnN ?_)
          refine T.has Has.nil ?_
          refine T.ret ?_
          have hM : windroseref13_Right_m a0 = true := by rw [windroseref13_Right_m, hTc1, LR.seq_go, if_f c30, hEl2, LR.on_go]
          exact fin1L (v := .bool true) [] rfl rfl (List.Sublist.refl _) ⟨rfl, by first | rw [hM] | rfl⟩

def windroseref15_May_m (a0 : Int × Int) : Bool :=
  if ((windroseref01_Kind_m a0.2) : Int) = 3 then ((windroseref01_Is_m a0.1 1 1048578)) else false
set_option maxHeartbeats 3200000 in
theorem windroseref15_May_c (H : Heap) (a0 : Int × Int) : Fv Tryz.prog (fnv 58) [.agg #[.int .i64 a0.1, .int .u64 a0.2]] H (.bool (windroseref15_May_m a0)) := by
  refine Fc.of_body (N := 12) Tryz.func58 rfl (by kernel_rfl) rfl rfl ?_
  intro w0
  refine T.seq ?_
  refine T.region ?_
  refine R.box rfl (by conv => lhs; whnf) ?_
  intro b1
  refine R.asE rfl (by conv => lhs; whnf) ?_
  refine TL.shut .hd ?_
  intro Hb1_1 sb1_1 qb1_1
  have hb1_1 : Hb1_1 b1 = some (.cells #[.int .i64 (a0.1), .int .u64 (a0.2)] 50) := shut1 qb1_1
  refine TL.nil (Post.thnN ?_)
  refine T.seq ?_
  refine T.region ?_
  refine R.fldA Tryz.underlying50 rfl Tryz.sizeOf48 (by decide) rfl rfl ?_
  refine R.ldH Tryz.isAgg48 rfl rfl hb1_1 rfl ?_
  refine R.callv rfl rfl rfl (windroseref01_Kind_c _ (a0.2)) ?_
  refine R.eql rfl rfl rfl ?_
  refine R.mvE rfl (by conv => lhs; whnf) ?_
  refine TL.gsplitD 7 rfl (fun g7 => ?_) (fun g7 => ?_)
  · refine R.fldA Tryz.underlying50 rfl Tryz.sizeOf3 (by decide) rfl rfl ?_
    refine R.ldH Tryz.isAgg3 rfl rfl hb1_1 rfl ?_
    refine R.callv rfl rfl rfl (windroseref01_Is_c _ (a0.1) (1) (1048578)) ?_
    refine R.pkTE rfl rfl (by conv => lhs; whnf) ?_
    refine R.asE rfl (by conv => lhs; whnf) ?_
    refine TL.nil (Post.thnN ?_)
    refine T.has Has.nil ?_
    refine T.ret ?_
    have hM : windroseref15_May_m a0 = (windroseref01_Is_m a0.1 1 1048578) := by rw [windroseref15_May_m, if_pos g7]
    exact fin1L (v := .bool ((windroseref01_Is_m a0.1 1 1048578))) [] rfl rfl (List.Sublist.refl _) ⟨rfl, by first | rw [hM] | rfl⟩
  · refine TL.off rfl rfl rfl ?_
    refine TL.off rfl rfl rfl ?_
    refine TL.off rfl rfl rfl ?_
    refine R.pkFE rfl rfl (by conv => lhs; whnf) ?_
    refine R.asE rfl (by conv => lhs; whnf) ?_
    refine TL.nil (Post.thnN ?_)
    refine T.has Has.nil ?_
    refine T.ret ?_
    have hM : windroseref15_May_m a0 = false := by rw [windroseref15_May_m, if_neg g7]
    exact fin1L (v := .bool false) [] rfl rfl (List.Sublist.refl _) ⟨rfl, by first | rw [hM] | rfl⟩

def windroseref15_Ahead_m (a0 : Int × Int) (a1 : Int × Int) : Bool :=
  if a0.1 < a1.1 then true else (if a0.1 = a1.1 then ((decide (a0.2 < a1.2))) else false)
set_option maxHeartbeats 3200000 in
theorem windroseref15_Ahead_c (H : Heap) (a0 : Int × Int) (a1 : Int × Int) : Fv Tryz.prog (fnv 59) [.agg #[.int .i64 a0.1, .int .u64 a0.2], .agg #[.int .i64 a1.1, .int .u64 a1.2]] H (.bool (windroseref15_Ahead_m a0 a1)) := by
  refine Fc.of_body (N := 24) Tryz.func59 rfl (by kernel_rfl) rfl rfl ?_
  intro w0
  refine T.seq ?_
  refine T.region ?_
  refine R.box rfl (by conv => lhs; whnf) ?_
  intro b2
  refine R.box rfl (by conv => lhs; whnf) ?_
  intro b3
  refine R.asE rfl (by conv => lhs; whnf) ?_
  refine TL.shut .hd ?_
  intro Hb3_1 sb3_1 qb3_1
  have hb3_1 : Hb3_1 b3 = some (.cells #[.int .i64 (a1.1), .int .u64 (a1.2)] 50) := shut1 qb3_1
  refine TL.shut .hd ?_
  intro Hb2_2 sb2_2 qb2_2
  have hb2_2 : Hb2_2 b2 = some (.cells #[.int .i64 (a0.1), .int .u64 (a0.2)] 50) := shut1 qb2_2
  refine TL.nil (Post.thnN ?_)
  refine T.seq ?_
  refine T.region ?_
  refine R.fldA Tryz.underlying50 rfl Tryz.sizeOf3 (by decide) rfl rfl ?_
  refine R.ldH Tryz.isAgg3 rfl rfl hb2_2 rfl ?_
  refine R.fldA Tryz.underlying50 rfl Tryz.sizeOf3 (by decide) rfl rfl ?_
  refine R.ldH Tryz.isAgg3 rfl rfl (sb2_2 _ _ hb3_1) rfl ?_
  refine R.lss rfl rfl rfl ?_
  refine R.mvE rfl (by conv => lhs; whnf) ?_
  refine TL.gsplitD 10 rfl (fun g10 => ?_) (fun g10 => ?_)
  · refine TL.off rfl rfl rfl ?_
    refine TL.off rfl rfl rfl ?_
    refine TL.off rfl rfl rfl ?_
    refine TL.off rfl rfl rfl ?_
    refine TL.off rfl rfl rfl ?_
    refine TL.off rfl rfl rfl ?_
    refine TL.offU rfl rfl ?_
    refine TL.offU rfl rfl ?_
    refine TL.offU rfl rfl ?_
    refine TL.offU rfl rfl ?_
    refine TL.offU rfl rfl ?_
    refine TL.off rfl rfl rfl ?_
    refine R.pkTE rfl rfl (by conv => lhs; whnf) ?_
    refine R.asE rfl (by conv => lhs; whnf) ?_
    refine TL.nil (Post.thnN ?_)
    refine T.has Has.nil ?_
    refine T.ret ?_
    have hM : windroseref15_Ahead_m a0 a1 = true := by rw [windroseref15_Ahead_m, if_pos g10]
    exact fin1L (v := .bool true) [] rfl rfl (List.Sublist.refl _) ⟨rfl, by first | rw [hM] | rfl⟩
  · refine R.fldA Tryz.underlying50 rfl Tryz.sizeOf3 (by decide) rfl rfl ?_
    refine R.ldH Tryz.isAgg3 rfl rfl hb2_2 rfl ?_
    refine R.fldA Tryz.underlying50 rfl Tryz.sizeOf3 (by decide) rfl rfl ?_
    refine R.ldH Tryz.isAgg3 rfl rfl (sb2_2 _ _ hb3_1) rfl ?_
    refine R.eql rfl rfl rfl ?_
    refine R.mvE rfl (by conv => lhs; whnf) ?_
    refine TL.gsplitD 16 rfl (fun g16 => ?_) (fun g16 => ?_)
    · refine R.fldA Tryz.underlying50 rfl Tryz.sizeOf48 (by decide) rfl rfl ?_
      refine R.ldH Tryz.isAgg48 rfl rfl hb2_2 rfl ?_
      refine R.fldA Tryz.underlying50 rfl Tryz.sizeOf48 (by decide) rfl rfl ?_
      refine R.ldH Tryz.isAgg48 rfl rfl (sb2_2 _ _ hb3_1) rfl ?_
      refine R.lss rfl rfl rfl ?_
      refine R.pkTE rfl rfl (by conv => lhs; whnf) ?_
      refine R.pkFE rfl rfl (by conv => lhs; whnf) ?_
      refine R.asE rfl (by conv => lhs; whnf) ?_
      refine TL.nil (Post.thnN ?_)
      refine T.has Has.nil ?_
      refine T.ret ?_
      have hM : windroseref15_Ahead_m a0 a1 = (decide (a0.2 < a1.2)) := by rw [windroseref15_Ahead_m, if_neg g10, if_pos g16]
      exact fin1L (v := .bool (decide (a0.2 < a1.2))) [] rfl rfl (List.Sublist.refl _) ⟨rfl, by first | rw [hM] | rfl⟩
    · refine TL.off rfl rfl rfl ?_
      refine TL.off rfl rfl rfl ?_
      refine TL.off rfl rfl rfl ?_
      refine TL.off rfl rfl rfl ?_
      refine TL.off rfl rfl rfl ?_
      refine R.pkFE rfl rfl (by conv => lhs; whnf) ?_
      refine R.pkFE rfl rfl (by conv => lhs; whnf) ?_
      refine R.asE rfl (by conv => lhs; whnf) ?_
      refine TL.nil (Post.thnN ?_)
      refine T.has Has.nil ?_
      refine T.ret ?_
      have hM : windroseref15_Ahead_m a0 a1 = false := by rw [windroseref15_Ahead_m, if_neg g10, if_neg g16]
      exact fin1L (v := .bool false) [] rfl rfl (List.Sublist.refl _) ⟨rfl, by first | rw [hM] | rfl⟩

def windroseref20_Held_l1 (a0 : List (Int × (Bool × Bool × Int × Int × Int))) (a1 : List (Int × Int)) : List (Int × Int) → Nat → Unit → LR (Bool) (Unit)
  | [], kl1, sl1 => .go ()
  | yl1 :: ysl1, kl1, sl1 => LR.seq (if (!(windroseref15_May_m yl1)) = true then true else (if (0 : Int) < (kl1 : Int) then ((!(windroseref15_Ahead_m (a1.getD ((((kl1 : Int) - 1)).toNat) (((0, 0) : Int × Int) : Int × Int)) yl1))) else false) : Bool) (fun sc2 => if sc2 = true then (.ret false) else (LR.seq (windroseref13_Find_m a0 ((IntKind.i64.wrap (Int.tmod (IntKind.u64.wrap (Int.tdiv yl1.2 4294967296)) 1073741824)))) (fun r42 => if (!r42.2) = true then (.ret false) else (windroseref20_Held_l1 a0 a1 ysl1 (kl1 + 1) ()))))
def windroseref20_Held_m (a0 : List (Int × (Bool × Bool × Int × Int × Int))) (a1 : List (Int × Int)) : Bool :=
  LR.on (windroseref20_Held_l1 a0 a1 a1 0 ()) (fun r => r) (fun ol1 => true)
set_option maxHeartbeats 3200000 in
theorem windroseref20_Held_c (H : Heap) (va0 : Value) (a0 : List (Int × (Bool × Bool × Int × Int × Int))) (ha0 : RdS relationE H va0 a0) (va1 : Value) (a1 : List (Int × Int)) (ha1 : RdS heldE H va1 a1) : Fv Tryz.prog (fnv 27) [va0, va1] H (.bool (windroseref20_Held_m a0 a1)) := by
  refine Fc.of_body (N := 48) Tryz.func27 rfl (by kernel_rfl) rfl rfl ?_
  intro w0
  obtain ⟨Aa0, ca0, rfl, hca0, hda0, ha0⟩ := ha0.shape
  obtain ⟨Aa1, ca1, rfl, hca1, hda1, ha1⟩ := ha1.shape
  refine T.seq ?_
  refine T.region ?_
  refine R.asE rfl (by conv => lhs; whnf) ?_
  refine TL.nil (Post.thnN ?_)
  refine T.seq ?_
  refine T.seq ?_
  refine T.region ?_
  refine R.mvE rfl (by conv => lhs; whnf) ?_
  refine R.len Tryz.underlying23 rfl rfl ?_
  refine R.mvE rfl (by conv => lhs; whnf) ?_
  refine TL.nil (Post.thnN ?_)
  refine T.block ?_
  refine T.loop (ι := Nat) (fun kl1 H' L' ds' => kl1 ≤ a1.length ∧ Has L' [] ∧ windroseref20_Held_l1 a0 a1 (a1.drop kl1) kl1 () = windroseref20_Held_l1 a0 a1 a1 0 ()) (fun kl1 => [(12, .int .i64 (kl1 : Int)), (0, .slice Aa0 a0.length ca0), (1, .slice Aa1 a1.length ca1), (10, .slice Aa1 a1.length ca1), (11, .int .i64 (a1.length : Int))]) (fun kl1 => a1.length - kl1) 0 ?_ ?_ ?_
  · exact ⟨(by omega), Has.nil, (by rfl)⟩
  · exact ⟨rfl, rfl, rfl, rfl, rfl, trivial⟩
  · intro kl1 σ_l1 H_l1 L_l1 ds_l1 s_l1 hI_l1
    obtain ⟨hkl1, hI_l1⟩ := hI_l1
    obtain ⟨hLl1, hQl1⟩ := hI_l1
    refine T.has hLl1 ?_
    refine T.seq ?_
    refine T.region ?_
    refine R.lss rfl rfl rfl ?_
    refine TL.nil (Post.thnN ?_)
    refine T.seq ?_
    refine T.condD rfl (fun c13 => ?_) (fun c13 => ?_)
    · have hltl1 : kl1 < a1.length := by omega
      obtain ⟨yl1, hyl1⟩ := getk (xs := a1) (k := kl1) (by omega)
      refine T.skip (Post.thnN ?_)
      refine T.seq ?_
      refine T.block ?_
      refine T.seq ?_
      refine T.region ?_
      refine R.mvE rfl (by conv => lhs; whnf) ?_
      obtain ⟨b15, o15, i15, k15⟩ := RdS.elem (ha1.mono s_l1) hyl1
      obtain ⟨l15, g15, k15⟩ := k15
      obtain rfl : l15 = [.int .i64 (yl1.1), .int .u64 (yl1.2)] := g15
      refine R.ixp Tryz.underlying23 Tryz.sizeOf50 rfl rfl rfl (by omega) i15 ?_
      refine R.ldK (l := [.int .i64 (yl1.1), .int .u64 (yl1.2)]) Tryz.isAgg50 Tryz.sizeOf50 rfl rfl k15 rfl ?_
      refine R.alloc Tryz.zeroValue50 rfl ?_
      intro b6
      refine R.asE rfl (by conv => lhs; whnf) ?_
      refine R.stX (old := [.int .i64 0, .int .u64 0]) (l := [.int .i64 (yl1.1), .int .u64 (yl1.2)]) (new := [.int .i64 (yl1.1), .int .u64 (yl1.2)]) (et := 50) Tryz.sizeOf50 rfl rfl rfl rfl rfl (by show 0 + 2 ≤ 2; decide) rfl (all_one rfl) .hd ?_
      refine TL.shut .hd ?_
      intro Hb6_1 sb6_1 qb6_1
      have hb6_1 : Hb6_1 b6 = some (.cells #[.int .i64 (yl1.1), .int .u64 (yl1.2)] 50) := shut1 qb6_1
      refine TL.nil (Post.thnN ?_)
      refine T.seq ?_
      refine T.seq ?_
      refine T.cutK (ι := Bool) (fun b33c2 H' L' ds' => Has L' [] ∧ (if (!(windroseref15_May_m yl1)) = true then true else (if (0 : Int) < (kl1 : Int) then ((!(windroseref15_Ahead_m (a1.getD ((((kl1 : Int) - 1)).toNat) (((0, 0) : Int × Int) : Int × Int)) yl1))) else false) : Bool) = b33c2) (fun b33c2 => [(0, .slice Aa0 a0.length ca0), (1, .slice Aa1 a1.length ca1), (6, .pointer (some ⟨b6, 0, none⟩)), (10, .slice Aa1 a1.length ca1), (11, .int .i64 (a1.length : Int)), (12, .int .i64 (kl1 : Int)), (33, .bool (b33c2))]) ?_ ?_
      · refine T.draw Tryz_mixed (by kernel_rfl) ?_
        refine Plan.v 0 [1, 2, 3, 4, 5, 6, 7, 8, 9, 10, 11, 12, 13, 14, 15, 16] (by kernel_rfl) (by kernel_rfl) (by kernel_rfl) (by kernel_rfl) rfl (fun _ _ h_ => R.ldXH (cs := [.int .i64 (yl1.1), .int .u64 (yl1.2)]) (l := [.int .i64 (yl1.1), .int .u64 (yl1.2)]) Tryz.isAgg50 Tryz.sizeOf50 rfl rfl hb6_1 rfl rfl (TL.nil h_)) ?_
        refine Plan.v 1 [2, 3, 4, 5, 6, 7, 8, 9, 10, 11, 12, 13, 14, 15, 16] (by kernel_rfl) (by kernel_rfl) (by kernel_rfl) (by kernel_rfl) rfl (fun _ _ h_ => R.callv rfl rfl rfl (windroseref15_May_c _ yl1) (TL.nil h_)) ?_
        refine Plan.v 2 [3, 4, 5, 6, 7, 8, 9, 10, 11, 12, 13, 14, 15, 16] (by kernel_rfl) (by kernel_rfl) (by kernel_rfl) (by kernel_rfl) rfl (fun _ _ h_ => R.not rfl rfl (TL.nil h_)) ?_
        refine Plan.v 3 [4, 5, 6, 7, 8, 9, 10, 11, 12, 13, 14, 15, 16] (by kernel_rfl) (by kernel_rfl) (by kernel_rfl) (by kernel_rfl) rfl (fun _ _ h_ => R.mvE rfl (by conv => lhs; whnf) (TL.nil h_)) ?_
        refine Plan.gsplit 20 rfl (fun g20 => ?_) (fun g20 => ?_)
        · refine Plan.v 4 [5, 6, 7, 8, 9, 10, 11, 12, 13, 14, 15, 16] (by kernel_rfl) (by kernel_rfl) (by kernel_rfl) (by kernel_rfl) rfl (fun _ _ h_ => TL.off rfl rfl rfl (TL.nil h_)) ?_
          refine Plan.v 5 [6, 7, 8, 9, 10, 11, 12, 13, 14, 15, 16] (by kernel_rfl) (by kernel_rfl) (by kernel_rfl) (by kernel_rfl) rfl (fun _ _ h_ => TL.off rfl rfl rfl (TL.nil h_)) ?_
          refine Plan.v 6 [7, 8, 9, 10, 11, 12, 13, 14, 15, 16] (by kernel_rfl) (by kernel_rfl) (by kernel_rfl) (by kernel_rfl) rfl (fun _ _ h_ => TL.off rfl rfl rfl (TL.nil h_)) ?_
          refine Plan.v 7 [8, 9, 10, 11, 12, 13, 14, 15, 16] (by kernel_rfl) (by kernel_rfl) (by kernel_rfl) (by kernel_rfl) rfl (fun _ _ h_ => TL.offU rfl rfl (TL.nil h_)) ?_
          refine Plan.v 8 [9, 10, 11, 12, 13, 14, 15, 16] (by kernel_rfl) (by kernel_rfl) (by kernel_rfl) (by kernel_rfl) rfl (fun _ _ h_ => TL.offU rfl rfl (TL.nil h_)) ?_
          refine Plan.v 9 [10, 11, 12, 13, 14, 15, 16] (by kernel_rfl) (by kernel_rfl) (by kernel_rfl) (by kernel_rfl) rfl (fun _ _ h_ => TL.offU rfl rfl (TL.nil h_)) ?_
          refine Plan.v 10 [11, 12, 13, 14, 15, 16] (by kernel_rfl) (by kernel_rfl) (by kernel_rfl) (by kernel_rfl) rfl (fun _ _ h_ => TL.offU rfl rfl (TL.nil h_)) ?_
          refine Plan.v 11 [12, 13, 14, 15, 16] (by kernel_rfl) (by kernel_rfl) (by kernel_rfl) (by kernel_rfl) rfl (fun _ _ h_ => TL.offU rfl rfl (TL.nil h_)) ?_
          refine Plan.v 12 [13, 14, 15, 16] (by kernel_rfl) (by kernel_rfl) (by kernel_rfl) (by kernel_rfl) rfl (fun _ _ h_ => TL.offU rfl rfl (TL.nil h_)) ?_
          refine Plan.v 13 [14, 15, 16] (by kernel_rfl) (by kernel_rfl) (by kernel_rfl) (by kernel_rfl) rfl (fun _ _ h_ => TL.offU rfl rfl (TL.nil h_)) ?_
          refine Plan.v 14 [15, 16] (by kernel_rfl) (by kernel_rfl) (by kernel_rfl) (by kernel_rfl) rfl (fun _ _ h_ => TL.offU rfl rfl (TL.nil h_)) ?_
          refine Plan.v 15 [16] (by kernel_rfl) (by kernel_rfl) (by kernel_rfl) (by kernel_rfl) rfl (fun _ _ h_ => TL.off rfl rfl rfl (TL.nil h_)) ?_
          refine Plan.v 16 [] (by kernel_rfl) (by kernel_rfl) (by kernel_rfl) (by kernel_rfl) rfl (fun _ _ h_ => R.pkTE rfl rfl (by conv => lhs; whnf) (TL.nil h_)) ?_
          refine Plan.done (Post.thnN ?_)
          exact ⟨true, HLe.refl _, ⟨Has.nil, (by rw [if_t g20])⟩, rfl, rfl, rfl, rfl, rfl, rfl, rfl, trivial⟩
        · refine Plan.v 4 [5, 6, 7, 8, 9, 10, 11, 12, 13, 14, 15, 16] (by kernel_rfl) (by kernel_rfl) (by kernel_rfl) (by kernel_rfl) rfl (fun _ _ h_ => R.mvE rfl (by conv => lhs; whnf) (TL.nil h_)) ?_
          refine Plan.v 5 [6, 7, 8, 9, 10, 11, 12, 13, 14, 15, 16] (by kernel_rfl) (by kernel_rfl) (by kernel_rfl) (by kernel_rfl) rfl (fun _ _ h_ => R.gtr rfl rfl rfl (TL.nil h_)) ?_
          refine Plan.v 6 [7, 8, 9, 10, 11, 12, 13, 14, 15, 16] (by kernel_rfl) (by kernel_rfl) (by kernel_rfl) (by kernel_rfl) rfl (fun _ _ h_ => R.mvE rfl (by conv => lhs; whnf) (TL.nil h_)) ?_
          refine Plan.gsplitD 23 rfl (fun g23 => ?_) (fun g23 => ?_)
          · refine Plan.v 7 [8, 9, 10, 11, 12, 13, 14, 15, 16] (by kernel_rfl) (by kernel_rfl) (by kernel_rfl) (by kernel_rfl) rfl (fun _ _ h_ => R.mvE rfl (by conv => lhs; whnf) (TL.nil h_)) ?_
            refine Plan.v 8 [9, 10, 11, 12, 13, 14, 15, 16] (by kernel_rfl) (by kernel_rfl) (by kernel_rfl) (by kernel_rfl) rfl (fun _ _ h_ => R.mvE rfl (by conv => lhs; whnf) (TL.nil h_)) ?_
            refine Plan.v 9 [10, 11, 12, 13, 14, 15, 16] (by kernel_rfl) (by kernel_rfl) (by kernel_rfl) (by kernel_rfl) rfl (fun _ _ h_ => R.subI rfl rfl rfl (by omega) (TL.nil h_)) ?_
            have hl27 : (((kl1 : Int) - 1)).toNat < a1.length := by first | omega | (simp; done) | (simp; omega) | (simp at *; omega)
            obtain ⟨y27, e27, h27⟩ : ∃ y, y = (a1.getD ((((kl1 : Int) - 1)).toNat) (((0, 0) : Int × Int) : Int × Int)) ∧ a1[(((kl1 : Int) - 1)).toNat]? = some y := ⟨_, rfl, getD_get (by first | exact hl27 | simpa using hl27 | (rw [(sortI_perm _).length_eq]; exact hl27))⟩
            obtain ⟨b27, o27, i27, k27⟩ := RdS.elem (ha1.mono (s_l1.trans sb6_1)) h27
            obtain ⟨l27, g27, k27⟩ := k27
            obtain rfl : l27 = [.int .i64 (y27.1), .int .u64 (y27.2)] := g27
            refine Plan.v 10 [11, 12, 13, 14, 15, 16] (by kernel_rfl) (by kernel_rfl) (by kernel_rfl) (by kernel_rfl) rfl (fun _ _ h_ => R.ixp Tryz.underlying23 Tryz.sizeOf50 rfl rfl rfl (by first | omega | (simp; done) | (simp; omega) | (simp at *; omega)) i27 (TL.nil h_)) ?_
            refine Plan.v 11 [12, 13, 14, 15, 16] (by kernel_rfl) (by kernel_rfl) (by kernel_rfl) (by kernel_rfl) rfl (fun _ _ h_ => R.ldK (l := [.int .i64 (y27.1), .int .u64 (y27.2)]) Tryz.isAgg50 Tryz.sizeOf50 rfl rfl k27 rfl (TL.nil h_)) ?_
            refine Plan.v 12 [13, 14, 15, 16] (by kernel_rfl) (by kernel_rfl) (by kernel_rfl) (by kernel_rfl) rfl (fun _ _ h_ => R.ldXH (cs := [.int .i64 (yl1.1), .int .u64 (yl1.2)]) (l := [.int .i64 (yl1.1), .int .u64 (yl1.2)]) Tryz.isAgg50 Tryz.sizeOf50 rfl rfl hb6_1 rfl rfl (TL.nil h_)) ?_
            refine Plan.v 13 [14, 15, 16] (by kernel_rfl) (by kernel_rfl) (by kernel_rfl) (by kernel_rfl) rfl (fun _ _ h_ => R.callv rfl rfl rfl (windroseref15_Ahead_c _ y27 yl1) (TL.nil h_)) ?_
            refine Plan.v 14 [15, 16] (by kernel_rfl) (by kernel_rfl) (by kernel_rfl) (by kernel_rfl) rfl (fun _ _ h_ => R.not rfl rfl (TL.nil h_)) ?_
            refine Plan.v 15 [16] (by kernel_rfl) (by kernel_rfl) (by kernel_rfl) (by kernel_rfl) rfl (fun _ _ h_ => R.pkTE rfl rfl (by conv => lhs; whnf) (TL.nil h_)) ?_
            refine Plan.v 16 [] (by kernel_rfl) (by kernel_rfl) (by kernel_rfl) (by kernel_rfl) rfl (fun _ _ h_ => R.pkFE rfl rfl (by conv => lhs; whnf) (TL.nil h_)) ?_
            refine Plan.done (Post.thnN ?_)
            exact ⟨(!(windroseref15_Ahead_m y27 yl1)), HLe.refl _, ⟨Has.nil, (by subst e27; rw [if_f g20, if_pos g23])⟩, rfl, rfl, rfl, rfl, rfl, rfl, rfl, trivial⟩
          · refine Plan.v 7 [8, 9, 10, 11, 12, 13, 14, 15, 16] (by kernel_rfl) (by kernel_rfl) (by kernel_rfl) (by kernel_rfl) rfl (fun _ _ h_ => TL.off rfl rfl rfl (TL.nil h_)) ?_
            refine Plan.v 8 [9, 10, 11, 12, 13, 14, 15, 16] (by kernel_rfl) (by kernel_rfl) (by kernel_rfl) (by kernel_rfl) rfl (fun _ _ h_ => TL.off rfl rfl rfl (TL.nil h_)) ?_
            refine Plan.v 9 [10, 11, 12, 13, 14, 15, 16] (by kernel_rfl) (by kernel_rfl) (by kernel_rfl) (by kernel_rfl) rfl (fun _ _ h_ => TL.off rfl rfl rfl (TL.nil h_)) ?_
            refine Plan.v 10 [11, 12, 13, 14, 15, 16] (by kernel_rfl) (by kernel_rfl) (by kernel_rfl) (by kernel_rfl) rfl (fun _ _ h_ => TL.off rfl rfl rfl (TL.nil h_)) ?_
            refine Plan.v 11 [12, 13, 14, 15, 16] (by kernel_rfl) (by kernel_rfl) (by kernel_rfl) (by kernel_rfl) rfl (fun _ _ h_ => TL.off rfl rfl rfl (TL.nil h_)) ?_
            refine Plan.v 12 [13, 14, 15, 16] (by kernel_rfl) (by kernel_rfl) (by kernel_rfl) (by kernel_rfl) rfl (fun _ _ h_ => TL.off rfl rfl rfl (TL.nil h_)) ?_
            refine Plan.v 13 [14, 15, 16] (by kernel_rfl) (by kernel_rfl) (by kernel_rfl) (by kernel_rfl) rfl (fun _ _ h_ => TL.off rfl rfl rfl (TL.nil h_)) ?_
            refine Plan.v 14 [15, 16] (by kernel_rfl) (by kernel_rfl) (by kernel_rfl) (by kernel_rfl) rfl (fun _ _ h_ => TL.off rfl rfl rfl (TL.nil h_)) ?_
            refine Plan.v 15 [16] (by kernel_rfl) (by kernel_rfl) (by kernel_rfl) (by kernel_rfl) rfl (fun _ _ h_ => R.pkFE rfl rfl (by conv => lhs; whnf) (TL.nil h_)) ?_
            refine Plan.v 16 [] (by kernel_rfl) (by kernel_rfl) (by kernel_rfl) (by kernel_rfl) rfl (fun _ _ h_ => R.pkFE rfl rfl (by conv => lhs; whnf) (TL.nil h_)) ?_
            refine Plan.done (Post.thnN ?_)
            exact ⟨false, HLe.refl _, ⟨Has.nil, (by rw [if_f g20, if_neg g23])⟩, rfl, rfl, rfl, rfl, rfl, rfl, rfl, trivial⟩
      · intro b33c2 σ_c2 H_c2 L_c2 ds_c2 s_c2 hI_c2
        obtain ⟨hLc2, hTc2⟩ := hI_c2
        refine T.has hLc2 ?_
        refine T.cond rfl (fun c33 => ?_) (fun c33 => ?_)
        · refine T.set 33 (.bool true) (congrArg Value.bool c33) ?_
          have hZ33 := hTc2.trans c33
          try simp only [or_f, or_t, and_f, and_t, decide_eq_true_eq, decide_eq_false_iff_not, Bool.not_eq_true'] at hZ33
          refine T.seq ?_
          refine T.region ?_
          refine R.asE rfl (by conv => lhs; whnf) ?_
          refine TL.nil (Post.thnN ?_)
          refine T.has Has.nil ?_
          refine T.ret (Post.thnR (Post.blkR (Post.thnR (Post.thnR (Post.blkR (Post.thnR ?_))))))
          have hXl1 : windroseref20_Held_l1 a0 a1 a1 0 () = .ret false := by rw [← hQl1, drop_cons hyl1, windroseref20_Held_l1]; rw [hTc2, LR.seq_go, if_t c33]
          have hM : windroseref20_Held_m a0 a1 = false := by rw [windroseref20_Held_m, hXl1, LR.on_ret]
          exact fin1L (v := .bool false) [] rfl rfl (List.Sublist.refl _) ⟨rfl, by first | rw [hM] | rfl⟩
        · refine T.set 33 (.bool false) (congrArg Value.bool c33) ?_
          have hZ33 := hTc2.trans c33
          try simp only [or_f, or_t, and_f, and_t, decide_eq_true_eq, decide_eq_false_iff_not, Bool.not_eq_true'] at hZ33
          refine T.skip (Post.thnN ?_)
          refine T.seq ?_
          refine T.region ?_
          refine R.fldA Tryz.underlying50 rfl Tryz.sizeOf48 (by decide) rfl rfl ?_
          refine R.ldH Tryz.isAgg48 rfl rfl (s_c2 _ _ hb6_1) rfl ?_
          refine R.quo rfl rfl rfl (by omega) ?_
          refine R.rem rfl rfl rfl (by omega) ?_
          refine R.conv Tryz.underlying47 Tryz.underlying3 rfl rfl ?_
          refine R.asE rfl (by conv => lhs; whnf) ?_
          refine TL.nil (Post.thnN ?_)
          refine T.seq ?_
          refine T.region ?_
          refine R.mvE rfl (by conv => lhs; whnf) ?_
          refine R.mvE rfl (by conv => lhs; whnf) ?_
          obtain ⟨r42, er42⟩ : ∃ r, r = (windroseref13_Find_m a0 ((IntKind.i64.wrap (Int.tmod (IntKind.u64.wrap (Int.tdiv yl1.2 4294967296)) 1073741824)))) := ⟨_, rfl⟩
          refine R.callv (v := .tuple #[.agg #[.bool r42.1.1, .bool r42.1.2.1, .int .i64 r42.1.2.2.1, .int .i64 r42.1.2.2.2.1, .int .i64 r42.1.2.2.2.2], .bool r42.2]) rfl rfl rfl (by rw [er42]; exact windroseref13_Find_c _ _ a0 (ha0.mono (s_l1.trans (sb6_1.trans s_c2))) ((IntKind.i64.wrap (Int.tmod (IntKind.u64.wrap (Int.tdiv yl1.2 4294967296)) 1073741824)))) ?_
          refine R.mvE rfl (by conv => lhs; whnf) ?_
          refine R.ext rfl rfl rfl ?_
          refine R.ext rfl rfl rfl ?_
          refine R.alloc Tryz.zeroValue53 rfl ?_
          intro b8
          refine R.stX (old := [.bool false, .bool false, .int .i64 0, .int .i64 0, .int .i64 0]) (l := [.bool (r42.1.1), .bool (r42.1.2.1), .int .i64 (r42.1.2.2.1), .int .i64 (r42.1.2.2.2.1), .int .i64 (r42.1.2.2.2.2)]) (new := [.bool (r42.1.1), .bool (r42.1.2.1), .int .i64 (r42.1.2.2.1), .int .i64 (r42.1.2.2.2.1), .int .i64 (r42.1.2.2.2.2)]) (et := 53) Tryz.sizeOf53 rfl rfl rfl rfl rfl (by show 0 + 5 ≤ 5; decide) rfl (all_one rfl) .hd ?_
          refine R.asE rfl (by conv => lhs; whnf) ?_
          refine TL.shut .hd ?_
          intro Hb8_2 sb8_2 qb8_2
          have hb8_2 : Hb8_2 b8 = some (.cells #[.bool (r42.1.1), .bool (r42.1.2.1), .int .i64 (r42.1.2.2.1), .int .i64 (r42.1.2.2.2.1), .int .i64 (r42.1.2.2.2.2)] 53) := shut1 qb8_2
          refine TL.nil (Post.thnN ?_)
          refine T.seq ?_
          refine T.region ?_
          refine R.mvE rfl (by conv => lhs; whnf) ?_
          refine R.not rfl rfl ?_
          refine TL.nil (Post.thnN ?_)
          refine T.cond rfl (fun c46 => ?_) (fun c46 => ?_)
          · refine T.set 46 (.bool true) (congrArg Value.bool c46) ?_
            refine T.seq ?_
            refine T.region ?_
            refine R.asE rfl (by conv => lhs; whnf) ?_
            refine TL.nil (Post.thnN ?_)
            refine T.has Has.nil ?_
            refine T.ret (Post.blkR (Post.thnR (Post.thnR (Post.blkR (Post.thnR ?_)))))
            have hXl1 : windroseref20_Held_l1 a0 a1 a1 0 () = .ret false := by subst er42; rw [← hQl1, drop_cons hyl1, windroseref20_Held_l1]; rw [hTc2, LR.seq_go, if_f c33, LR.seq_go, if_t c46]
            have hM : windroseref20_Held_m a0 a1 = false := by rw [windroseref20_Held_m, hXl1, LR.on_ret]
            exact fin1L (v := .bool false) [] rfl rfl (List.Sublist.refl _) ⟨rfl, by first | rw [hM] | rfl⟩
          · refine T.set 46 (.bool false) (congrArg Value.bool c46) ?_
            refine T.skip (Post.blkN ?_)
            refine id (Post.thnN ?_)
            refine T.region ?_
            refine R.addI rfl rfl rfl (by omega) ?_
            refine R.mvE rfl (by conv => lhs; whnf) ?_
            refine TL.nil (Post.thnN ?_)
            exact ⟨kl1 + 1, (s_l1.trans (sb6_1.trans (s_c2.trans sb8_2))), ⟨(by omega), Has.nil, (by subst er42; rw [← hQl1, drop_cons hyl1, windroseref20_Held_l1]; rw [hTc2, LR.seq_go, if_f c33, LR.seq_go, if_f c46])⟩, by show a1.length - (kl1 + 1) < a1.length - kl1; omega, rfl, rfl, rfl, rfl, rfl, trivial⟩
    · refine T.exit (Post.thnE (Post.thnE (Post.blkX ?_)))
      have hEl1 : windroseref20_Held_l1 a0 a1 a1 0 () = .go () := (hQl1.symm.trans (by rw [show kl1 = a1.length by omega, List.drop_length, windroseref20_Held_l1]))
      refine id (Post.thnN ?_)
      refine T.seq ?_
      refine T.region ?_
      refine R.asE rfl (by conv => lhs; whnf) ?_
      refine TL.nil (Post.thnN ?_)
      refine T.has Has.nil ?_
      refine T.ret ?_
      have hM : windroseref20_Held_m a0 a1 = true := by rw [windroseref20_Held_m, hEl1, LR.on_go]
      exact fin1L (v := .bool true) [] rfl rfl (List.Sublist.refl _) ⟨rfl, by first | rw [hM] | rfl⟩

def windroseref20_Check_m (a0 : List (Int × (Bool × Bool × Int × Int × Int))) (a1 : List (Int × Int)) : Int :=
  if (!(windroseref13_Right_m a0)) = true then 230 else (if (!(windroseref20_Held_m a0 a1)) = true then 300 else 0)
set_option maxHeartbeats 3200000 in
theorem windroseref20_Check_c (H : Heap) (va0 : Value) (a0 : List (Int × (Bool × Bool × Int × Int × Int))) (ha0 : RdS relationE H va0 a0) (va1 : Value) (a1 : List (Int × Int)) (ha1 : RdS heldE H va1 a1) : Fv Tryz.prog (fnv 6) [va0, va1] H (.int .i64 (windroseref20_Check_m a0 a1)) := by
  refine Fc.of_body (N := 12) Tryz.func6 rfl (by kernel_rfl) rfl rfl ?_
  intro w0
  obtain ⟨Aa0, ca0, rfl, hca0, hda0, ha0⟩ := ha0.shape
  obtain ⟨Aa1, ca1, rfl, hca1, hda1, ha1⟩ := ha1.shape
  refine T.seq ?_
  refine T.region ?_
  refine R.asE rfl (by conv => lhs; whnf) ?_
  refine TL.nil (Post.thnN ?_)
  refine T.seq ?_
  refine T.seq ?_
  refine T.region ?_
  refine R.mvE rfl (by conv => lhs; whnf) ?_
  refine R.callv rfl rfl rfl (windroseref13_Right_c _ _ a0 ha0) ?_
  refine R.not rfl rfl ?_
  refine TL.nil (Post.thnN ?_)
  refine T.cond rfl (fun c7 => ?_) (fun c7 => ?_)
  · refine T.set 7 (.bool true) (congrArg Value.bool c7) ?_
    refine T.seq ?_
    refine T.region ?_
    refine R.asE rfl (by conv => lhs; whnf) ?_
    refine TL.nil (Post.thnN ?_)
    refine T.has Has.nil ?_
    refine T.ret (Post.thnR ?_)
    have hM : windroseref20_Check_m a0 a1 = 230 := by rw [windroseref20_Check_m, if_t c7]
    exact fin1L (v := .int .i64 230) [] rfl rfl (List.Sublist.refl _) ⟨rfl, by first | rw [hM] | rfl⟩
  · refine T.set 7 (.bool false) (congrArg Value.bool c7) ?_
    refine T.skip (Post.thnN ?_)
    refine T.seq ?_
    refine T.seq ?_
    refine T.region ?_
    refine R.mvE rfl (by conv => lhs; whnf) ?_
    refine R.mvE rfl (by conv => lhs; whnf) ?_
    refine R.callv rfl rfl rfl (windroseref20_Held_c _ _ a0 ha0 _ a1 ha1) ?_
    refine R.not rfl rfl ?_
    refine TL.nil (Post.thnN ?_)
    refine T.cond rfl (fun c11 => ?_) (fun c11 => ?_)
    · refine T.set 11 (.bool true) (congrArg Value.bool c11) ?_
      refine T.seq ?_
      refine T.region ?_
      refine R.asE rfl (by conv => lhs; whnf) ?_
      refine TL.nil (Post.thnN ?_)
      refine T.has Has.nil ?_
      refine T.ret (Post.thnR ?_)
      have hM : windroseref20_Check_m a0 a1 = 300 := by rw [windroseref20_Check_m, if_f c7, if_t c11]
      exact fin1L (v := .int .i64 300) [] rfl rfl (List.Sublist.refl _) ⟨rfl, by first | rw [hM] | rfl⟩
    · refine T.set 11 (.bool false) (congrArg Value.bool c11) ?_
      refine T.skip (Post.thnN ?_)
      refine T.seq ?_
      refine T.region ?_
      refine R.asE rfl (by conv => lhs; whnf) ?_
      refine TL.nil (Post.thnN ?_)
      refine T.has Has.nil ?_
      refine T.ret ?_
      have hM : windroseref20_Check_m a0 a1 = 0 := by rw [windroseref20_Check_m, if_f c7, if_f c11]
      exact fin1L (v := .int .i64 0) [] rfl rfl (List.Sublist.refl _) ⟨rfl, by first | rw [hM] | rfl⟩

def windroselaw20_small_l1  : List (Int × Int) → Nat → ((List (Int × Int))) → (List (Int × Int))
  | [], kl1, sl1 => sl1
  | yl1 :: ysl1, kl1, sl1 => LR.seq (ident_Pair_m yl1.1 yl1.2) (fun r31 => windroselaw20_small_l1 ysl1 (kl1 + 1) ((sl1 ++ [((5 + (kl1 : Int)), r31.1)])))
def windroselaw20_small_m  : (List (Int × (Bool × Bool × Int × Int × Int))) × (List (Int × Int)) :=
  LR.seq (windroselaw20_small_l1 ([((1, 4) : Int × Int), ((1, 5) : Int × Int), ((2, 5) : Int × Int), ((3, 6) : Int × Int)]) 0 []) (fun ol1 => ([((1, (true, true, 0, 1, 2)) : Int × (Bool × Bool × Int × Int × Int)), ((2, (true, false, 0, 0, 2)) : Int × (Bool × Bool × Int × Int × Int)), ((3, (false, false, 0, 2, 1)) : Int × (Bool × Bool × Int × Int × Int))], ol1))
set_option maxHeartbeats 3200000 in
theorem windroselaw20_small_c (H : Heap) : Fc Tryz.prog (fnv 23) [] H [] (fun v' H' L' => ∃ u0_0 u1_0 c0_0 c1_0, v' = .tuple #[u0_0, u1_0] ∧ L' = [c0_0, c1_0] ∧ OwnS relationE 55 H' u0_0 windroselaw20_small_m.1 c0_0 ∧ OwnS heldE 50 H' u1_0 windroselaw20_small_m.2 c1_0) := by
  refine Fc.of_body (N := 44) Tryz.func23 rfl (by kernel_rfl) rfl rfl ?_
  intro w0
  refine T.seq ?_
  refine T.region ?_
  refine R.asE rfl (by conv => lhs; whnf) ?_
  refine R.asE rfl (by conv => lhs; whnf) ?_
  refine TL.nil (Post.thnN ?_)
  refine T.seq ?_
  refine T.region ?_
  refine R.bld (cs := [.bool true, .bool true, .int .i64 0, .int .i64 1, .int .i64 2]) rfl (fun _ => by kernel_rfl) ?_
  refine R.bld (cs := [.int .i64 1, .bool true, .bool true, .int .i64 0, .int .i64 1, .int .i64 2]) rfl (fun _ => by kernel_rfl) ?_
  refine R.bld (cs := [.bool true, .bool false, .int .i64 0, .int .i64 0, .int .i64 2]) rfl (fun _ => by kernel_rfl) ?_
  refine R.bld (cs := [.int .i64 2, .bool true, .bool false, .int .i64 0, .int .i64 0, .int .i64 2]) rfl (fun _ => by kernel_rfl) ?_
  refine R.bld (cs := [.bool false, .bool false, .int .i64 0, .int .i64 2, .int .i64 1]) rfl (fun _ => by kernel_rfl) ?_
  refine R.bld (cs := [.int .i64 3, .bool false, .bool false, .int .i64 0, .int .i64 2, .int .i64 1]) rfl (fun _ => by kernel_rfl) ?_
  refine R.bs (e := 55) (cs := [.int .i64 1, .bool true, .bool true, .int .i64 0, .int .i64 1, .int .i64 2, .int .i64 2, .bool true, .bool false, .int .i64 0, .int .i64 0, .int .i64 2, .int .i64 3, .bool false, .bool false, .int .i64 0, .int .i64 2, .int .i64 1]) rfl (fun _ => by kernel_rfl) ?_
  intro b14
  have w14 : OwnS relationE 55 H (.slice (some ⟨b14, 0, none⟩) 3 3) [((1, (true, true, 0, 1, 2)) : Int × (Bool × Bool × Int × Int × Int)), ((2, (true, false, 0, 0, 2)) : Int × (Bool × Bool × Int × Int × Int)), ((3, (false, false, 0, 2, 1)) : Int × (Bool × Bool × Int × Int × Int))] [(b14, .cells #[.int .i64 1, .bool true, .bool true, .int .i64 0, .int .i64 1, .int .i64 2, .int .i64 2, .bool true, .bool false, .int .i64 0, .int .i64 0, .int .i64 2, .int .i64 3, .bool false, .bool false, .int .i64 0, .int .i64 2, .int .i64 1] 55)] := OwnS.lit (xs := [((1, (true, true, 0, 1, 2)) : Int × (Bool × Bool × Int × Int × Int)), ((2, (true, false, 0, 0, 2)) : Int × (Bool × Bool × Int × Int × Int)), ((3, (false, false, 0, 2, 1)) : Int × (Bool × Bool × Int × Int × Int))]) (cellsOf_cons (a := [.int .i64 1, .bool true, .bool true, .int .i64 0, .int .i64 1, .int .i64 2]) rfl (cellsOf_cons (a := [.int .i64 2, .bool true, .bool false, .int .i64 0, .int .i64 0, .int .i64 2]) rfl (cellsOf_cons (a := [.int .i64 3, .bool false, .bool false, .int .i64 0, .int .i64 2, .int .i64 1]) rfl cellsOf_nil))) (by show 3 ≤ maxLen; decide)
  refine R.asE rfl (by conv => lhs; whnf) ?_
  refine TL.nil (Post.thnN ?_)
  refine T.seq ?_
  refine T.region ?_
  refine R.asE rfl (by conv => lhs; whnf) ?_
  refine TL.nil (Post.thnN ?_)
  refine T.seq ?_
  refine T.seq ?_
  refine T.region ?_
  refine R.bld (cs := [.int .i64 1, .int .i64 4]) rfl (fun _ => by kernel_rfl) ?_
  refine R.bld (cs := [.int .i64 1, .int .i64 5]) rfl (fun _ => by kernel_rfl) ?_
  refine R.bld (cs := [.int .i64 2, .int .i64 5]) rfl (fun _ => by kernel_rfl) ?_
  refine R.bld (cs := [.int .i64 3, .int .i64 6]) rfl (fun _ => by kernel_rfl) ?_
  refine R.bs (e := 92) (cs := [.int .i64 1, .int .i64 4, .int .i64 1, .int .i64 5, .int .i64 2, .int .i64 5, .int .i64 3, .int .i64 6]) rfl (fun _ => by kernel_rfl) ?_
  intro b19
  have w19 : OwnS pairE 92 H (.slice (some ⟨b19, 0, none⟩) 4 4) [((1, 4) : Int × Int), ((1, 5) : Int × Int), ((2, 5) : Int × Int), ((3, 6) : Int × Int)] [(b19, .cells #[.int .i64 1, .int .i64 4, .int .i64 1, .int .i64 5, .int .i64 2, .int .i64 5, .int .i64 3, .int .i64 6] 92)] := OwnS.lit (xs := [((1, 4) : Int × Int), ((1, 5) : Int × Int), ((2, 5) : Int × Int), ((3, 6) : Int × Int)]) (cellsOf_cons (a := [.int .i64 1, .int .i64 4]) rfl (cellsOf_cons (a := [.int .i64 1, .int .i64 5]) rfl (cellsOf_cons (a := [.int .i64 2, .int .i64 5]) rfl (cellsOf_cons (a := [.int .i64 3, .int .i64 6]) rfl cellsOf_nil)))) (by show 4 ≤ maxLen; decide)
  refine R.len Tryz.underlying93 rfl rfl ?_
  refine R.mvE rfl (by conv => lhs; whnf) ?_
  refine TL.nil (Post.thnN ?_)
  refine T.block ?_
  refine T.shut .hd ?_
  intro HF19_1 sF19_1 qF19_1
  have fF19_1 := OwnS.read w19 sF19_1 qF19_1
  refine T.loop (ι := Nat × Value × (List (Int × Int)) × Chunk) (fun ⟨kl1, v3l1, x3l1, c3l1⟩ H' L' ds' => kl1 ≤ 4 ∧ Has L' [[(b14, .cells #[.int .i64 1, .bool true, .bool true, .int .i64 0, .int .i64 1, .int .i64 2, .int .i64 2, .bool true, .bool false, .int .i64 0, .int .i64 0, .int .i64 2, .int .i64 3, .bool false, .bool false, .int .i64 0, .int .i64 2, .int .i64 1] 55)], c3l1] ∧ OwnS heldE 50 H' v3l1 x3l1 c3l1 ∧ x3l1.length ≤ kl1 ∧ windroselaw20_small_l1 (([((1, 4) : Int × Int), ((1, 5) : Int × Int), ((2, 5) : Int × Int), ((3, 6) : Int × Int)]).drop kl1) kl1 x3l1 = windroselaw20_small_l1 ([((1, 4) : Int × Int), ((1, 5) : Int × Int), ((2, 5) : Int × Int), ((3, 6) : Int × Int)]) 0 []) (fun ⟨kl1, v3l1, x3l1, c3l1⟩ => [(21, .int .i64 (kl1 : Int)), (2, .slice (some ⟨b14, 0, none⟩) 3 3), (3, v3l1), (19, .slice (some ⟨b19, 0, none⟩) 4 4), (20, .int .i64 4)]) (fun ⟨kl1, v3l1, x3l1, c3l1⟩ => 4 - kl1) (0, .slice none 0 0, [], []) ?_ ?_ ?_
  · exact ⟨(by omega), (Has.cons .hd (Has.none Has.nil)), OwnS.nil, (by first | omega | (simp; done) | (simp; omega) | (simp at *; omega)), (by rfl)⟩
  · exact ⟨rfl, rfl, rfl, rfl, rfl, trivial⟩
  · intro ⟨kl1, v3l1, x3l1, c3l1⟩ σ_l1 H_l1 L_l1 ds_l1 s_l1 hI_l1
    obtain ⟨hkl1, hI_l1⟩ := hI_l1
    obtain ⟨hLl1, w3l1, hBl1_0, hQl1⟩ := hI_l1
    obtain ⟨A3l1, p3l1, rfl, m3l1, n3l1_⟩ := OwnS.shape w3l1
    refine T.has hLl1 ?_
    refine T.seq ?_
    refine T.region ?_
    refine R.lss rfl rfl rfl ?_
    refine TL.nil (Post.thnN ?_)
    refine T.seq ?_
    refine T.condD rfl (fun c22 => ?_) (fun c22 => ?_)
    · have hltl1 : kl1 < 4 := by omega
      obtain ⟨yl1, hyl1⟩ := getk (xs := [((1, 4) : Int × Int), ((1, 5) : Int × Int), ((2, 5) : Int × Int), ((3, 6) : Int × Int)]) (k := kl1) (by omega)
      refine T.skip (Post.thnN ?_)
      refine T.seq ?_
      refine T.block ?_
      refine T.seq ?_
      refine T.region ?_
      refine R.mvE rfl (by conv => lhs; whnf) ?_
      obtain ⟨b24, o24, i24, k24⟩ := RdS.elem (fF19_1.mono s_l1) hyl1
      obtain ⟨l24, g24, k24⟩ := k24
      obtain rfl : l24 = [.int .i64 (yl1.1), .int .i64 (yl1.2)] := g24
      refine R.ixp Tryz.underlying93 Tryz.sizeOf92 rfl rfl rfl (by omega) i24 ?_
      refine R.ldK (l := [.int .i64 (yl1.1), .int .i64 (yl1.2)]) Tryz.isAgg92 Tryz.sizeOf92 rfl rfl k24 rfl ?_
      refine R.alloc Tryz.zeroValue92 rfl ?_
      intro b5
      refine R.asE rfl (by conv => lhs; whnf) ?_
      refine R.stX (old := [.int .i64 0, .int .i64 0]) (l := [.int .i64 (yl1.1), .int .i64 (yl1.2)]) (new := [.int .i64 (yl1.1), .int .i64 (yl1.2)]) (et := 92) Tryz.sizeOf92 rfl rfl rfl rfl rfl (by show 0 + 2 ≤ 2; decide) rfl (all_one rfl) .hd ?_
      refine TL.shut .hd ?_
      intro Hb5_2 sb5_2 qb5_2
      have hb5_2 : Hb5_2 b5 = some (.cells #[.int .i64 (yl1.1), .int .i64 (yl1.2)] 92) := shut1 qb5_2
      refine TL.nil (Post.thnN ?_)
      refine T.seq ?_
      refine T.region ?_
      refine R.ixA Tryz.underlying92 Tryz.sizeOf3 rfl rfl rfl (by decide) (by decide) ?_
      refine R.ldH Tryz.isAgg3 rfl rfl hb5_2 rfl ?_
      refine R.ixA Tryz.underlying92 Tryz.sizeOf3 rfl rfl rfl (by decide) (by decide) ?_
      refine R.ldH Tryz.isAgg3 rfl rfl hb5_2 rfl ?_
      obtain ⟨r31, er31⟩ : ∃ r, r = (ident_Pair_m yl1.1 yl1.2) := ⟨_, rfl⟩
      refine R.callv (v := .tuple #[.int .u64 r31.1, .int .i64 r31.2]) rfl rfl rfl (by rw [er31]; exact ident_Pair_c _ (yl1.1) (yl1.2)) ?_
      refine R.mvE rfl (by conv => lhs; whnf) ?_
      refine R.ext rfl rfl rfl ?_
      refine R.ext rfl rfl rfl ?_
      refine R.asE rfl (by conv => lhs; whnf) ?_
      refine R.asE rfl (by conv => lhs; whnf) ?_
      refine TL.nil (Post.thnN ?_)
      refine T.region ?_
      refine R.mvE rfl (by conv => lhs; whnf) ?_
      refine R.mvE rfl (by conv => lhs; whnf) ?_
      refine R.addI rfl rfl rfl (by omega) ?_
      refine R.mvE rfl (by conv => lhs; whnf) ?_
      refine R.bld (cs := [.int .i64 (5 + (kl1 : Int)), .int .u64 (r31.1)]) rfl (fun _ => by kernel_rfl) ?_
      refine R.bs (e := 50) (cs := [.int .i64 (5 + (kl1 : Int)), .int .u64 (r31.1)]) rfl (fun _ => by kernel_rfl) ?_
      intro b39
      have w39 : OwnS heldE 50 Hb5_2 (.slice (some ⟨b39, 0, none⟩) 1 1) [((5 + (kl1 : Int)), r31.1)] [(b39, .cells #[.int .i64 (5 + (kl1 : Int)), .int .u64 (r31.1)] 50)] := OwnS.lit (xs := [((5 + (kl1 : Int)), r31.1)]) (cellsOf_cons (a := [.int .i64 (5 + (kl1 : Int)), .int .u64 (r31.1)]) rfl cellsOf_nil) (by show 1 ≤ maxLen; decide)
      obtain ⟨k40, y40, r40⟩ := Src.ownA w39
      refine R.app (E := heldE) (e := 50) (xs := x3l1) (ys := [((5 + (kl1 : Int)), r31.1)]) Tryz_ty23 rfl rfl rfl (OwnS.mono w3l1 sb5_2) (.tl (.tl .hd)) (r40 _ .hd) y40 (by (try simp only [List.length_append, List.length_cons, List.length_nil, List.length_replicate, List.length_take, List.length_drop]); omega) (by (try simp only [List.length_append, List.length_cons, List.length_nil, List.length_replicate, List.length_take, List.length_drop]); omega) ?_
      intro v40 c40 w40
      obtain ⟨A40, p40, rfl, m40, n40⟩ := OwnS.shape w40
      refine TL.del (.tl .hd) ?_
      refine R.asE rfl (by conv => lhs; whnf) ?_
      refine TL.nil (Post.blkN ?_)
      refine id (Post.thnN ?_)
      refine T.region ?_
      refine R.addI rfl rfl rfl (by omega) ?_
      refine R.mvE rfl (by conv => lhs; whnf) ?_
      refine TL.nil (Post.thnN ?_)
      exact ⟨(kl1 + 1, .slice A40 (x3l1 ++ [((5 + (kl1 : Int)), r31.1)]).length p40, (x3l1 ++ [((5 + (kl1 : Int)), r31.1)]), c40), (s_l1.trans sb5_2), ⟨(by omega), (Has.cons (.tl .hd) (Has.cons .hd Has.nil)), w40, (by first | omega | (simp; done) | (simp; omega) | (simp at *; omega)), (by subst er31; rw [← hQl1, drop_cons hyl1, windroselaw20_small_l1]; rw [LR.seq_go])⟩, by show 4 - (kl1 + 1) < 4 - kl1; omega, rfl, rfl, rfl, rfl, rfl, trivial⟩
    · refine T.exit (Post.thnE (Post.thnE (Post.blkX ?_)))
      have hEl1 : windroselaw20_small_l1 ([((1, 4) : Int × Int), ((1, 5) : Int × Int), ((2, 5) : Int × Int), ((3, 6) : Int × Int)]) 0 [] = x3l1 := (hQl1.symm.trans (by rw [show List.drop kl1 ([((1, 4) : Int × Int), ((1, 5) : Int × Int), ((2, 5) : Int × Int), ((3, 6) : Int × Int)]) = [] from List.drop_eq_nil_iff.2 (by simp; omega), windroselaw20_small_l1]))
      refine id (Post.thnN ?_)
      refine T.seq ?_
      refine T.region ?_
      refine R.mvE rfl (by conv => lhs; whnf) ?_
      refine R.mvE rfl (by conv => lhs; whnf) ?_
      refine R.asE rfl (by conv => lhs; whnf) ?_
      refine R.asE rfl (by conv => lhs; whnf) ?_
      refine TL.nil (Post.thnN ?_)
      refine T.has (Has.cons .hd (Has.cons .hd Has.nil)) ?_
      refine T.ret ?_
      have hM : windroselaw20_small_m = ([((1, (true, true, 0, 1, 2)) : Int × (Bool × Bool × Int × Int × Int)), ((2, (true, false, 0, 0, 2)) : Int × (Bool × Bool × Int × Int × Int)), ((3, (false, false, 0, 2, 1)) : Int × (Bool × Bool × Int × Int × Int))], x3l1) := by rw [windroselaw20_small_m, hEl1, LR.seq_go]
      exact fin2L (v := .slice (some ⟨b14, 0, none⟩) 3 3) (v' := .slice A3l1 x3l1.length p3l1) [[(b14, .cells #[.int .i64 1, .bool true, .bool true, .int .i64 0, .int .i64 1, .int .i64 2, .int .i64 2, .bool true, .bool false, .int .i64 0, .int .i64 0, .int .i64 2, .int .i64 3, .bool false, .bool false, .int .i64 0, .int .i64 2, .int .i64 1] 55)], c3l1] rfl rfl rfl (List.Sublist.refl _) ⟨.slice (some ⟨b14, 0, none⟩) 3 3, .slice A3l1 x3l1.length p3l1, [(b14, .cells #[.int .i64 1, .bool true, .bool true, .int .i64 0, .int .i64 1, .int .i64 2, .int .i64 2, .bool true, .bool false, .int .i64 0, .int .i64 0, .int .i64 2, .int .i64 3, .bool false, .bool false, .int .i64 0, .int .i64 2, .int .i64 1] 55)], c3l1, by first | rw [hM] | rfl, rfl, by rw [hM]; exact (OwnS.mono w14 (sF19_1.trans s_l1)), by rw [hM]; exact w3l1⟩

end Go.SX

set_option linter.unusedVariables false
set_option linter.unusedSimpArgs false
namespace Go.SX
open Go
attribute [local semireducible] T TL
def mset {α : Type} (f : Int → List α) (k : Int) (xs : List α) : Int → List α := fun j => if j = k then xs else f j
/-- The map at b, its rows, and what lies in them. -/
def MapO {α : Type} (E : ER α) (e : TypeId) (ik : IntKind) (H : Heap) (b : Nat) (f : Int → List α) (C : Chunk) : Prop :=
  ∃ es ck m rows, C = (b, .map es ck) :: (List.flatten rows) ∧ MapIs ik es m ∧ F2 E e H f m rows ∧ (m.map Prod.fst).Nodup ∧ ∀ j, j ∉ m.map Prod.fst → f j = []
/-- The same while the row of k is taken out. -/
def MapT {α : Type} (E : ER α) (e : TypeId) (ik : IntKind) (H : Heap) (b : Nat) (f : Int → List α) (k : Int) (mc R : Chunk) : Prop :=
  ∃ es ck m, mc = [(b, .map es ck)] ∧ MapIs ik es m ∧ ∀ H' v' xs' c', HLe H H' → OwnS E e H' v' xs' c' → ∀ es' ck', MapIs ik es' (mput m k v') → ∃ C', ((b, Obj.map es' ck') :: (c' ++ R)).Perm C' ∧ MapO E e ik H' b (mset f k xs') C'
theorem MapO.nil {α : Type} {E : ER α} {e : TypeId} {ik : IntKind} {H : Heap} {b : Nat} : MapO E e ik H b (fun _ => []) [(b, .map #[] 0)] :=
  ⟨#[], 0, [], [], rfl, rfl, trivial, List.nodup_nil, fun _ _ => rfl⟩
theorem MapO.mono {α : Type} {E : ER α} {e : TypeId} {ik : IntKind} {H H' : Heap} {b : Nat} {f : Int → List α} {C : Chunk} (h : MapO E e ik H b f C) (hl : HLe H H') : MapO E e ik H' b f C := by
  obtain ⟨es, ck, m, rows, h1, h2, h3, h4, h5⟩ := h
  exact ⟨es, ck, m, rows, h1, h2, h3.mono hl, h4, h5⟩
theorem MapO.read {α : Type} {E : ER α} {e : TypeId} {ik : IntKind} {H H' : Heap} {b : Nat} {f : Int → List α} {C : Chunk} (h : MapO E e ik H b f C) (hl : HLe H H') (hq : ∀ q ∈ C, H' q.1 = some q.2) : MrR E ik H' b f := by
  obtain ⟨es, ck, m, rows, rfl, h2, h3, h4, h5⟩ := h
  exact ⟨es, ck, m, hq _ (List.mem_cons_self ..), h2, fun j => F2.read j h3 hl (fun q hm => hq q (List.mem_cons_of_mem _ hm)) (h5 j)⟩
theorem MapO.take {α : Type} {E : ER α} {e : TypeId} {ik : IntKind} {H : Heap} {b : Nat} {f : Int → List α} {C : Chunk} (h : MapO E e ik H b f C) (k : Int) :
    ∃ es ck m cr R, C.Perm (cr ++ ((b, .map es ck) :: R)) ∧ MapIs ik es m ∧ OwnS E e H ((mget m k).getD (.slice none 0 0)) (f k) cr ∧ MapT E e ik H b f k [(b, .map es ck)] R := by
  obtain ⟨es, ck, m, rows, rfl, h2, h3, h4, h5⟩ := h
  obtain ⟨cr, RR, hp, ho, hput⟩ := F2.take k h3 h4 (h5 k)
  refine ⟨es, ck, m, cr, RR.flatten, ?_, h2, ho, es, ck, m, rfl, h2, fun H' v' xs' c' hl ho' es' ck' hi' => ?_⟩
  · rw [List.flatten_cons] at hp
    exact (hp.cons _).trans List.perm_middle.symm
  · obtain ⟨rows', h6, h7⟩ := hput H' v' c' xs' hl ho'
    rw [List.flatten_cons] at h7
    refine ⟨(b, .map es' ck') :: rows'.flatten, h7.cons _, es', ck', mput m k v', rows', rfl, hi', h6, mput_nodup _ _ _ h4, fun j hj => ?_⟩
    have hj' : j ≠ k ∧ j ∉ m.map Prod.fst := ⟨fun e' => hj ((mput_keys _ _ _ _).2 (.inl e')), fun e' => hj ((mput_keys _ _ _ _).2 (.inr e'))⟩
    show (if j = k then xs' else f j) = []
    rw [if_neg hj'.1]; exact h5 j hj'.2
section
variable {fr : Fr} {x : Cx} {Q : Post} {σ : Env} {H : Heap} {L : Own} {ds : List Nat} {ol rest : List Oper}
variable {d : Nat} {ty : TypeId} {p : String} {af : Array Edge} {g : Option (Nat × Bool)}
theorem R.mkmO {α : Type} (E : ER α) (e : TypeId) (ik : IntKind) {t : TypeId} (hw : wan fr.N ol σ d g = true) (h : ∀ b, MapO E e ik H b (fun _ => []) [(b, .map #[] 0)] → TL fr x ol rest Q (upd σ d (.map (some b))) H ([(b, .map #[] 0)] :: L) ds) :
    TL fr x ol (⟨some d, .makeMap t none, ty, p, af, g⟩ :: rest) Q σ H L ds := R.mkm hw (fun b => h b MapO.nil)
theorem R.lkuO {α : Type} {E : ER α} {e : TypeId} {t kt et : TypeId} {M K : Operand} {b : Nat} {f : Int → List α} {C : Chunk} {ik : IntKind} {k : Int} {R0 : Own} (hm : fr.P.underlying t = some (.map kt et)) (hk : fr.P.underlying kt = some (.int ik)) (hz : ∀ w, (zeroValue et).run fr.P w = .ok (.slice none 0 0) w)
    (hw : wan fr.N ol σ d g = true) (hM : ev σ M = .map (some b)) (hK : ev σ K = .int ik k) (hdel : Del L C R0) (hi : MapO E e ik H b f C)
    (h : ∀ v cr mc RR, OwnS E e H v (f k) cr → MapT E e ik H b f k mc RR → TL fr x ol rest Q (upd σ d v) H (cr :: mc :: RR :: R0) ds) : TL fr x ol (⟨some d, .lookup t M K false, ty, p, af, g⟩ :: rest) Q σ H L ds := by
  obtain ⟨es, ck, m, cr, RR, hp, hi2, ho, ht⟩ := hi.take k
  refine TL.permL (L' := cr :: [(b, .map es ck)] :: RR :: R0) ?_ (R.lku hm hk hz hw hM hK (.tl .hd) hi2 (h _ cr _ RR ho ht))
  refine hdel.perm.trans ((hp.append_right _).trans ?_)
  simp
theorem R.mupO {α : Type} {E : ER α} {e : TypeId} {t kt et : TypeId} {M K X : Operand} {H0 : Heap} {b : Nat} {f : Int → List α} {ik : IntKind} {k : Int} {v : Value} {xs : List α} {c mc RR : Chunk} {L1 L2 R0 : Own} (hm : fr.P.underlying t = some (.map kt et)) (hk : fr.P.underlying kt = some (.int ik))
    (hw : wants ol σ g = true) (hM : ev σ M = .map (some b)) (hK : ev σ K = .int ik k) (hX : ev σ X = v) (ht : MapT E e ik H0 b f k mc RR) (hl : HLe H0 H) (ho : OwnS E e H v xs c) (d1 : Del L c L1) (d2 : Del L1 mc L2) (d3 : Del L2 RR R0)
    (h : ∀ C', MapO E e ik H b (mset f k xs) C' → TL fr x ol rest Q σ H (C' :: R0) ds) : TL fr x ol (⟨none, .mapUpdate t M K X, ty, p, af, g⟩ :: rest) Q σ H L ds := by
  obtain ⟨es, ck, m, rfl, hi, hput⟩ := ht
  refine TL.permL (L' := [(b, .map es ck)] :: c :: RR :: R0) ?_ (R.mup hm hk hw hM hK hX .hd hi (fun es' ck' hi' => ?_))
  · have e1 := d1.perm
    have e2 := d2.perm
    have e3 := d3.perm
    refine e1.trans ((e2.append_left c).trans ?_)
    rw [List.flatten_cons, List.flatten_cons, List.flatten_cons]
    have e4 : (c ++ ([(b, Obj.map es ck)] ++ L2.flatten)).Perm ([(b, Obj.map es ck)] ++ (c ++ L2.flatten)) := by
      rw [← List.append_assoc, ← List.append_assoc]; exact List.perm_append_comm.append_right _
    exact e4.trans ((e3.append_left c).append_left _)
  · obtain ⟨C', hp, hO⟩ := hput H v xs c hl ho es' ck' hi'
    refine TL.permL (L' := C' :: R0) ?_ (h C' hO)
    refine List.Perm.trans ?_ (hp.append_right _)
    simp
end
end Go.SX

set_option linter.unusedVariables false
set_option linter.unusedSimpArgs false
namespace Go.SX
open Go
abbrev Hd := Int × Int
/-- whom a pair mentions, and by which policies -/
def mentL (l : List Rl) (h : Hd) : List (Int × Int) := ((cmp2 [(ident_Parts_m h.2).1, (ident_Parts_m h.2).2]).filter (fun n => (trait_Policy_m l h.2 n).2)).map (fun n => (n, (trait_Policy_m l h.2 n).1))
theorem ment_l2 (l : List Rl) (h : Hd) : ∀ (xs : List Int) (acc : List (Int × Int)), plan_mentions_1_l2 l h xs acc = acc ++ (xs.filter (fun n => (trait_Policy_m l h.2 n).2)).map (fun n => (n, (trait_Policy_m l h.2 n).1))
  | [], acc => by simp [plan_mentions_1_l2]
  | y :: ys, acc => by
    rw [plan_mentions_1_l2, List.filter_cons]
    cases c : (trait_Policy_m l h.2 y).2 with
    | true => rw [if_pos rfl, if_pos rfl, ment_l2 l h ys]; simp
    | false => rw [if_neg Bool.false_ne_true, if_neg Bool.false_ne_true, ment_l2 l h ys]
theorem ment_l1 (l : List Rl) : ∀ (xs : List Hd), plan_mentions_1_l1 l xs () = xs.map (fun h => (h, mentL l h))
  | [] => rfl
  | y :: ys => by
    rw [plan_mentions_1_l1, LR.seq_go, ment_l1 l ys, ment_l2, List.nil_append]; rfl
theorem ment_eq (l : List Rl) (xs : List Hd) : plan_mentions_m l xs = xs.map (fun h => (h, mentL l h)) := by
  unfold plan_mentions_m plan_mentions_1_m
  rw [ment_l1, List.append_nil]
theorem mentL_len (l : List Rl) (h : Hd) : (mentL l h).length ≤ 2 := by
  unfold mentL
  rw [List.length_map]
  refine Nat.le_trans (List.length_filter_le _ _) (Nat.le_trans (compact_len _) (by simp))
theorem ment_fact (l : List Rl) (xs : List Hd) (r : List (Hd × List (Int × Int))) (e : r = plan_mentions_m l xs) : r.length = xs.length ∧ ∀ y ∈ r, y.2.length ≤ 2 := by
  subst e
  rw [ment_eq]
  refine ⟨List.length_map .., fun y hy => ?_⟩
  obtain ⟨h, _, rfl⟩ := List.mem_map.1 hy
  exact mentL_len l h
theorem mset_len {f : Int → List Hd} {B : Nat} (h : ∀ k, (f k).length ≤ B) (k : Int) (x : Hd) : ∀ j, (mset f k (f k ++ [x]) j).length ≤ B + 1 := by
  intro j
  unfold mset
  split
  · rw [List.length_append]; have := h k; simp; omega
  · have := h j; omega
end Go.SX

set_option linter.unusedVariables false
set_option linter.unusedSimpArgs false
namespace Go.SX
open Go Go.Proofs

def plan_killers_l2 (yr1 : (Int × Int) × (List (Int × Int))) : List (Int × Int) → ((Int → List (Int × Int))) → (Int → List (Int × Int))
  | [], sl2 => sl2
  | yl2 :: ysl2, sl2 => if yl2.2 = 1 then (plan_killers_l2 yr1 ysl2 ((mset sl2 yl2.1 (((sl2 yl2.1) ++ [yr1.1]))))) else (plan_killers_l2 yr1 ysl2 sl2)
def plan_killers_r1  : List ((Int × Int) × (List (Int × Int))) → ((Int → List (Int × Int))) → (Int → List (Int × Int))
  | [], sr1 => sr1
  | yr1 :: ysr1, sr1 => LR.seq (plan_killers_l2 yr1 yr1.2 sr1) (fun ol2 => plan_killers_r1 ysr1 ol2)
def plan_killers_m (a0 : List (Int × (Bool × Bool × Int × Int × Int))) (a1 : List (Int × Int)) : (Int → List (Int × Int)) :=
  LR.seq (plan_mentions_m a0 a1) (fun r13 => LR.seq (plan_killers_r1 r13 (((fun _ => []) : Int → List (Int × Int)))) (fun or1 => or1))
set_option maxHeartbeats 3200000 in
theorem plan_killers_c (H : Heap) {tG0 : TypeId} (hG0 : H 0 = some (.cells #[.int .i64 1, .bool true, .bool true, .int .i64 0, .int .i64 1, .int .i64 2, .int .i64 2, .bool true, .bool false, .int .i64 0, .int .i64 0, .int .i64 2] tG0)) (va0 : Value) (a0 : List (Int × (Bool × Bool × Int × Int × Int))) (ha0 : RdS relationE H va0 a0) (va1 : Value) (a1 : List (Int × Int)) (ha1 : RdS heldE H va1 a1) (hl : a0.length ≤ 2000000) (hl2 : a1.length ≤ 2000000) : Fp Tryz.prog (fnv 37) [va0, va1] H (fun v' H' => ∃ u0_0, v' = .map (some u0_0) ∧ MrR heldE .i64 H' u0_0 (plan_killers_m a0 a1)) := by
  refine Fc.of_body (N := 37) Tryz.func37 rfl (by kernel_rfl) rfl rfl ?_
  intro w0
  obtain ⟨Aa0, ca0, rfl, hca0, hda0, ha0⟩ := ha0.shape
  obtain ⟨Aa1, ca1, rfl, hca1, hda1, ha1⟩ := ha1.shape
  refine T.seq ?_
  refine T.region ?_
  refine R.asE rfl (by conv => lhs; whnf) ?_
  refine TL.nil (Post.thnN ?_)
  refine T.seq ?_
  refine T.region ?_
  refine R.mkmO heldE 50 .i64 rfl ?_
  intro b10 w10
  refine R.alloc Tryz.zeroValue75 rfl ?_
  intro b5
  refine R.stX (old := [.map none]) (l := [.map (some b10)]) (new := [.map (some b10)]) (et := 75) Tryz.sizeOf75 rfl rfl rfl (cells1 rfl) rfl (by show 0 + 1 ≤ 1; decide) rfl (all_one rfl) .hd ?_
  refine TL.shut .hd ?_
  intro Hb5_1 sb5_1 qb5_1
  have hb5_1 : Hb5_1 b5 = some (.cells #[.map (some b10)] 75) := shut1 qb5_1
  refine TL.nil (Post.thnN ?_)
  refine T.seq ?_
  refine T.seq ?_
  refine T.region ?_
  refine R.mvE rfl (by conv => lhs; whnf) ?_
  refine R.mvE rfl (by conv => lhs; whnf) ?_
  obtain ⟨r13, er13⟩ : ∃ r, r = (plan_mentions_m a0 a1) := ⟨_, rfl⟩
  refine R.callp rfl rfl rfl (plan_mentions_c _ (sb5_1 _ _ hG0) _ a0 (ha0.mono sb5_1) _ a1 (ha1.mono sb5_1) (by first | omega | (simp; done) | (simp; omega) | (simp at *; omega))) ?_
  intro v13 H13 s13 q13
  rw [← er13] at q13
  obtain ⟨u13_0_0, rfl, w13_0_0⟩ := q13
  have tm13 := ment_fact _ _ _ er13
  refine TL.nil (Post.thnN ?_)
  refine T.block ?_
  refine T.rangeFunc (xs := r13) rfl rfl (enters_of Tryz.func80 (by kernel_rfl) rfl) w13_0_0 (fun _ _ _ h => by obtain ⟨_, rfl, _⟩ := h; rfl) rfl (fun pre H' L' => ∃ (xM10r1 : Int → List (Int × Int)) (cM10r1 : Chunk), Has L' [cM10r1] ∧ MapO heldE 50 .i64 H' b10 xM10r1 cM10r1 ∧ (∀ k, (xM10r1 k).length ≤ 2 * pre.length) ∧ plan_killers_r1 (r13.drop pre.length) xM10r1 = plan_killers_r1 r13 (((fun _ => []) : Int → List (Int × Int)))) (fun _ _ _ _ => False) (fun pre H H' L hle ⟨xM10r1, cM10r1, hL, wM10r1, hB0, hQ⟩ => ⟨xM10r1, cM10r1, hL, (wM10r1.mono hle), hB0, hQ⟩) (fun _ _ _ _ _ _ h => h) ?_ ?_ ?_ ?_
  · exact ⟨((fun _ => []) : Int → List (Int × Int)), [(b10, .map #[] 0)], (Has.cons .hd Has.nil), (w10.mono (sb5_1.trans s13)), (by intro k; simp), (by rfl)⟩
  · intro lr1 rr1 wr1 prer1 yr1 vsr1 Hr1 Lr1 sr1 hpr1 hIr1 hYr1
    obtain ⟨xM10r1, cM10r1, hLr1, wM10r1, hBr1_0, hQr1⟩ := hIr1
    obtain ⟨zYr1_1_0, rfl, rYr1_1_0⟩ := hYr1
    obtain ⟨AYr1_1_0, pYr1_1_0, rfl, mYr1_1_0, nYr1_1_0, rYr1_1_0⟩ := rYr1_1_0.shape
    refine T.has hLr1 ?_
    have hlpr1 : prer1.length + 1 ≤ r13.length := by have h0 := hpr1.length_le; simpa using h0
    have hy2 : yr1.2.length ≤ 2 := tm13.2 yr1 (hpr1.subset (by simp))
    refine T.seq ?_
    refine T.region ?_
    refine R.alloc Tryz.zeroValue50 rfl ?_
    intro b6
    refine R.stX (old := [.int .i64 0, .int .u64 0]) (l := [.int .i64 (yr1.1.1), .int .u64 (yr1.1.2)]) (new := [.int .i64 (yr1.1.1), .int .u64 (yr1.1.2)]) (et := 50) Tryz.sizeOf50 rfl rfl rfl rfl rfl (by show 0 + 2 ≤ 2; decide) rfl (all_one rfl) .hd ?_
    refine TL.shut .hd ?_
    intro Hb6_2 sb6_2 qb6_2
    have hb6_2 : Hb6_2 b6 = some (.cells #[.int .i64 (yr1.1.1), .int .u64 (yr1.1.2)] 50) := shut1 qb6_2
    refine TL.nil (Post.thnN ?_)
    refine T.region ?_
    refine R.asE rfl (by conv => lhs; whnf) ?_
    refine TL.nil ?_
    refine onlyN.mk ?_
    refine T.block ?_
    refine T.seq ?_
    refine T.region ?_
    refine R.mvE rfl (by conv => lhs; whnf) ?_
    refine R.len Tryz.underlying81 rfl rfl ?_
    refine R.mvE rfl (by conv => lhs; whnf) ?_
    refine TL.nil (Post.thnN ?_)
    refine T.block ?_
    refine T.loop (ι := Nat × (Int → List (Int × Int)) × Chunk) (fun ⟨kl2, xM10l2, cM10l2⟩ H' L' ds' => kl2 ≤ yr1.2.length ∧ Has L' [cM10l2] ∧ MapO heldE 50 .i64 H' b10 xM10l2 cM10l2 ∧ (∀ k, (xM10l2 k).length ≤ 2 * prer1.length + kl2) ∧ plan_killers_l2 yr1 (yr1.2.drop kl2) xM10l2 = plan_killers_l2 yr1 yr1.2 xM10r1) (fun ⟨kl2, xM10l2, cM10l2⟩ => [(18, .int .i64 (kl2 : Int)), (5, .pointer (some ⟨b5, 0, none⟩)), (6, .pointer (some ⟨b6, 0, none⟩)), (16, .slice AYr1_1_0 yr1.2.length pYr1_1_0), (17, .int .i64 (yr1.2.length : Int))]) (fun ⟨kl2, xM10l2, cM10l2⟩ => yr1.2.length - kl2) (0, xM10r1, cM10r1) ?_ ?_ ?_
    · exact ⟨(by omega), (Has.cons .hd Has.nil), (wM10r1.mono sb6_2), (by intro k; have := hBr1_0 k; omega), (by rfl)⟩
    · exact ⟨rfl, rfl, rfl, rfl, rfl, trivial⟩
    · intro ⟨kl2, xM10l2, cM10l2⟩ σ_l2 H_l2 L_l2 ds_l2 s_l2 hI_l2
      obtain ⟨hkl2, hI_l2⟩ := hI_l2
      obtain ⟨hLl2, wM10l2, hBl2_0, hQl2⟩ := hI_l2
      refine T.has hLl2 ?_
      refine T.seq ?_
      refine T.region ?_
      refine R.lss rfl rfl rfl ?_
      refine TL.nil (Post.thnN ?_)
      refine T.seq ?_
      refine T.condD rfl (fun c19 => ?_) (fun c19 => ?_)
      · have hltl2 : kl2 < yr1.2.length := by omega
        obtain ⟨yl2, hyl2⟩ := getk (xs := yr1.2) (k := kl2) (by omega)
        refine T.skip (Post.thnN ?_)
        refine T.seq ?_
        refine T.block ?_
        refine T.seq ?_
        refine T.region ?_
        obtain ⟨b20, o20, i20, k20⟩ := RdS.elem (rYr1_1_0.mono (sb6_2.trans s_l2)) hyl2
        obtain ⟨l20, g20, k20⟩ := k20
        obtain rfl : l20 = [.int .i64 (yl2.1), .int .i64 (yl2.2)] := g20
        refine R.ixp Tryz.underlying81 Tryz.sizeOf84 rfl rfl rfl (by omega) i20 ?_
        refine R.ldK (l := [.int .i64 (yl2.1), .int .i64 (yl2.2)]) Tryz.isAgg84 Tryz.sizeOf84 rfl rfl k20 rfl ?_
        refine R.alloc Tryz.zeroValue84 rfl ?_
        intro b9
        refine R.stX (old := [.int .i64 0, .int .i64 0]) (l := [.int .i64 (yl2.1), .int .i64 (yl2.2)]) (new := [.int .i64 (yl2.1), .int .i64 (yl2.2)]) (et := 84) Tryz.sizeOf84 rfl rfl rfl rfl rfl (by show 0 + 2 ≤ 2; decide) rfl (all_one rfl) .hd ?_
        refine TL.shut .hd ?_
        intro Hb9_3 sb9_3 qb9_3
        have hb9_3 : Hb9_3 b9 = some (.cells #[.int .i64 (yl2.1), .int .i64 (yl2.2)] 84) := shut1 qb9_3
        refine TL.nil (Post.thnN ?_)
        refine T.seq ?_
        refine T.region ?_
        refine R.fldA Tryz.underlying84 rfl Tryz.sizeOf3 (by decide) rfl rfl ?_
        refine R.ldH Tryz.isAgg3 rfl rfl hb9_3 rfl ?_
        refine R.eql rfl rfl rfl ?_
        refine TL.nil (Post.thnN ?_)
        refine T.condD rfl (fun c24 => ?_) (fun c24 => ?_)
        · refine T.set 24 (.bool true) (congrArg Value.bool (decide_eq_true c24)) ?_
          refine T.draw Tryz_mixed (by kernel_rfl) ?_
          refine Plan.v 0 [1, 2, 3, 4, 5, 6, 7, 8, 9, 10] (by kernel_rfl) (by kernel_rfl) (by kernel_rfl) (by kernel_rfl) rfl (fun _ _ h_ => R.ldH Tryz.isAgg75 rfl rfl ((s13.trans (sr1.trans (sb6_2.trans (s_l2.trans sb9_3)))) _ _ hb5_1) rfl (TL.nil h_)) ?_
          refine Plan.v 1 [2, 3, 4, 5, 6, 7, 8, 9, 10] (by kernel_rfl) (by kernel_rfl) (by kernel_rfl) (by kernel_rfl) rfl (fun _ _ h_ => R.fldA Tryz.underlying84 rfl Tryz.sizeOf3 (by decide) rfl rfl (TL.nil h_)) ?_
          refine Plan.v 2 [3, 4, 5, 6, 7, 8, 9, 10] (by kernel_rfl) (by kernel_rfl) (by kernel_rfl) (by kernel_rfl) rfl (fun _ _ h_ => R.ldH Tryz.isAgg3 rfl rfl hb9_3 rfl (TL.nil h_)) ?_
          refine Plan.v 3 [4, 5, 6, 7, 8, 9, 10] (by kernel_rfl) (by kernel_rfl) (by kernel_rfl) (by kernel_rfl) rfl (fun _ _ h_ => R.ldH Tryz.isAgg75 rfl rfl ((s13.trans (sr1.trans (sb6_2.trans (s_l2.trans sb9_3)))) _ _ hb5_1) rfl (TL.nil h_)) ?_
          refine Plan.v 4 [5, 6, 7, 8, 9, 10] (by kernel_rfl) (by kernel_rfl) (by kernel_rfl) (by kernel_rfl) rfl (fun _ _ h_ => R.fldA Tryz.underlying84 rfl Tryz.sizeOf3 (by decide) rfl rfl (TL.nil h_)) ?_
          refine Plan.v 5 [6, 7, 8, 9, 10] (by kernel_rfl) (by kernel_rfl) (by kernel_rfl) (by kernel_rfl) rfl (fun _ _ h_ => R.ldH Tryz.isAgg3 rfl rfl hb9_3 rfl (TL.nil h_)) ?_
          refine Plan.v 7 [6, 8, 9, 10] (by kernel_rfl) (by kernel_rfl) (by kernel_rfl) (by kernel_rfl) rfl (fun _ _ h_ => R.ldXH (cs := [.int .i64 (yr1.1.1), .int .u64 (yr1.1.2)]) (l := [.int .i64 (yr1.1.1), .int .u64 (yr1.1.2)]) Tryz.isAgg50 Tryz.sizeOf50 rfl rfl ((s_l2.trans sb9_3) _ _ hb6_2) rfl rfl (TL.nil h_)) ?_
          refine Plan.s2 6 8 [8, 9, 10] [6, 9, 10] (by kernel_rfl) (by kernel_rfl) (by kernel_rfl) rfl rfl ?_ ?_
          · refine R.lkuO Tryz.underlying75 Tryz.underlying3 Tryz.zeroValue23 rfl rfl rfl .hd (wM10l2.mono sb9_3) ?_
            intro v31 c31 mc31 mR31 w31 t31
            obtain ⟨A31, p31, rfl, m31, n31⟩ := OwnS.shape w31
            have hrow := hBl2_0 yl2.1
            refine TL.nil (Plan.e1 (HLe.refl _) ?_)
            refine Plan.s1 8 [9, 10] (by kernel_rfl) (by kernel_rfl) rfl ?_
            refine R.bs (e := 50) (cs := [.int .i64 (yr1.1.1), .int .u64 (yr1.1.2)]) rfl (fun _ => by kernel_rfl) ?_
            intro b33
            have w33 : OwnS heldE 50 Hb9_3 (.slice (some ⟨b33, 0, none⟩) 1 1) [yr1.1] [(b33, .cells #[.int .i64 (yr1.1.1), .int .u64 (yr1.1.2)] 50)] := OwnS.lit (xs := [yr1.1]) (cellsOf_cons (a := [.int .i64 (yr1.1.1), .int .u64 (yr1.1.2)]) rfl cellsOf_nil) (by show 1 ≤ maxLen; decide)
            refine TL.nil (Plan.e1 (HLe.refl _) ?_)
            refine Plan.s1 9 [10] (by kernel_rfl) (by kernel_rfl) rfl ?_
            obtain ⟨k34, y34, r34⟩ := Src.ownA w33
            refine R.app (E := heldE) (e := 50) (xs := (xM10l2 yl2.1)) (ys := [yr1.1]) Tryz_ty23 rfl rfl rfl w31 (.tl .hd) (r34 _ .hd) y34 (by (try simp only [List.length_append, List.length_cons, List.length_nil, List.length_replicate, List.length_take, List.length_drop]); omega) (by (try simp only [List.length_append, List.length_cons, List.length_nil, List.length_replicate, List.length_take, List.length_drop]); omega) ?_
            intro v34 c34 w34
            obtain ⟨A34, p34, rfl, m34, n34⟩ := OwnS.shape w34
            refine TL.del (.tl .hd) ?_
            refine TL.nil (Plan.e1 (HLe.refl _) ?_)
            refine Plan.s1 10 [] (by kernel_rfl) (by kernel_rfl) rfl ?_
            refine R.mupO Tryz.underlying75 Tryz.underlying3 rfl rfl rfl rfl t31 (HLe.refl _) w34 .hd .hd .hd ?_
            intro cu10_8 wu10_8
            refine TL.nil (Plan.e0 (HLe.refl _) ?_)
            refine Plan.done (Post.blkN ?_)
            refine id (Post.thnN ?_)
            refine T.region ?_
            refine R.addI rfl rfl rfl (by omega) ?_
            refine R.mvE rfl (by conv => lhs; whnf) ?_
            refine TL.nil (Post.thnN ?_)
            exact ⟨(kl2 + 1, (mset xM10l2 yl2.1 (((xM10l2 yl2.1) ++ [yr1.1]))), cu10_8), (s_l2.trans sb9_3), ⟨(by omega), (Has.cons .hd Has.nil), wu10_8, (by first | (intro k; have := mset_len hBl2_0 yl2.1 yr1.1 k; omega) | (intro k; have := hBl2_0 k; omega)), (by rw [← hQl2, drop_cons hyl2, plan_killers_l2]; rw [if_pos c24])⟩, by show yr1.2.length - (kl2 + 1) < yr1.2.length - kl2; omega, rfl, rfl, rfl, rfl, rfl, trivial⟩
          · refine R.bs (e := 50) (cs := [.int .i64 (yr1.1.1), .int .u64 (yr1.1.2)]) rfl (fun _ => by kernel_rfl) ?_
            intro b33
            have w33 : OwnS heldE 50 Hb9_3 (.slice (some ⟨b33, 0, none⟩) 1 1) [yr1.1] [(b33, .cells #[.int .i64 (yr1.1.1), .int .u64 (yr1.1.2)] 50)] := OwnS.lit (xs := [yr1.1]) (cellsOf_cons (a := [.int .i64 (yr1.1.1), .int .u64 (yr1.1.2)]) rfl cellsOf_nil) (by show 1 ≤ maxLen; decide)
            refine TL.nil (Plan.e1 (HLe.refl _) ?_)
            refine Plan.s1 6 [9, 10] (by kernel_rfl) (by kernel_rfl) rfl ?_
            refine R.lkuO Tryz.underlying75 Tryz.underlying3 Tryz.zeroValue23 rfl rfl rfl (.tl .hd) (wM10l2.mono sb9_3) ?_
            intro v31 c31 mc31 mR31 w31 t31
            obtain ⟨A31, p31, rfl, m31, n31⟩ := OwnS.shape w31
            have hrow := hBl2_0 yl2.1
            refine TL.nil (Plan.e1 (HLe.refl _) ?_)
            refine Plan.s1 9 [10] (by kernel_rfl) (by kernel_rfl) rfl ?_
            obtain ⟨k34, y34, r34⟩ := Src.ownA w33
            refine R.app (E := heldE) (e := 50) (xs := (xM10l2 yl2.1)) (ys := [yr1.1]) Tryz_ty23 rfl rfl rfl w31 .hd (r34 _ (.tl (.tl (.tl .hd)))) y34 (by (try simp only [List.length_append, List.length_cons, List.length_nil, List.length_replicate, List.length_take, List.length_drop]); omega) (by (try simp only [List.length_append, List.length_cons, List.length_nil, List.length_replicate, List.length_take, List.length_drop]); omega) ?_
            intro v34 c34 w34
            obtain ⟨A34, p34, rfl, m34, n34⟩ := OwnS.shape w34
            refine TL.del (.tl (.tl (.tl .hd))) ?_
            refine TL.nil (Plan.e1 (HLe.refl _) ?_)
            refine Plan.s1 10 [] (by kernel_rfl) (by kernel_rfl) rfl ?_
            refine R.mupO Tryz.underlying75 Tryz.underlying3 rfl rfl rfl rfl t31 (HLe.refl _) w34 .hd .hd .hd ?_
            intro cu10_9 wu10_9
            refine TL.nil (Plan.e0 (HLe.refl _) ?_)
            refine Plan.done (Post.blkN ?_)
            refine id (Post.thnN ?_)
            refine T.region ?_
            refine R.addI rfl rfl rfl (by omega) ?_
            refine R.mvE rfl (by conv => lhs; whnf) ?_
            refine TL.nil (Post.thnN ?_)
            exact ⟨(kl2 + 1, (mset xM10l2 yl2.1 (((xM10l2 yl2.1) ++ [yr1.1]))), cu10_9), (s_l2.trans sb9_3), ⟨(by omega), (Has.cons .hd Has.nil), wu10_9, (by first | (intro k; have := mset_len hBl2_0 yl2.1 yr1.1 k; omega) | (intro k; have := hBl2_0 k; omega)), (by rw [← hQl2, drop_cons hyl2, plan_killers_l2]; rw [if_pos c24])⟩, by show yr1.2.length - (kl2 + 1) < yr1.2.length - kl2; omega, rfl, rfl, rfl, rfl, rfl, trivial⟩
        · refine T.set 24 (.bool false) (congrArg Value.bool (decide_eq_false c24)) ?_
          refine T.skip (Post.blkN ?_)
          refine id (Post.thnN ?_)
          refine T.region ?_
          refine R.addI rfl rfl rfl (by omega) ?_
          refine R.mvE rfl (by conv => lhs; whnf) ?_
          refine TL.nil (Post.thnN ?_)
          exact ⟨(kl2 + 1, xM10l2, cM10l2), (s_l2.trans sb9_3), ⟨(by omega), (Has.cons .hd Has.nil), (wM10l2.mono sb9_3), (by first | (intro k; have := mset_len hBl2_0 yl2.1 yr1.1 k; omega) | (intro k; have := hBl2_0 k; omega)), (by rw [← hQl2, drop_cons hyl2, plan_killers_l2]; rw [if_neg c24])⟩, by show yr1.2.length - (kl2 + 1) < yr1.2.length - kl2; omega, rfl, rfl, rfl, rfl, rfl, trivial⟩
      · refine T.exit (Post.thnE (Post.thnE (Post.blkX ?_)))
        have hEl2 : plan_killers_l2 yr1 yr1.2 xM10r1 = xM10l2 := (hQl2.symm.trans (by rw [show kl2 = yr1.2.length by omega, List.drop_length, plan_killers_l2]))
        refine id (Post.blkN ?_)
        refine id ?_
        exact ⟨xM10l2, cM10l2, (Has.cons .hd Has.nil), wM10l2, (by intro k; have := hBl2_0 k; simp; omega), (by rw [← hQr1, drop_pre hpr1, plan_killers_r1]; rw [hEl2, LR.seq_go])⟩
  · intro Dr1 Hr1 Lr1 sr1 hIr1
    obtain ⟨xM10r1, cM10r1, hLr1, wM10r1, hBr1_0, hQr1⟩ := hIr1
    have hEr1 : plan_killers_r1 r13 (((fun _ => []) : Int → List (Int × Int))) = xM10r1 := by rw [← hQr1, List.drop_length, plan_killers_r1]
    refine id (Post.blkN ?_)
    refine id (Post.thnN ?_)
    refine T.has hLr1 ?_
    refine T.seq ?_
    refine T.region ?_
    refine R.ldH Tryz.isAgg75 rfl rfl ((s13.trans sr1) _ _ hb5_1) rfl ?_
    refine R.asE rfl (by conv => lhs; whnf) ?_
    refine TL.nil (Post.thnN ?_)
    refine T.shut .hd ?_
    intro HF10_4 sF10_4 qF10_4
    have fF10_4 := MapO.read wM10r1 sF10_4 qF10_4
    refine T.has Has.nil ?_
    refine T.ret ?_
    have hM : plan_killers_m a0 a1 = xM10r1 := by subst er13; rw [plan_killers_m, LR.seq_go, hEr1, LR.seq_go]
    exact fin1L (v := .map (some b10)) [] rfl rfl (List.Sublist.refl _) ⟨rfl, b10, by first | rw [hM] | rfl, by rw [hM]; exact fF10_4⟩
  · intro Dr1 cr1 prer1 yr1 Hr1 Lr1 sr1 hpr1 hIr1
    exact hIr1.elim

end Go.SX

set_option linter.unusedVariables false
set_option linter.unusedSimpArgs false
namespace Go.SX
open Go Go.Proofs
def deathE : ER (Int × (List (Int × Int))) where
  size := 2
  R := fun H cs x => ∃ v1, cs = [.int .i64 x.1, v1] ∧ RdS heldE H v1 x.2
  len := fun h => by obtain ⟨v1, rfl, _⟩ := h; rfl
  mono := fun hl h => by obtain ⟨v1, rfl, h0⟩ := h; exact ⟨v1, rfl, h0.mono hl⟩
  one := fun h v hv => by
    obtain ⟨v1, rfl, h0⟩ := h
    simp only [List.mem_cons, List.not_mem_nil, or_false] at hv
    rcases hv with rfl | rfl <;> first | rfl | exact RdS.one (by assumption)

theorem Tryz_ty112 : TyE Tryz.prog 112 114 deathE 32 := TyE.mk' (z := .agg #[.int .i64 0, .slice none 0 0]) Tryz.underlying112 (by kernel_rfl) rfl (by decide)

def meet_m (q0 : List (Int × Bool)) (q1 : List (Int × (List (Int × Int)))) (a0 : Int) (a1 : List (Int × Int)) : List (Int × Bool) × (List (Int × (List (Int × Int)))) :=
  if (!((mlk q0 a0).getD false)) = true then (((mpu q0 a0 true), (q1 ++ [(a0, a1)]))) else ((q0, q1))
set_option maxHeartbeats 3200000 in
theorem meet_c (H : Heap) (b2 b3 m0 : Nat) (hb2 : H b2 = some (.cells #[.map (some m0)] 71)) (q0 : List (Int × Bool)) (es0 : Array MapEntry) (ck0 : Nat) (wm : MapV .i64 (fun z : Bool => Value.bool z) es0 q0) (q1 : List (Int × (List (Int × Int)))) (v0 : Value) (c0 : Chunk) (w0 : OwnS deathE 114 H v0 q1 c0) (hlen : q1.length ≤ 2000000) (a0 : Int) (va1 : Value) (a1 : List (Int × Int)) (ha1 : RdS heldE H va1 a1) :
    Fc Tryz.prog (.func (.func 77) #[] ([.pointer (some ⟨b2, 0, none⟩), .pointer (some ⟨b3, 0, none⟩)] : List Value).toArray) [.int .i64 a0, va1] H [[(m0, .map es0 ck0)], [(b3, .cells #[v0] 112)], c0] (fun v' H' L' => ∃ es ck v c, v' = .tuple #[] ∧ L' = [[(m0, .map es ck)], [(b3, .cells #[v] 112)], c] ∧ MapV .i64 (fun z : Bool => Value.bool z) es (meet_m q0 q1 a0 a1).1 ∧ OwnS deathE 114 H' v (meet_m q0 q1 a0 a1).2 c) := by
  refine Fc.of_body (N := 18) Tryz.func77 rfl (by kernel_rfl) rfl rfl ?_
  intro w0_
  obtain ⟨A0, p0, rfl, m0_, n0_⟩ := OwnS.shape w0
  obtain ⟨Aa1, ca1, rfl, hca1, hda1, ha1⟩ := ha1.shape
  refine T.seq ?_
  refine T.region ?_
  refine R.ldH Tryz.isAgg71 rfl rfl hb2 rfl ?_
  refine R.mvE rfl (by conv => lhs; whnf) ?_
  refine R.lkuV (f := (fun z : Bool => Value.bool z)) (z0 := false) Tryz.underlying71 Tryz.underlying3 Tryz.zeroValue4 rfl rfl rfl rfl .hd wm ?_
  refine R.not rfl rfl ?_
  refine TL.nil (Post.thnN ?_)
  refine T.cond rfl (fun c9 => ?_) (fun c9 => ?_)
  · refine T.set 9 (.bool true) (congrArg Value.bool c9) ?_
    refine T.seq ?_
    refine T.region ?_
    refine R.ldH Tryz.isAgg71 rfl rfl hb2 rfl ?_
    refine R.mvE rfl (by conv => lhs; whnf) ?_
    refine R.mupV (f := (fun z : Bool => Value.bool z)) (v := true) Tryz.underlying71 Tryz.underlying3 rfl rfl rfl rfl .hd wm ?_
    intro esu0_1 clu0_1 wu0_1
    refine TL.nil (Post.thnN ?_)
    refine T.region ?_
    refine R.ld Tryz.isAgg112 rfl rfl (.tl .hd) rfl ?_
    refine R.mvE rfl (by conv => lhs; whnf) ?_
    refine R.mvE rfl (by conv => lhs; whnf) ?_
    refine R.bld (cs := [.int .i64 a0, .slice Aa1 a1.length ca1]) rfl (fun _ => by kernel_rfl) ?_
    refine R.bs (e := 114) (cs := [.int .i64 a0, .slice Aa1 a1.length ca1]) rfl (fun _ => by kernel_rfl) ?_
    intro b16
    have w16 : OwnS deathE 114 H (.slice (some ⟨b16, 0, none⟩) 1 1) [(a0, a1)] [(b16, .cells #[.int .i64 a0, .slice Aa1 a1.length ca1] 114)] := OwnS.lit (xs := [(a0, a1)]) (cellsOf_cons (a := [.int .i64 a0, .slice Aa1 a1.length ca1]) ⟨_, rfl, ha1⟩ cellsOf_nil) (by show 1 ≤ maxLen; decide)
    obtain ⟨k17, y17, r17⟩ := Src.ownA w16
    refine R.app (E := deathE) (e := 114) (xs := q1) (ys := [(a0, a1)]) Tryz_ty112 rfl rfl rfl w0 (.tl (.tl (.tl .hd))) (r17 _ .hd) y17 (by (try simp only [List.length_append, List.length_cons, List.length_nil, List.length_replicate, List.length_take, List.length_drop]); omega) (by (try simp only [List.length_append, List.length_cons, List.length_nil, List.length_replicate, List.length_take, List.length_drop]); omega) ?_
    intro v17 c17 w17
    obtain ⟨A17, p17, rfl, m17, n17⟩ := OwnS.shape w17
    refine TL.del (.tl .hd) ?_
    refine R.stX (old := [.slice A0 q1.length p0]) (l := [.slice A17 (q1 ++ [(a0, a1)]).length p17]) (new := [.slice A17 (q1 ++ [(a0, a1)]).length p17]) (et := 112) Tryz.sizeOf112 rfl rfl rfl (cells1 rfl) rfl (by show 0 + 1 ≤ 1; decide) rfl (all_one rfl) (.tl (.tl .hd)) ?_
    refine TL.has (Has.cons (.tl .hd) (Has.cons (.tl .hd) (Has.cons .hd Has.nil))) ?_
    refine TL.nil ?_
    have hM : meet_m q0 q1 a0 a1 = ((mpu q0 a0 true), (q1 ++ [(a0, a1)])) := by rw [meet_m, if_t c9]
    exact fin0N _ rfl (List.Sublist.refl _) ⟨esu0_1, clu0_1, .slice A17 (q1 ++ [(a0, a1)]).length p17, c17, rfl, rfl, by rw [hM]; exact wu0_1, by rw [hM]; exact w17⟩
  · refine T.set 9 (.bool false) (congrArg Value.bool c9) ?_
    refine T.skip ?_
    have hM : meet_m q0 q1 a0 a1 = (q0, q1) := by rw [meet_m, if_f c9]
    exact fin0N _ rfl (List.Sublist.refl _) ⟨es0, ck0, .slice A0 q1.length p0, c0, rfl, rfl, by rw [hM]; exact wm, by rw [hM]; exact w0⟩
end Go.SX

set_option linter.unusedVariables false
set_option linter.unusedSimpArgs false
namespace Go.SX
open Go
/-- does the death of k kill who holds h? -/
def killB (l : List Rl) (h : Hd) (k : Int) : Bool := decide ((k, 1) ∈ mentL l h)
theorem kill_l2 (y : Hd × List (Int × Int)) : ∀ (ms : List (Int × Int)) (f : Int → List Hd) (k : Int), plan_killers_l2 y ms f k = f k ++ List.replicate (ms.countP (fun m => decide (m = (k, 1)))) y.1
  | [], f, k => by simp [plan_killers_l2]
  | m :: ms, f, k => by
    rw [plan_killers_l2, List.countP_cons]
    by_cases h : m.2 = 1
    · rw [if_pos h, kill_l2 y ms]
      unfold mset
      by_cases hk : k = m.1
      · subst hk
        have e : m = (m.1, 1) := Prod.ext rfl h
        rw [if_pos rfl, if_pos (decide_eq_true e), List.append_assoc, Nat.add_comm, ← List.replicate_append_replicate]; rfl
      · have e : ¬ m = (k, 1) := fun e => hk (by rw [e])
        rw [if_neg hk, decide_eq_false e, if_neg Bool.false_ne_true, Nat.add_zero]
    · have e : ¬ m = (k, 1) := fun e => h (by rw [e])
      rw [if_neg h, kill_l2 y ms, decide_eq_false e, if_neg Bool.false_ne_true, Nat.add_zero]
theorem cmp2_nodup (x y : Int) : (cmp2 [x, y]).Nodup := by
  rw [cmp2_eq, compact_two]
  by_cases h : x = y
  · rw [if_pos h]; simp
  · rw [if_neg h]; simp [h]
theorem cmp2_mem (x y n : Int) : n ∈ cmp2 [x, y] ↔ n = x ∨ n = y := by
  rw [cmp2_eq, compact_two]
  by_cases h : x = y
  · rw [if_pos h]; subst h; simp
  · rw [if_neg h]; simp
theorem mentL_mem (l : List Rl) (h : Hd) (n p : Int) : (n, p) ∈ mentL l h ↔ (n = (ident_Parts_m h.2).1 ∨ n = (ident_Parts_m h.2).2) ∧ trait_Policy_m l h.2 n = (p, true) := by
  unfold mentL
  rw [List.mem_map]
  constructor
  · rintro ⟨m, hm, e⟩
    rw [List.mem_filter, cmp2_mem] at hm
    injection e with e1 e2
    subst e1
    exact ⟨hm.1, Prod.ext e2 hm.2⟩
  · rintro ⟨h1, h2⟩
    exact ⟨n, List.mem_filter.2 ⟨(cmp2_mem _ _ _).2 h1, by rw [h2]⟩, by rw [h2]⟩
theorem mentL_nodup (l : List Rl) (h : Hd) : (mentL l h).Nodup := by
  unfold mentL
  refine List.pairwise_map.2 (((cmp2_nodup _ _).filter _).imp (fun hne e => hne ?_))
  injection e
theorem kill_r1 (l : List Rl) : ∀ (xs : List Hd) (f : Int → List Hd) (k : Int), plan_killers_r1 (xs.map (fun h => (h, mentL l h))) f k = f k ++ xs.filter (fun h => killB l h k)
  | [], f, k => by simp [plan_killers_r1]
  | y :: ys, f, k => by
    rw [List.map_cons, plan_killers_r1, LR.seq_go, kill_r1 l ys, kill_l2, List.filter_cons]
    have hc : (mentL l y).countP (fun m => decide (m = (k, 1))) = if killB l y k = true then 1 else 0 := by
      have e1 : (mentL l y).countP (fun m => decide (m = (k, 1))) = (mentL l y).count (k, 1) := by
        rw [List.count_eq_countP]
        exact List.countP_congr (fun m _ => by simp)
      rw [e1]
      unfold killB
      by_cases hm : ((k, 1) : Int × Int) ∈ mentL l y
      · rw [if_pos (decide_eq_true hm), (mentL_nodup l y).count, if_pos hm]
      · rw [if_neg (by simpa using hm), List.count_eq_zero.2 hm]
    rw [hc]
    by_cases hk : killB l y k = true
    · rw [if_pos hk, if_pos hk]; simp
    · rw [if_neg hk, if_neg hk]; simp
theorem kill_eq (l : List Rl) (xs : List Hd) (k : Int) : plan_killers_m l xs k = xs.filter (fun h => killB l h k) := by
  unfold plan_killers_m
  rw [LR.seq_go, LR.seq_go, ment_eq, kill_r1, List.nil_append]
/-- All that kills is of few. -/
def ByOk (by_ : Int → List Hd) : Prop := ∃ held : List Hd, held.length ≤ 100 ∧ ∀ k h, h ∈ by_ k → h ∈ held
theorem kill_by (l : List Rl) (xs : List Hd) (r : Int → List Hd) (e : r = plan_killers_m l xs) (hl : xs.length ≤ 100) : ByOk r := by
  subst e
  refine ⟨xs, hl, fun k h hh => ?_⟩
  rw [kill_eq] at hh
  exact (List.mem_filter.1 hh).1
abbrev Dh := Int × List Hd
/-- Whom there is to die so far. -/
structure Dv (q0 : List Int) (by_ : Int → List Hd) (met : List (Int × Bool)) (l : List Dh) : Prop where
  m : ∀ k, (mlk met k).getD false = true ↔ k ∈ l.map Prod.fst
  nd : (l.map Prod.fst).Nodup
  s : ∀ k ∈ l.map Prod.fst, k ∈ q0 ∨ ∃ j h, h ∈ by_ j ∧ h.1 = k
  w : ∀ d ∈ l, d.2.length ≤ l.length
theorem Dv.nil (q0 : List Int) (by_ : Int → List Hd) : Dv q0 by_ [] [] := ⟨fun k => (by rw [mlk_nil]; simp), List.nodup_nil, fun k h => (by cases h), fun d h => (by cases h)⟩
theorem nodup_len : ∀ {l1 l2 : List Int}, l1.Nodup → (∀ x ∈ l1, x ∈ l2) → l1.length ≤ l2.length
  | [], _, _, _ => Nat.zero_le _
  | x :: l1, l2, hd, hs => by
    rw [List.nodup_cons] at hd
    have hx := hs x (List.mem_cons_self ..)
    have ih := nodup_len (l1 := l1) (l2 := l2.erase x) hd.2 (fun y hy => (List.mem_erase_of_ne (fun e => hd.1 (by rw [← e]; exact hy))).2 (hs y (List.mem_cons_of_mem _ hy)))
    rw [List.length_erase_of_mem hx] at ih
    have := List.length_pos_of_mem hx
    rw [List.length_cons]; omega
theorem Dv.len {q0 : List Int} {by_ : Int → List Hd} {met : List (Int × Bool)} {l : List Dh} (h : Dv q0 by_ met l) (hb : ByOk by_) (hq : q0.length ≤ 100) : l.length ≤ 200 := by
  obtain ⟨held, h1, h2⟩ := hb
  have := nodup_len (l2 := q0 ++ held.map Prod.fst) h.nd (fun x hx => by
    rw [List.mem_append]
    rcases h.s x hx with k | ⟨j, d, hd, rfl⟩
    · exact .inl k
    · exact .inr (List.mem_map_of_mem (h2 j d hd)))
  rw [List.length_map, List.length_append, List.length_map] at this
  omega
theorem meet_ge (met : List (Int × Bool)) (l : List Dh) (k : Int) (w : List Hd) : l.length ≤ (meet_m met l k w).2.length := by
  unfold meet_m
  split
  · simp
  · exact Nat.le_refl _
theorem Dv.meet {q0 : List Int} {by_ : Int → List Hd} {met : List (Int × Bool)} {l : List Dh} (h : Dv q0 by_ met l) {k : Int} {w : List Hd} (hk : k ∈ q0 ∨ ∃ j d, d ∈ by_ j ∧ d.1 = k) (hw : w.length ≤ l.length + 1) : Dv q0 by_ (meet_m met l k w).1 (meet_m met l k w).2 := by
  unfold meet_m
  cases hm : (mlk met k).getD false with
  | true => rw [Bool.not_true, if_neg Bool.false_ne_true]; exact h
  | false =>
    rw [Bool.not_false, if_pos rfl]
    have hn : k ∉ l.map Prod.fst := fun e => by have := (h.m k).2 e; rw [hm] at this; cases this
    refine ⟨fun j => ?_, ?_, fun j hj => ?_, fun d hd => ?_⟩
    · rw [mlk_mpu, List.map_append, List.mem_append]
      by_cases e : j = k
      · rw [if_pos e]; simp [e]
      · rw [if_neg e, h.m j]; simp [e]
    · rw [List.map_append]
      refine List.nodup_append.2 ⟨h.nd, by simp, fun x hx y hy e => ?_⟩
      simp at hy; subst hy; subst e; exact hn hx
    · rw [List.map_append, List.mem_append] at hj
      rcases hj with hj | hj
      · exact h.s j hj
      · simp at hj; subst hj; exact hk
    · rw [List.length_append]
      rcases List.mem_append.1 hd with hd | hd
      · have := h.w d hd; simp; omega
      · simp at hd; subst hd; simpa using hw
end Go.SX
