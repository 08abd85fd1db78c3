/- 'AllocLives' answers true, whatever it is handed, and what it is handed reads behind it as it did: the row, and its tied card. -/
import Derived.RangeFuncNested
import Derived.RangeFuncBound
import Derived.RangeFuncCalls
import Derived.RangeFuncLeaves
import Derived.Shelf.Abstract
import Derived.Laws.AppendOwn
import Derived.Laws.OwnMore
import Derived.KernelRfl
import Derived.IntWalk
import Derived.Laws.Append
import Derived.WideLaws
import Derived.Laws.Slices
import Derived.Laws.MakeOwn
import Derived.OrdersIn
import Derived.Laws.Cover3
import Derived.Test.YtmhoclmjgjopfaaDoorProg
import Derived.Laws.StructEq
import Derived.Shelf.Sort.Plain
import Derived.Sort.OwnSortedInts
import Derived.Shelf.Slices.In.SortNone
import Derived.ProofKit
import Derived.ChangeSlices
import Derived.Carry
import Derived.Deep.Slices
import Derived.OpenShut
import Derived.Test.YtmhoclmjgjopfaaDoorCards
import Derived.Test.YtmhoclmjgjopfaaDoorTie
import Derived.LaidMore
import Derived.Stop.Joined
import Derived.MakeChecks
import Derived.Test.YtmhoclmjgjopfaaDoorKL2
set_option linter.unusedVariables false
set_option linter.unusedSimpArgs false
namespace Go.SX
open Go Go.Proofs

def alloc_Take_m (a0 : Int × (List (Int × Bool)) × (List Int)) : (Int × (List (Int × Bool)) × (List Int)) × Int × Int :=
  if ((alloc_Check_m a0) : Int) ≠ 0 then ((((0, [], []) : Int × (List (Int × Bool)) × (List Int)), 0, (alloc_Check_m a0))) else (LR.seq ((decide (((alloc_many_m a0) : Int) = a0.1)) : Bool) (fun sc1 => if sc1 = true then ((((0, [], []) : Int × (List (Int × Bool)) × (List Int)), 0, 6)) else (LR.seq (alloc_own_m a0) (fun r23 => LR.seq ((((r23.2.1.length : Int) + 1), (r23.2.2.length : Int)) : Int × Int) (fun sc2 => LR.on (if (0 : Int) < sc2.2 then (.go (((r23.2.2.getD (((sc2.2 - 1)).toNat) (0 : Int)), (r23.2.1.set ((((r23.2.2.getD (((sc2.2 - 1)).toNat) (0 : Int)) - 1)).toNat) (((IntKind.i64.wrap ((r23.2.1.getD ((((r23.2.2.getD (((sc2.2 - 1)).toNat) (0 : Int)) - 1)).toNat) (((0, false) : Int × Bool) : Int × Bool)).1 + 1)), true))), r23.1, (r23.2.1.set ((((r23.2.2.getD (((sc2.2 - 1)).toNat) (0 : Int)) - 1)).toNat) (((IntKind.i64.wrap ((r23.2.1.getD ((((r23.2.2.getD (((sc2.2 - 1)).toNat) (0 : Int)) - 1)).toNat) (((0, false) : Int × Bool) : Int × Bool)).1 + 1)), true))), (r23.2.2.take (((sc2.2 - 1)).toNat))))) else (if ((IntKind.i64.wrap (r23.1 + 2)) : Int) < sc2.1 then (.ret ((((0, [], []) : Int × (List (Int × Bool)) × (List Int)), 0, 121))) else (.go ((sc2.1, r23.2.1, r23.1, (r23.2.1 ++ [((0, true) : Int × Bool)]), r23.2.2)))) : LR ((Int × (List (Int × Bool)) × (List Int)) × Int × Int) (Int × (List (Int × Bool)) × Int × (List (Int × Bool)) × (List Int))) (fun r => r) (fun sc3 => LR.seq (ident_Entity_m sc3.1 (sc3.2.2.2.1.getD (((sc3.1 - 1)).toNat) (((0, false) : Int × Bool) : Int × Bool)).1) (fun r84 => ((sc3.2.2.1, sc3.2.2.2.1, sc3.2.2.2.2), r84.1, r84.2))))))))
set_option maxHeartbeats 3200000 in
theorem alloc_Take_c (H : Heap) {tG0 : TypeId} (hG0 : H 0 = some (.cells #[.int .i64 0, .bool true] tG0)) (a0 : Int × (List (Int × Bool)) × (List Int)) (va0_1 : Value) (ha0_1 : RdS slotE H va0_1 a0.2.1) (va0_2 : Value) (ha0_2 : RdS (intE .i64) H va0_2 a0.2.2) (hs : a0.2.1.length ≤ 2000000) (hf : a0.2.2.length ≤ 2000000) : Fc Tryd.prog (fnv 16) [.agg #[.int .i64 a0.1, va0_1, va0_2]] H [] (fun v' H' L' => ∃ u0_1 u0_2 c0_1 c0_2, v' = .tuple #[.agg #[.int .i64 (alloc_Take_m a0).1.1, u0_1, u0_2], .int .u64 (alloc_Take_m a0).2.1, .int .i64 (alloc_Take_m a0).2.2] ∧ L' = [c0_1, c0_2] ∧ OwnS slotE 101 H' u0_1 (alloc_Take_m a0).1.2.1 c0_1 ∧ OwnS (intE .i64) 3 H' u0_2 (alloc_Take_m a0).1.2.2 c0_2) := by
  refine Fc.of_body (N := 90) Tryd.func16 rfl (by kernel_rfl) rfl rfl ?_
  intro w0
  obtain ⟨Aa0_1, ca0_1, rfl, hca0_1, hda0_1, ha0_1⟩ := ha0_1.shape
  obtain ⟨Aa0_2, ca0_2, rfl, hca0_2, hda0_2, ha0_2⟩ := ha0_2.shape
  refine T.seq ?_
  refine T.region ?_
  refine R.box rfl (by conv => lhs; whnf) ?_
  intro b1
  refine R.alloc Tryd.zeroValue25 rfl ?_
  intro b2
  refine R.asE rfl (by conv => lhs; whnf) ?_
  refine R.asE rfl (by conv => lhs; whnf) ?_
  refine TL.nil (Post.thnN ?_)
  refine T.seq ?_
  refine T.seq ?_
  refine T.region ?_
  refine R.ldX (cs := [.int .i64 (a0.1), .slice Aa0_1 a0.2.1.length ca0_1, .slice Aa0_2 a0.2.2.length ca0_2]) (l := [.int .i64 (a0.1), .slice Aa0_1 a0.2.1.length ca0_1, .slice Aa0_2 a0.2.2.length ca0_2]) Tryd.isAgg25 Tryd.sizeOf25 rfl rfl (.tl .hd) rfl rfl ?_
  refine R.callv rfl rfl rfl (alloc_Check_c _ hG0 a0 _ ha0_1 _ ha0_2 (by first | omega | (simp; done) | (simp; omega) | (simp at *; omega)) (by first | omega | (simp; done) | (simp; omega) | (simp at *; omega))) ?_
  refine R.asE rfl (by conv => lhs; whnf) ?_
  refine TL.nil (Post.thnN ?_)
  refine T.seq ?_
  refine T.region ?_
  refine R.mvE rfl (by conv => lhs; whnf) ?_
  refine R.neq rfl rfl rfl ?_
  refine TL.nil (Post.thnN ?_)
  refine T.condD rfl (fun c13 => ?_) (fun c13 => ?_)
  · refine T.set 13 (.bool true) (congrArg Value.bool (decide_eq_true c13)) ?_
    refine T.seq ?_
    refine T.region ?_
    refine R.bld (cs := [.int .i64 0, .slice none 0 0, .slice none 0 0]) rfl (fun _ => by kernel_rfl) ?_
    refine R.mvE rfl (by conv => lhs; whnf) ?_
    refine R.stX (old := [.int .i64 0, .slice none 0 0, .slice none 0 0]) (l := [.int .i64 0, .slice none 0 0, .slice none 0 0]) (new := [.int .i64 0, .slice none 0 0, .slice none 0 0]) (et := 25) Tryd.sizeOf25 rfl rfl rfl rfl rfl (by show 0 + 3 ≤ 3; decide) rfl (all_one rfl) .hd ?_
    refine R.asE rfl (by conv => lhs; whnf) ?_
    refine R.asE rfl (by conv => lhs; whnf) ?_
    refine TL.nil (Post.thnN ?_)
    refine T.has (Has.none (Has.none (Has.cons .hd Has.nil))) ?_
    refine T.ret (Post.thnR ?_)
    have hM : alloc_Take_m a0 = (((0, [], []) : Int × (List (Int × Bool)) × (List Int)), 0, (alloc_Check_m a0)) := by rw [alloc_Take_m, if_pos c13]
    exact finR3 (v := .agg #[.int .i64 0, .slice none 0 0, .slice none 0 0]) (v' := .int .u64 0) (v'' := .int .i64 (alloc_Check_m a0)) [[], []] rfl (.cellA (cs := [.int .i64 0, .slice none 0 0, .slice none 0 0]) (l := [.int .i64 0, .slice none 0 0, .slice none 0 0]) Tryd.isAgg25 Tryd.sizeOf25 rfl (.tl (.tl .hd)) rfl rfl) (.tmp rfl) (.tmp rfl) (List.sublist_append_left ([[], []] : Own) _) ⟨.slice none 0 0, .slice none 0 0, [], [], by first | rw [hM] | rfl, rfl, by rw [hM]; exact OwnS.nil, by rw [hM]; exact OwnS.nil⟩
  · refine T.set 13 (.bool false) (congrArg Value.bool (decide_eq_false c13)) ?_
    have hck := (check_iff hs).1.1 (by omega)
    have hfl := hck.flen
    have hn2 := hck.n2
    have hm2 := hck.m2
    refine T.skip (Post.thnN ?_)
    refine T.seq ?_
    refine T.seq ?_
    refine T.cutK (ι := Bool) (fun b20c1 H' L' ds' => Has L' [[(b2, .cells #[.int .i64 0, .slice none 0 0, .slice none 0 0] 25)], [(b1, .cells #[.int .i64 (a0.1), .slice Aa0_1 a0.2.1.length ca0_1, .slice Aa0_2 a0.2.2.length ca0_2] 25)]] ∧ ((decide (((alloc_many_m a0) : Int) = a0.1)) : Bool) = b20c1) (fun b20c1 => [(1, .pointer (some ⟨b1, 0, none⟩)), (2, .pointer (some ⟨b2, 0, none⟩)), (20, .bool (b20c1))]) ?_ ?_
    · refine T.draw Tryd_mixed (by kernel_rfl) ?_
      refine Plan.v 2 [0, 1, 3, 4] (by kernel_rfl) (by kernel_rfl) (by kernel_rfl) (by kernel_rfl) rfl (fun _ _ h_ => R.fldA Tryd.underlying25 rfl Tryd.sizeOf3 (by decide) rfl rfl (TL.nil h_)) ?_
      refine Plan.s2 0 3 [1, 3, 4] [0, 1, 4] (by kernel_rfl) (by kernel_rfl) (by kernel_rfl) rfl rfl ?_ ?_
      · refine R.ldX (cs := [.int .i64 (a0.1), .slice Aa0_1 a0.2.1.length ca0_1, .slice Aa0_2 a0.2.2.length ca0_2]) (l := [.int .i64 (a0.1), .slice Aa0_1 a0.2.1.length ca0_1, .slice Aa0_2 a0.2.2.length ca0_2]) Tryd.isAgg25 Tryd.sizeOf25 rfl rfl (.tl .hd) rfl rfl ?_
        refine TL.nil (Plan.e1 (HLe.refl _) ?_)
        refine Plan.v 1 [3, 4] (by kernel_rfl) (by kernel_rfl) (by kernel_rfl) (by kernel_rfl) rfl (fun _ _ h_ => R.callv rfl rfl rfl (alloc_many_c _ a0 _ ha0_1 _ ha0_2) (TL.nil h_)) ?_
        refine Plan.s1 3 [4] (by kernel_rfl) (by kernel_rfl) rfl ?_
        refine R.ld Tryd.isAgg3 rfl rfl (.tl .hd) rfl ?_
        refine TL.nil (Plan.e1 (HLe.refl _) ?_)
        refine Plan.v 4 [] (by kernel_rfl) (by kernel_rfl) (by kernel_rfl) (by kernel_rfl) rfl (fun _ _ h_ => R.eql rfl rfl rfl (TL.nil h_)) ?_
        refine Plan.done (Post.thnN ?_)
        exact ⟨(decide (((alloc_many_m a0) : Int) = a0.1)), HLe.refl _, ⟨(Has.cons .hd (Has.cons .hd Has.nil)), (by rfl)⟩, rfl, rfl, rfl, trivial⟩
      · refine R.ld Tryd.isAgg3 rfl rfl (.tl .hd) rfl ?_
        refine TL.nil (Plan.e1 (HLe.refl _) ?_)
        refine Plan.s1 0 [1, 4] (by kernel_rfl) (by kernel_rfl) rfl ?_
        refine R.ldX (cs := [.int .i64 (a0.1), .slice Aa0_1 a0.2.1.length ca0_1, .slice Aa0_2 a0.2.2.length ca0_2]) (l := [.int .i64 (a0.1), .slice Aa0_1 a0.2.1.length ca0_1, .slice Aa0_2 a0.2.2.length ca0_2]) Tryd.isAgg25 Tryd.sizeOf25 rfl rfl (.tl .hd) rfl rfl ?_
        refine TL.nil (Plan.e1 (HLe.refl _) ?_)
        refine Plan.v 1 [4] (by kernel_rfl) (by kernel_rfl) (by kernel_rfl) (by kernel_rfl) rfl (fun _ _ h_ => R.callv rfl rfl rfl (alloc_many_c _ a0 _ ha0_1 _ ha0_2) (TL.nil h_)) ?_
        refine Plan.v 4 [] (by kernel_rfl) (by kernel_rfl) (by kernel_rfl) (by kernel_rfl) rfl (fun _ _ h_ => R.eql rfl rfl rfl (TL.nil h_)) ?_
        refine Plan.done (Post.thnN ?_)
        exact ⟨(decide (((alloc_many_m a0) : Int) = a0.1)), HLe.refl _, ⟨(Has.cons .hd (Has.cons .hd Has.nil)), (by rfl)⟩, rfl, rfl, rfl, trivial⟩
    · intro b20c1 σ_c1 H_c1 L_c1 ds_c1 s_c1 hI_c1
      obtain ⟨hLc1, hTc1⟩ := hI_c1
      refine T.has hLc1 ?_
      refine T.cond rfl (fun c20 => ?_) (fun c20 => ?_)
      · refine T.set 20 (.bool true) (congrArg Value.bool c20) ?_
        have hZ20 := hTc1.trans c20
        try simp only [or_f, or_t, and_f, and_t, decide_eq_true_eq, decide_eq_false_iff_not, Bool.not_eq_true'] at hZ20
        refine T.seq ?_
        refine T.region ?_
        refine R.bld (cs := [.int .i64 0, .slice none 0 0, .slice none 0 0]) rfl (fun _ => by kernel_rfl) ?_
        refine R.stX (old := [.int .i64 0, .slice none 0 0, .slice none 0 0]) (l := [.int .i64 0, .slice none 0 0, .slice none 0 0]) (new := [.int .i64 0, .slice none 0 0, .slice none 0 0]) (et := 25) Tryd.sizeOf25 rfl rfl rfl rfl rfl (by show 0 + 3 ≤ 3; decide) rfl (all_one rfl) .hd ?_
        refine R.asE rfl (by conv => lhs; whnf) ?_
        refine R.asE rfl (by conv => lhs; whnf) ?_
        refine TL.nil (Post.thnN ?_)
        refine T.has (Has.none (Has.none (Has.cons .hd Has.nil))) ?_
        refine T.ret (Post.thnR ?_)
        have hM : alloc_Take_m a0 = (((0, [], []) : Int × (List (Int × Bool)) × (List Int)), 0, 6) := by rw [alloc_Take_m, if_neg c13, hTc1, LR.seq_go, if_t c20]
        exact finR3 (v := .agg #[.int .i64 0, .slice none 0 0, .slice none 0 0]) (v' := .int .u64 0) (v'' := .int .i64 6) [[], []] rfl (.cellA (cs := [.int .i64 0, .slice none 0 0, .slice none 0 0]) (l := [.int .i64 0, .slice none 0 0, .slice none 0 0]) Tryd.isAgg25 Tryd.sizeOf25 rfl (.tl (.tl .hd)) rfl rfl) (.tmp rfl) (.tmp rfl) (List.sublist_append_left ([[], []] : Own) _) ⟨.slice none 0 0, .slice none 0 0, [], [], by first | rw [hM] | rfl, rfl, by rw [hM]; exact OwnS.nil, by rw [hM]; exact OwnS.nil⟩
      · refine T.set 20 (.bool false) (congrArg Value.bool c20) ?_
        have hZ20 := hTc1.trans c20
        try simp only [or_f, or_t, and_f, and_t, decide_eq_true_eq, decide_eq_false_iff_not, Bool.not_eq_true'] at hZ20
        refine T.skip (Post.thnN ?_)
        refine T.seq ?_
        refine T.region ?_
        refine R.ldX (cs := [.int .i64 (a0.1), .slice Aa0_1 a0.2.1.length ca0_1, .slice Aa0_2 a0.2.2.length ca0_2]) (l := [.int .i64 (a0.1), .slice Aa0_1 a0.2.1.length ca0_1, .slice Aa0_2 a0.2.2.length ca0_2]) Tryd.isAgg25 Tryd.sizeOf25 rfl rfl (.tl .hd) rfl rfl ?_
        obtain ⟨r23, er23⟩ : ∃ r, r = (alloc_own_m a0) := ⟨_, rfl⟩
        refine TL.call [] rfl rfl rfl (alloc_own_c _ a0 _ (ha0_1.mono s_c1) _ (ha0_2.mono s_c1) (by first | omega | (simp; done) | (simp; omega) | (simp at *; omega)) (by first | omega | (simp; done) | (simp; omega) | (simp at *; omega))) ?_
        intro v23 H23 L23 s23 q23
        rw [← er23] at q23
        obtain ⟨u23_0_1, u23_0_2, c23_0_1, c23_0_2, rfl, rfl, w23_0_1, w23_0_2⟩ := q23
        obtain ⟨A23_0_1, p23_0_1, rfl, m23_0_1, n23_0_1⟩ := OwnS.shape w23_0_1
        obtain ⟨A23_0_2, p23_0_2, rfl, m23_0_2, n23_0_2⟩ := OwnS.shape w23_0_2
        have q23 := er23.trans (alloc_own_eq _)
        have ta23 := congrArg (fun q => q.2.1.length) q23
        have tb23 := congrArg (fun q => q.2.2.length) q23
        try dsimp only at ta23 tb23
        refine R.stX (old := [.int .i64 (a0.1), .slice Aa0_1 a0.2.1.length ca0_1, .slice Aa0_2 a0.2.2.length ca0_2]) (l := [.int .i64 (r23.1), .slice A23_0_1 r23.2.1.length p23_0_1, .slice A23_0_2 r23.2.2.length p23_0_2]) (new := [.int .i64 (r23.1), .slice A23_0_1 r23.2.1.length p23_0_1, .slice A23_0_2 r23.2.2.length p23_0_2]) (et := 25) Tryd.sizeOf25 rfl rfl rfl rfl rfl (by show 0 + 3 ≤ 3; decide) rfl (all_one rfl) (.tl (.tl (.tl .hd))) ?_
        refine TL.nil (Post.thnN ?_)
        refine T.seq ?_
        refine T.cutK (ι := Int × Int) (fun ⟨n6c2, n7c2⟩ H' L' ds' => Has L' [c23_0_1, c23_0_2, [(b2, .cells #[.int .i64 0, .slice none 0 0, .slice none 0 0] 25)], [(b1, .cells #[.int .i64 (r23.1), .slice A23_0_1 r23.2.1.length p23_0_1, .slice A23_0_2 r23.2.2.length p23_0_2] 25)]] ∧ n6c2 = (r23.2.1.length : Int) + 1 ∧ n7c2 = (r23.2.2.length : Int) ∧ ((((r23.2.1.length : Int) + 1), (r23.2.2.length : Int)) : Int × Int) = (n6c2, n7c2)) (fun ⟨n6c2, n7c2⟩ => [(1, .pointer (some ⟨b1, 0, none⟩)), (2, .pointer (some ⟨b2, 0, none⟩)), (6, .int .i64 n6c2), (7, .int .i64 n7c2)]) ?_ ?_
        · refine T.draw Tryd_mixed (by kernel_rfl) ?_
          refine Plan.v 0 [1, 2, 3, 4, 5, 6, 7, 8] (by kernel_rfl) (by kernel_rfl) (by kernel_rfl) (by kernel_rfl) rfl (fun _ _ h_ => R.fldA Tryd.underlying25 rfl Tryd.sizeOf22 (by decide) rfl rfl (TL.nil h_)) ?_
          refine Plan.v 4 [1, 2, 3, 5, 6, 7, 8] (by kernel_rfl) (by kernel_rfl) (by kernel_rfl) (by kernel_rfl) rfl (fun _ _ h_ => R.fldA Tryd.underlying25 rfl Tryd.sizeOf23 (by decide) rfl rfl (TL.nil h_)) ?_
          refine Plan.s2 1 5 [2, 3, 5, 6, 7, 8] [1, 2, 3, 6, 7, 8] (by kernel_rfl) (by kernel_rfl) (by kernel_rfl) rfl rfl ?_ ?_
          · refine R.ld Tryd.isAgg22 rfl rfl (.tl (.tl (.tl .hd))) rfl ?_
            refine TL.nil (Plan.e1 (HLe.refl _) ?_)
            refine Plan.v 2 [3, 5, 6, 7, 8] (by kernel_rfl) (by kernel_rfl) (by kernel_rfl) (by kernel_rfl) rfl (fun _ _ h_ => R.len Tryd.underlying22 rfl rfl (TL.nil h_)) ?_
            refine Plan.v 3 [5, 6, 7, 8] (by kernel_rfl) (by kernel_rfl) (by kernel_rfl) (by kernel_rfl) rfl (fun _ _ h_ => R.addI rfl rfl rfl (by omega) (TL.nil h_)) ?_
            refine Plan.v 7 [5, 6, 8] (by kernel_rfl) (by kernel_rfl) (by kernel_rfl) (by kernel_rfl) rfl (fun _ _ h_ => R.asE rfl (by conv => lhs; whnf) (TL.nil h_)) ?_
            refine Plan.s1 5 [6, 8] (by kernel_rfl) (by kernel_rfl) rfl ?_
            refine R.ld Tryd.isAgg23 rfl rfl (.tl (.tl (.tl .hd))) rfl ?_
            refine TL.nil (Plan.e1 (HLe.refl _) ?_)
            refine Plan.v 6 [8] (by kernel_rfl) (by kernel_rfl) (by kernel_rfl) (by kernel_rfl) rfl (fun _ _ h_ => R.len Tryd.underlying23 rfl rfl (TL.nil h_)) ?_
            refine Plan.v 8 [] (by kernel_rfl) (by kernel_rfl) (by kernel_rfl) (by kernel_rfl) rfl (fun _ _ h_ => R.asE rfl (by conv => lhs; whnf) (TL.nil h_)) ?_
            refine Plan.done (Post.thnN ?_)
            exact ⟨(((r23.2.1.length : Int) + 1), (r23.2.2.length : Int)), HLe.refl _, ⟨(Has.cons .hd (Has.cons .hd (Has.cons .hd (Has.cons .hd Has.nil)))), (by first | omega | (simp; done) | (simp; omega) | (simp at *; omega)), (by first | omega | (simp; done) | (simp; omega) | (simp at *; omega)), (by rfl)⟩, rfl, rfl, rfl, rfl, trivial⟩
          · refine R.ld Tryd.isAgg23 rfl rfl (.tl (.tl (.tl .hd))) rfl ?_
            refine TL.nil (Plan.e1 (HLe.refl _) ?_)
            refine Plan.v 6 [1, 2, 3, 7, 8] (by kernel_rfl) (by kernel_rfl) (by kernel_rfl) (by kernel_rfl) rfl (fun _ _ h_ => R.len Tryd.underlying23 rfl rfl (TL.nil h_)) ?_
            refine Plan.s1 1 [2, 3, 7, 8] (by kernel_rfl) (by kernel_rfl) rfl ?_
            refine R.ld Tryd.isAgg22 rfl rfl (.tl (.tl (.tl .hd))) rfl ?_
            refine TL.nil (Plan.e1 (HLe.refl _) ?_)
            refine Plan.v 2 [3, 7, 8] (by kernel_rfl) (by kernel_rfl) (by kernel_rfl) (by kernel_rfl) rfl (fun _ _ h_ => R.len Tryd.underlying22 rfl rfl (TL.nil h_)) ?_
            refine Plan.v 3 [7, 8] (by kernel_rfl) (by kernel_rfl) (by kernel_rfl) (by kernel_rfl) rfl (fun _ _ h_ => R.addI rfl rfl rfl (by omega) (TL.nil h_)) ?_
            refine Plan.v 7 [8] (by kernel_rfl) (by kernel_rfl) (by kernel_rfl) (by kernel_rfl) rfl (fun _ _ h_ => R.asE rfl (by conv => lhs; whnf) (TL.nil h_)) ?_
            refine Plan.v 8 [] (by kernel_rfl) (by kernel_rfl) (by kernel_rfl) (by kernel_rfl) rfl (fun _ _ h_ => R.asE rfl (by conv => lhs; whnf) (TL.nil h_)) ?_
            refine Plan.done (Post.thnN ?_)
            exact ⟨(((r23.2.1.length : Int) + 1), (r23.2.2.length : Int)), HLe.refl _, ⟨(Has.cons .hd (Has.cons .hd (Has.cons .hd (Has.cons .hd Has.nil)))), (by first | omega | (simp; done) | (simp; omega) | (simp at *; omega)), (by first | omega | (simp; done) | (simp; omega) | (simp at *; omega)), (by rfl)⟩, rfl, rfl, rfl, rfl, trivial⟩
        · intro ⟨n6c2, n7c2⟩ σ_c2 H_c2 L_c2 ds_c2 s_c2 hI_c2
          obtain ⟨hLc2, hBc2_0, hBc2_1, hTc2⟩ := hI_c2
          refine T.has hLc2 ?_
          refine T.seq ?_
          refine T.cutK (ι := Int × (List (Int × Bool)) × Chunk × Int × Value × (List (Int × Bool)) × Chunk × Value × (List Int) × Chunk) (fun ⟨n6c3, xr23_0_1c3, cr23_0_1c3, nb1c3_0, vb1c3_1, xb1c3_1, cb1c3_1, vb1c3_2, xb1c3_2, cb1c3_2⟩ H' L' ds' => Has L' [[(b2, .cells #[.int .i64 0, .slice none 0 0, .slice none 0 0] 25)], [(b1, .cells #[.int .i64 nb1c3_0, vb1c3_1, vb1c3_2] 25)], cb1c3_1, cb1c3_2] ∧ OwnS slotE 101 H' (.slice A23_0_1 r23.2.1.length p23_0_1) xr23_0_1c3 cr23_0_1c3 ∧ OwnS slotE 101 H' vb1c3_1 xb1c3_1 cb1c3_1 ∧ OwnS (intE .i64) 3 H' vb1c3_2 xb1c3_2 cb1c3_2 ∧ (1 ≤ n6c3 ∧ n6c3 ≤ xb1c3_1.length) ∧ xb1c3_1.length ≤ 2000000 ∧ (if (0 : Int) < n7c2 then (.go (((r23.2.2.getD (((n7c2 - 1)).toNat) (0 : Int)), (r23.2.1.set ((((r23.2.2.getD (((n7c2 - 1)).toNat) (0 : Int)) - 1)).toNat) (((IntKind.i64.wrap ((r23.2.1.getD ((((r23.2.2.getD (((n7c2 - 1)).toNat) (0 : Int)) - 1)).toNat) (((0, false) : Int × Bool) : Int × Bool)).1 + 1)), true))), r23.1, (r23.2.1.set ((((r23.2.2.getD (((n7c2 - 1)).toNat) (0 : Int)) - 1)).toNat) (((IntKind.i64.wrap ((r23.2.1.getD ((((r23.2.2.getD (((n7c2 - 1)).toNat) (0 : Int)) - 1)).toNat) (((0, false) : Int × Bool) : Int × Bool)).1 + 1)), true))), (r23.2.2.take (((n7c2 - 1)).toNat))))) else (if ((IntKind.i64.wrap (r23.1 + 2)) : Int) < n6c2 then (.ret ((((0, [], []) : Int × (List (Int × Bool)) × (List Int)), 0, 121))) else (.go ((n6c2, r23.2.1, r23.1, (r23.2.1 ++ [((0, true) : Int × Bool)]), r23.2.2)))) : LR ((Int × (List (Int × Bool)) × (List Int)) × Int × Int) (Int × (List (Int × Bool)) × Int × (List (Int × Bool)) × (List Int))) = .go (n6c3, xr23_0_1c3, nb1c3_0, xb1c3_1, xb1c3_2)) (fun ⟨n6c3, xr23_0_1c3, cr23_0_1c3, nb1c3_0, vb1c3_1, xb1c3_1, cb1c3_1, vb1c3_2, xb1c3_2, cb1c3_2⟩ => [(1, .pointer (some ⟨b1, 0, none⟩)), (2, .pointer (some ⟨b2, 0, none⟩)), (6, .int .i64 n6c3)]) ?_ ?_
          · refine T.block ?_
            refine T.seq ?_
            refine T.region ?_
            refine R.mvE rfl (by conv => lhs; whnf) ?_
            refine R.gtr rfl rfl rfl ?_
            refine R.asE rfl (by conv => lhs; whnf) ?_
            refine TL.nil (Post.thnN ?_)
            refine T.condD rfl (fun c37 => ?_) (fun c37 => ?_)
            · refine T.set 37 (.bool true) (congrArg Value.bool (decide_eq_true c37)) ?_
              refine T.seq ?_
              refine T.region ?_
              refine R.fldA Tryd.underlying25 rfl Tryd.sizeOf23 (by decide) rfl rfl ?_
              refine R.ld Tryd.isAgg23 rfl rfl (.tl (.tl (.tl .hd))) rfl ?_
              refine R.mvE rfl (by conv => lhs; whnf) ?_
              refine R.subI rfl rfl rfl (by omega) ?_
              have hl44 : ((n7c2 - 1)).toNat < r23.2.2.length := by first | omega | (simp; done) | (simp; omega) | (simp at *; omega)
              obtain ⟨y44, e44, h44⟩ : ∃ y, y = (r23.2.2.getD (((n7c2 - 1)).toNat) (0 : Int)) ∧ r23.2.2[((n7c2 - 1)).toNat]? = some y := ⟨_, rfl, getD_get (by first | exact hl44 | simpa using hl44 | (rw [(sortI_perm _).length_eq]; exact hl44))⟩
              obtain ⟨b44, u44, cs44, l44, f44, j44, i44, g44, k44⟩ := OwnS.elem (OwnS.mono w23_0_2 s_c2) h44
              obtain rfl : l44 = [.int .i64 y44] := g44
              refine R.ixp (sz := ((intE .i64)).size) Tryd.underlying23 Tryd.sizeOf3 rfl rfl rfl (by first | omega | (simp; done) | (simp; omega) | (simp at *; omega)) i44 ?_
              refine R.ld Tryd.isAgg3 rfl rfl (by rw [← f44]; exact (.tl .hd)) (k44 0 _ rfl) ?_
              refine R.asE rfl (by conv => lhs; whnf) ?_
              refine TL.nil (Post.thnN ?_)
              refine T.seq ?_
              refine T.region ?_
              refine R.fldA Tryd.underlying25 rfl Tryd.sizeOf23 (by decide) rfl rfl ?_
              refine R.ld Tryd.isAgg23 rfl rfl (.tl (.tl (.tl .hd))) rfl ?_
              refine R.mvE rfl (by conv => lhs; whnf) ?_
              refine R.subI rfl rfl rfl (by omega) ?_
              refine R.mvE rfl (by conv => lhs; whnf) ?_
              refine R.subI rfl rfl rfl (by omega) ?_
              have z52 := OwnS.takeM (OwnS.mono w23_0_2 s_c2) (i := ((n7c2 - 1)).toNat) (m := ((n7c2 - 1)).toNat) (by first | omega | (simp; omega)) (by first | omega | (simp; omega)) (by first | omega | (simp; omega))
              obtain ⟨x52, e52⟩ : ∃ x, x = (r23.2.2.take (((n7c2 - 1)).toNat)) := ⟨_, rfl⟩
              rw [← e52] at z52
              obtain ⟨A52, p52, q52, m52, n52⟩ := OwnS.shape z52
              have t52 : x52.length = ((n7c2 - 1)).toNat := by rw [e52, List.length_take]; omega
              refine R.sHM Tryd.underlying23 Tryd.sizeOf3 rfl rfl rfl rfl (by first | omega | (simp; omega)) (by first | omega | (simp; omega)) (by first | omega | (simp; omega))  ?_
              refine TL.set 52 (.slice A52 x52.length p52) (by first | exact q52 | (rw [← q52]; simp; done) | (rw [← q52]; rfl)) ?_
              rw [q52] at z52
              refine R.fldA Tryd.underlying25 rfl Tryd.sizeOf23 (by decide) rfl rfl ?_
              refine R.stX (old := [.int .i64 (r23.1), .slice A23_0_1 r23.2.1.length p23_0_1, .slice A23_0_2 r23.2.2.length p23_0_2]) (l := [.slice A52 x52.length p52]) (new := [.int .i64 (r23.1), .slice A23_0_1 r23.2.1.length p23_0_1, .slice A52 x52.length p52]) (et := 25) Tryd.sizeOf23 rfl rfl rfl (cells1 rfl) rfl (by show 2 + 1 ≤ 3; decide) rfl (all_one rfl) (.tl (.tl (.tl .hd))) ?_
              refine TL.nil (Post.thnN ?_)
              have hidx := hck.free_rng (x := y44) (by have := List.mem_of_getElem? h44; rw [q23] at this; exact this)
              refine T.draw Tryd_mixed (by kernel_rfl) ?_
              refine Plan.v 0 [1, 2, 3, 4, 5, 6, 7, 8, 9, 10, 11, 12, 13, 14] (by kernel_rfl) (by kernel_rfl) (by kernel_rfl) (by kernel_rfl) rfl (fun _ _ h_ => R.fldA Tryd.underlying25 rfl Tryd.sizeOf22 (by decide) rfl rfl (TL.nil h_)) ?_
              refine Plan.v 2 [1, 3, 4, 5, 6, 7, 8, 9, 10, 11, 12, 13, 14] (by kernel_rfl) (by kernel_rfl) (by kernel_rfl) (by kernel_rfl) rfl (fun _ _ h_ => R.mvE rfl (by conv => lhs; whnf) (TL.nil h_)) ?_
              refine Plan.v 3 [1, 4, 5, 6, 7, 8, 9, 10, 11, 12, 13, 14] (by kernel_rfl) (by kernel_rfl) (by kernel_rfl) (by kernel_rfl) rfl (fun _ _ h_ => R.subI rfl rfl rfl (by omega) (TL.nil h_)) ?_
              refine Plan.v 4 [1, 5, 6, 7, 8, 9, 10, 11, 12, 13, 14] (by kernel_rfl) (by kernel_rfl) (by kernel_rfl) (by kernel_rfl) rfl (fun _ _ h_ => R.fldA Tryd.underlying25 rfl Tryd.sizeOf22 (by decide) rfl rfl (TL.nil h_)) ?_
              refine Plan.v 6 [1, 5, 7, 8, 9, 10, 11, 12, 13, 14] (by kernel_rfl) (by kernel_rfl) (by kernel_rfl) (by kernel_rfl) rfl (fun _ _ h_ => R.mvE rfl (by conv => lhs; whnf) (TL.nil h_)) ?_
              refine Plan.v 7 [1, 5, 8, 9, 10, 11, 12, 13, 14] (by kernel_rfl) (by kernel_rfl) (by kernel_rfl) (by kernel_rfl) rfl (fun _ _ h_ => R.subI rfl rfl rfl (by omega) (TL.nil h_)) ?_
              refine Plan.s2 1 5 [5, 8, 9, 10, 11, 12, 13, 14] [1, 8, 9, 10, 11, 12, 13, 14] (by kernel_rfl) (by kernel_rfl) (by kernel_rfl) rfl rfl ?_ ?_
              · refine R.ld Tryd.isAgg22 rfl rfl (.tl (.tl (.tl .hd))) rfl ?_
                refine TL.nil (Plan.e1 (HLe.refl _) ?_)
                refine Plan.s1 5 [8, 9, 10, 11, 12, 13, 14] (by kernel_rfl) (by kernel_rfl) rfl ?_
                refine R.ld Tryd.isAgg22 rfl rfl (.tl (.tl (.tl .hd))) rfl ?_
                refine TL.nil (Plan.e1 (HLe.refl _) ?_)
                have hl62 : ((y44 - 1)).toNat < r23.2.1.length := by first | omega | (simp; done) | (simp; omega) | (simp at *; omega)
                obtain ⟨y62, e62, h62⟩ : ∃ y, y = (r23.2.1.getD (((y44 - 1)).toNat) (((0, false) : Int × Bool) : Int × Bool)) ∧ r23.2.1[((y44 - 1)).toNat]? = some y := ⟨_, rfl, getD_get (by first | exact hl62 | simpa using hl62 | (rw [(sortI_perm _).length_eq]; exact hl62))⟩
                obtain ⟨b62, u62, cs62, l62, f62, j62, i62, g62, k62⟩ := OwnS.elem (OwnS.mono w23_0_1 s_c2) h62
                obtain rfl : l62 = [.int .i64 (y62.1), .bool (y62.2)] := g62
                refine Plan.v 8 [9, 10, 11, 12, 13, 14] (by kernel_rfl) (by kernel_rfl) (by kernel_rfl) (by kernel_rfl) rfl (fun _ _ h_ => R.ixp (sz := (slotE).size) Tryd.underlying22 Tryd.sizeOf101 rfl rfl rfl (by first | omega | (simp; done) | (simp; omega) | (simp at *; omega)) i62 (TL.nil h_)) ?_
                refine Plan.v 9 [10, 11, 12, 13, 14] (by kernel_rfl) (by kernel_rfl) (by kernel_rfl) (by kernel_rfl) rfl (fun _ _ h_ => R.fldA Tryd.underlying101 rfl Tryd.sizeOf3 (by decide) rfl rfl (TL.nil h_)) ?_
                refine Plan.s1 10 [11, 12, 13, 14] (by kernel_rfl) (by kernel_rfl) rfl ?_
                refine R.ld Tryd.isAgg3 rfl rfl (by rw [← f62]; exact .hd) (k62 0 _ rfl) ?_
                refine TL.nil (Plan.e1 (HLe.refl _) ?_)
                refine Plan.v 11 [12, 13, 14] (by kernel_rfl) (by kernel_rfl) (by kernel_rfl) (by kernel_rfl) rfl (fun _ _ h_ => R.add rfl rfl rfl (TL.nil h_)) ?_
                refine Plan.v 12 [13, 14] (by kernel_rfl) (by kernel_rfl) (by kernel_rfl) (by kernel_rfl) rfl (fun _ _ h_ => R.bld (cs := [.int .i64 (IntKind.i64.wrap (y62.1 + 1)), .bool true]) rfl (fun _ => by kernel_rfl) (TL.nil h_)) ?_
                have hl67 : ((y44 - 1)).toNat < r23.2.1.length := by first | omega | (simp; done) | (simp; omega) | (simp at *; omega)
                obtain ⟨y67, e67, h67⟩ : ∃ y, y = (r23.2.1.getD (((y44 - 1)).toNat) (((0, false) : Int × Bool) : Int × Bool)) ∧ r23.2.1[((y44 - 1)).toNat]? = some y := ⟨_, rfl, getD_get (by first | exact hl67 | simpa using hl67 | (rw [(sortI_perm _).length_eq]; exact hl67))⟩
                obtain ⟨b67, u67, cs67, l67, f67, j67, i67, g67, k67⟩ := OwnS.elem (OwnS.mono w23_0_1 s_c2) h67
                obtain rfl : l67 = [.int .i64 (y67.1), .bool (y67.2)] := g67
                refine Plan.v 13 [14] (by kernel_rfl) (by kernel_rfl) (by kernel_rfl) (by kernel_rfl) rfl (fun _ _ h_ => R.ixp (sz := (slotE).size) Tryd.underlying22 Tryd.sizeOf101 rfl rfl rfl (by first | omega | (simp; done) | (simp; omega) | (simp at *; omega)) i67 (TL.nil h_)) ?_
                refine Plan.s1 14 [] (by kernel_rfl) (by kernel_rfl) rfl ?_
                refine R.stEF (E := slotE) (e := 101) (v := (.slice A23_0_1 r23.2.1.length p23_0_1)) (m := [.int .i64 (IntKind.i64.wrap (y62.1 + 1)), .bool true]) (o := 0) (y := y67) (y' := ((IntKind.i64.wrap (y62.1 + 1)), true)) (j := ((y44 - 1)).toNat) Tryd.sizeOf101 rfl (OwnS.mono w23_0_1 s_c2) .hd i67 rfl rfl rfl (all_one rfl) h67 (by show 0 + 2 ≤ 2; decide) (fun l hl => by have e0 : l = [.int .i64 (y67.1), .bool (y67.2)] := hl; subst e0; exact rfl) ?_
                intro cst12 wst12
                refine TL.nil (Plan.e0 (HLe.refl _) ?_)
                refine Plan.done (Post.blkN ?_)
                refine id (Post.thnN ?_)
                exact ⟨(y44, (r23.2.1.set (((y44 - 1)).toNat) (((IntKind.i64.wrap (y62.1 + 1)), true))), cst12, r23.1, .slice A23_0_1 r23.2.1.length p23_0_1, (r23.2.1.set (((y44 - 1)).toNat) (((IntKind.i64.wrap (y62.1 + 1)), true))), cst12, .slice A52 x52.length p52, x52, c23_0_2), HLe.refl _, ⟨(Has.cons (.tl (.tl .hd)) (Has.cons (.tl (.tl .hd)) (Has.cons .hd (Has.cons .hd Has.nil)))), wst12, wst12, z52, (by first | omega | (simp; done) | (simp; omega) | (simp at *; omega)), (by first | omega | (simp; done) | (simp; omega) | (simp at *; omega)), (by subst e67; subst e62; subst e52; subst e44; rw [if_pos c37])⟩, rfl, rfl, rfl, trivial⟩
              · refine R.ld Tryd.isAgg22 rfl rfl (.tl (.tl (.tl .hd))) rfl ?_
                refine TL.nil (Plan.e1 (HLe.refl _) ?_)
                have hl62 : ((y44 - 1)).toNat < r23.2.1.length := by first | omega | (simp; done) | (simp; omega) | (simp at *; omega)
                obtain ⟨y62, e62, h62⟩ : ∃ y, y = (r23.2.1.getD (((y44 - 1)).toNat) (((0, false) : Int × Bool) : Int × Bool)) ∧ r23.2.1[((y44 - 1)).toNat]? = some y := ⟨_, rfl, getD_get (by first | exact hl62 | simpa using hl62 | (rw [(sortI_perm _).length_eq]; exact hl62))⟩
                obtain ⟨b62, u62, cs62, l62, f62, j62, i62, g62, k62⟩ := OwnS.elem (OwnS.mono w23_0_1 s_c2) h62
                obtain rfl : l62 = [.int .i64 (y62.1), .bool (y62.2)] := g62
                refine Plan.v 8 [1, 9, 10, 11, 12, 13, 14] (by kernel_rfl) (by kernel_rfl) (by kernel_rfl) (by kernel_rfl) rfl (fun _ _ h_ => R.ixp (sz := (slotE).size) Tryd.underlying22 Tryd.sizeOf101 rfl rfl rfl (by first | omega | (simp; done) | (simp; omega) | (simp at *; omega)) i62 (TL.nil h_)) ?_
                refine Plan.v 9 [1, 10, 11, 12, 13, 14] (by kernel_rfl) (by kernel_rfl) (by kernel_rfl) (by kernel_rfl) rfl (fun _ _ h_ => R.fldA Tryd.underlying101 rfl Tryd.sizeOf3 (by decide) rfl rfl (TL.nil h_)) ?_
                refine Plan.s2 1 10 [10, 11, 12, 13, 14] [1, 11, 12, 13, 14] (by kernel_rfl) (by kernel_rfl) (by kernel_rfl) rfl rfl ?_ ?_
                · refine R.ld Tryd.isAgg22 rfl rfl (.tl (.tl (.tl .hd))) rfl ?_
                  refine TL.nil (Plan.e1 (HLe.refl _) ?_)
                  refine Plan.s1 10 [11, 12, 13, 14] (by kernel_rfl) (by kernel_rfl) rfl ?_
                  refine R.ld Tryd.isAgg3 rfl rfl (by rw [← f62]; exact .hd) (k62 0 _ rfl) ?_
                  refine TL.nil (Plan.e1 (HLe.refl _) ?_)
                  refine Plan.v 11 [12, 13, 14] (by kernel_rfl) (by kernel_rfl) (by kernel_rfl) (by kernel_rfl) rfl (fun _ _ h_ => R.add rfl rfl rfl (TL.nil h_)) ?_
                  refine Plan.v 12 [13, 14] (by kernel_rfl) (by kernel_rfl) (by kernel_rfl) (by kernel_rfl) rfl (fun _ _ h_ => R.bld (cs := [.int .i64 (IntKind.i64.wrap (y62.1 + 1)), .bool true]) rfl (fun _ => by kernel_rfl) (TL.nil h_)) ?_
                  have hl67 : ((y44 - 1)).toNat < r23.2.1.length := by first | omega | (simp; done) | (simp; omega) | (simp at *; omega)
                  obtain ⟨y67, e67, h67⟩ : ∃ y, y = (r23.2.1.getD (((y44 - 1)).toNat) (((0, false) : Int × Bool) : Int × Bool)) ∧ r23.2.1[((y44 - 1)).toNat]? = some y := ⟨_, rfl, getD_get (by first | exact hl67 | simpa using hl67 | (rw [(sortI_perm _).length_eq]; exact hl67))⟩
                  obtain ⟨b67, u67, cs67, l67, f67, j67, i67, g67, k67⟩ := OwnS.elem (OwnS.mono w23_0_1 s_c2) h67
                  obtain rfl : l67 = [.int .i64 (y67.1), .bool (y67.2)] := g67
                  refine Plan.v 13 [14] (by kernel_rfl) (by kernel_rfl) (by kernel_rfl) (by kernel_rfl) rfl (fun _ _ h_ => R.ixp (sz := (slotE).size) Tryd.underlying22 Tryd.sizeOf101 rfl rfl rfl (by first | omega | (simp; done) | (simp; omega) | (simp at *; omega)) i67 (TL.nil h_)) ?_
                  refine Plan.s1 14 [] (by kernel_rfl) (by kernel_rfl) rfl ?_
                  refine R.stEF (E := slotE) (e := 101) (v := (.slice A23_0_1 r23.2.1.length p23_0_1)) (m := [.int .i64 (IntKind.i64.wrap (y62.1 + 1)), .bool true]) (o := 0) (y := y67) (y' := ((IntKind.i64.wrap (y62.1 + 1)), true)) (j := ((y44 - 1)).toNat) Tryd.sizeOf101 rfl (OwnS.mono w23_0_1 s_c2) .hd i67 rfl rfl rfl (all_one rfl) h67 (by show 0 + 2 ≤ 2; decide) (fun l hl => by have e0 : l = [.int .i64 (y67.1), .bool (y67.2)] := hl; subst e0; exact rfl) ?_
                  intro cst13 wst13
                  refine TL.nil (Plan.e0 (HLe.refl _) ?_)
                  refine Plan.done (Post.blkN ?_)
                  refine id (Post.thnN ?_)
                  exact ⟨(y44, (r23.2.1.set (((y44 - 1)).toNat) (((IntKind.i64.wrap (y62.1 + 1)), true))), cst13, r23.1, .slice A23_0_1 r23.2.1.length p23_0_1, (r23.2.1.set (((y44 - 1)).toNat) (((IntKind.i64.wrap (y62.1 + 1)), true))), cst13, .slice A52 x52.length p52, x52, c23_0_2), HLe.refl _, ⟨(Has.cons (.tl (.tl .hd)) (Has.cons (.tl (.tl .hd)) (Has.cons .hd (Has.cons .hd Has.nil)))), wst13, wst13, z52, (by first | omega | (simp; done) | (simp; omega) | (simp at *; omega)), (by first | omega | (simp; done) | (simp; omega) | (simp at *; omega)), (by subst e67; subst e62; subst e52; subst e44; rw [if_pos c37])⟩, rfl, rfl, rfl, trivial⟩
                · refine R.ld Tryd.isAgg3 rfl rfl (by rw [← f62]; exact .hd) (k62 0 _ rfl) ?_
                  refine TL.nil (Plan.e1 (HLe.refl _) ?_)
                  refine Plan.v 11 [1, 12, 13, 14] (by kernel_rfl) (by kernel_rfl) (by kernel_rfl) (by kernel_rfl) rfl (fun _ _ h_ => R.add rfl rfl rfl (TL.nil h_)) ?_
                  refine Plan.v 12 [1, 13, 14] (by kernel_rfl) (by kernel_rfl) (by kernel_rfl) (by kernel_rfl) rfl (fun _ _ h_ => R.bld (cs := [.int .i64 (IntKind.i64.wrap (y62.1 + 1)), .bool true]) rfl (fun _ => by kernel_rfl) (TL.nil h_)) ?_
                  refine Plan.s1 1 [13, 14] (by kernel_rfl) (by kernel_rfl) rfl ?_
                  refine R.ld Tryd.isAgg22 rfl rfl (.tl (.tl (.tl .hd))) rfl ?_
                  refine TL.nil (Plan.e1 (HLe.refl _) ?_)
                  have hl67 : ((y44 - 1)).toNat < r23.2.1.length := by first | omega | (simp; done) | (simp; omega) | (simp at *; omega)
                  obtain ⟨y67, e67, h67⟩ : ∃ y, y = (r23.2.1.getD (((y44 - 1)).toNat) (((0, false) : Int × Bool) : Int × Bool)) ∧ r23.2.1[((y44 - 1)).toNat]? = some y := ⟨_, rfl, getD_get (by first | exact hl67 | simpa using hl67 | (rw [(sortI_perm _).length_eq]; exact hl67))⟩
                  obtain ⟨b67, u67, cs67, l67, f67, j67, i67, g67, k67⟩ := OwnS.elem (OwnS.mono w23_0_1 s_c2) h67
                  obtain rfl : l67 = [.int .i64 (y67.1), .bool (y67.2)] := g67
                  refine Plan.v 13 [14] (by kernel_rfl) (by kernel_rfl) (by kernel_rfl) (by kernel_rfl) rfl (fun _ _ h_ => R.ixp (sz := (slotE).size) Tryd.underlying22 Tryd.sizeOf101 rfl rfl rfl (by first | omega | (simp; done) | (simp; omega) | (simp at *; omega)) i67 (TL.nil h_)) ?_
                  refine Plan.s1 14 [] (by kernel_rfl) (by kernel_rfl) rfl ?_
                  refine R.stEF (E := slotE) (e := 101) (v := (.slice A23_0_1 r23.2.1.length p23_0_1)) (m := [.int .i64 (IntKind.i64.wrap (y62.1 + 1)), .bool true]) (o := 0) (y := y67) (y' := ((IntKind.i64.wrap (y62.1 + 1)), true)) (j := ((y44 - 1)).toNat) Tryd.sizeOf101 rfl (OwnS.mono w23_0_1 s_c2) .hd i67 rfl rfl rfl (all_one rfl) h67 (by show 0 + 2 ≤ 2; decide) (fun l hl => by have e0 : l = [.int .i64 (y67.1), .bool (y67.2)] := hl; subst e0; exact rfl) ?_
                  intro cst14 wst14
                  refine TL.nil (Plan.e0 (HLe.refl _) ?_)
                  refine Plan.done (Post.blkN ?_)
                  refine id (Post.thnN ?_)
                  exact ⟨(y44, (r23.2.1.set (((y44 - 1)).toNat) (((IntKind.i64.wrap (y62.1 + 1)), true))), cst14, r23.1, .slice A23_0_1 r23.2.1.length p23_0_1, (r23.2.1.set (((y44 - 1)).toNat) (((IntKind.i64.wrap (y62.1 + 1)), true))), cst14, .slice A52 x52.length p52, x52, c23_0_2), HLe.refl _, ⟨(Has.cons (.tl (.tl .hd)) (Has.cons (.tl (.tl .hd)) (Has.cons .hd (Has.cons .hd Has.nil)))), wst14, wst14, z52, (by first | omega | (simp; done) | (simp; omega) | (simp at *; omega)), (by first | omega | (simp; done) | (simp; omega) | (simp at *; omega)), (by subst e67; subst e62; subst e52; subst e44; rw [if_pos c37])⟩, rfl, rfl, rfl, trivial⟩
            · refine T.set 37 (.bool false) (congrArg Value.bool (decide_eq_false c37)) ?_
              refine T.seq ?_
              refine T.region ?_
              refine R.mvE rfl (by conv => lhs; whnf) ?_
              refine R.fldA Tryd.underlying25 rfl Tryd.sizeOf3 (by decide) rfl rfl ?_
              refine R.ld Tryd.isAgg3 rfl rfl (.tl (.tl (.tl .hd))) rfl ?_
              refine R.add rfl rfl rfl ?_
              refine R.gtr rfl rfl rfl ?_
              refine R.asE rfl (by conv => lhs; whnf) ?_
              refine TL.nil (Post.thnN ?_)
              refine T.condD rfl (fun c68 => ?_) (fun c68 => ?_)
              · refine T.set 68 (.bool true) (congrArg Value.bool (decide_eq_true c68)) ?_
                refine T.seq ?_
                refine T.region ?_
                refine R.bld (cs := [.int .i64 0, .slice none 0 0, .slice none 0 0]) rfl (fun _ => by kernel_rfl) ?_
                refine R.stX (old := [.int .i64 0, .slice none 0 0, .slice none 0 0]) (l := [.int .i64 0, .slice none 0 0, .slice none 0 0]) (new := [.int .i64 0, .slice none 0 0, .slice none 0 0]) (et := 25) Tryd.sizeOf25 rfl rfl rfl rfl rfl (by show 0 + 3 ≤ 3; decide) rfl (all_one rfl) (.tl (.tl .hd)) ?_
                refine R.asE rfl (by conv => lhs; whnf) ?_
                refine R.asE rfl (by conv => lhs; whnf) ?_
                refine TL.nil (Post.thnN ?_)
                refine T.has (Has.none (Has.none (Has.cons (.tl (.tl .hd)) Has.nil))) ?_
                refine T.ret (Post.blkR (Post.thnR ?_))
                have hM : alloc_Take_m a0 = (((0, [], []) : Int × (List (Int × Bool)) × (List Int)), 0, 121) := by subst er23; rw [alloc_Take_m, if_neg c13, hTc1, LR.seq_go, if_f c20, LR.seq_go, hTc2, LR.seq_go, if_neg c37, if_pos c68, LR.on_ret]
                exact finR3 (v := .agg #[.int .i64 0, .slice none 0 0, .slice none 0 0]) (v' := .int .u64 0) (v'' := .int .i64 121) [[], []] rfl (.cellA (cs := [.int .i64 0, .slice none 0 0, .slice none 0 0]) (l := [.int .i64 0, .slice none 0 0, .slice none 0 0]) Tryd.isAgg25 Tryd.sizeOf25 rfl (.tl (.tl .hd)) rfl rfl) (.tmp rfl) (.tmp rfl) (List.sublist_append_left ([[], []] : Own) _) ⟨.slice none 0 0, .slice none 0 0, [], [], by first | rw [hM] | rfl, rfl, by rw [hM]; exact OwnS.nil, by rw [hM]; exact OwnS.nil⟩
              · refine T.set 68 (.bool false) (congrArg Value.bool (decide_eq_false c68)) ?_
                refine T.region ?_
                refine R.fldA Tryd.underlying25 rfl Tryd.sizeOf22 (by decide) rfl rfl ?_
                refine R.ld Tryd.isAgg22 rfl rfl (.tl (.tl (.tl .hd))) rfl ?_
                refine R.ldXH (cs := [.int .i64 0, .bool true]) (l := [.int .i64 0, .bool true]) Tryd.isAgg101 Tryd.sizeOf101 rfl rfl ((s_c1.trans (s23.trans s_c2)) _ _ hG0) rfl rfl ?_
                refine R.bs (e := 101) (cs := [.int .i64 0, .bool true]) rfl (fun _ => by kernel_rfl) ?_
                intro b34
                have w34 : OwnS slotE 101 H_c2 (.slice (some ⟨b34, 0, none⟩) 1 1) [((0, true) : Int × Bool)] [(b34, .cells #[.int .i64 0, .bool true] 101)] := OwnS.lit (xs := [((0, true) : Int × Bool)]) (cellsOf_cons (a := [.int .i64 0, .bool true]) rfl cellsOf_nil) (by show 1 ≤ maxLen; decide)
                obtain ⟨k35, y35, r35⟩ := Src.ownA w34
                refine R.app (E := slotE) (e := 101) (xs := r23.2.1) (ys := [((0, true) : Int × Bool)]) Tryd_ty22 rfl rfl rfl (OwnS.mono w23_0_1 s_c2) (.tl .hd) (r35 _ .hd) y35 (by (try simp only [List.length_append, List.length_cons, List.length_nil, List.length_replicate, List.length_take, List.length_drop]); omega) (by (try simp only [List.length_append, List.length_cons, List.length_nil, List.length_replicate, List.length_take, List.length_drop]); omega) ?_
                intro v35 c35 w35
                obtain ⟨A35, p35, rfl, m35, n35⟩ := OwnS.shape w35
                refine TL.del (.tl .hd) ?_
                refine R.fldA Tryd.underlying25 rfl Tryd.sizeOf22 (by decide) rfl rfl ?_
                refine R.stX (old := [.int .i64 (r23.1), .slice A23_0_1 r23.2.1.length p23_0_1, .slice A23_0_2 r23.2.2.length p23_0_2]) (l := [.slice A35 (r23.2.1 ++ [((0, true) : Int × Bool)]).length p35]) (new := [.int .i64 (r23.1), .slice A35 (r23.2.1 ++ [((0, true) : Int × Bool)]).length p35, .slice A23_0_2 r23.2.2.length p23_0_2]) (et := 25) Tryd.sizeOf22 rfl rfl rfl (cells1 rfl) rfl (by show 1 + 1 ≤ 3; decide) rfl (all_one rfl) (.tl (.tl (.tl .hd))) ?_
                refine TL.nil (Post.blkN ?_)
                refine id (Post.thnN ?_)
                exact ⟨(n6c2, r23.2.1, c23_0_1, r23.1, .slice A35 (r23.2.1 ++ [((0, true) : Int × Bool)]).length p35, (r23.2.1 ++ [((0, true) : Int × Bool)]), c35, .slice A23_0_2 r23.2.2.length p23_0_2, r23.2.2, c23_0_2), HLe.refl _, ⟨(Has.cons (.tl (.tl .hd)) (Has.cons (.tl (.tl .hd)) (Has.cons .hd (Has.cons .hd Has.nil)))), (OwnS.mono w23_0_1 s_c2), w35, (OwnS.mono w23_0_2 s_c2), (by first | omega | (simp; done) | (simp; omega) | (simp at *; omega)), (by first | omega | (simp; done) | (simp; omega) | (simp at *; omega)), (by rw [if_neg c37, if_neg c68])⟩, rfl, rfl, rfl, trivial⟩
          · intro ⟨n6c3, xr23_0_1c3, cr23_0_1c3, nb1c3_0, vb1c3_1, xb1c3_1, cb1c3_1, vb1c3_2, xb1c3_2, cb1c3_2⟩ σ_c3 H_c3 L_c3 ds_c3 s_c3 hI_c3
            obtain ⟨hLc3, wr23_0_1c3, wb1c3_1, wb1c3_2, hBc3_0, hBc3_1, hTc3⟩ := hI_c3
            obtain ⟨Ab1c3_1, pb1c3_1, rfl, mb1c3_1, nb1c3_1_⟩ := OwnS.shape wb1c3_1
            obtain ⟨Ab1c3_2, pb1c3_2, rfl, mb1c3_2, nb1c3_2_⟩ := OwnS.shape wb1c3_2
            refine T.has hLc3 ?_
            refine T.seq ?_
            refine T.region ?_
            refine R.mvE rfl (by conv => lhs; whnf) ?_
            refine R.fldA Tryd.underlying25 rfl Tryd.sizeOf22 (by decide) rfl rfl ?_
            refine R.ld Tryd.isAgg22 rfl rfl (.tl .hd) rfl ?_
            refine R.mvE rfl (by conv => lhs; whnf) ?_
            refine R.subI rfl rfl rfl (by omega) ?_
            have hl81 : ((n6c3 - 1)).toNat < xb1c3_1.length := by first | omega | (simp; done) | (simp; omega) | (simp at *; omega)
            obtain ⟨y81, e81, h81⟩ : ∃ y, y = (xb1c3_1.getD (((n6c3 - 1)).toNat) (((0, false) : Int × Bool) : Int × Bool)) ∧ xb1c3_1[((n6c3 - 1)).toNat]? = some y := ⟨_, rfl, getD_get (by first | exact hl81 | simpa using hl81 | (rw [(sortI_perm _).length_eq]; exact hl81))⟩
            obtain ⟨b81, u81, cs81, l81, f81, j81, i81, g81, k81⟩ := OwnS.elem wb1c3_1 h81
            obtain rfl : l81 = [.int .i64 (y81.1), .bool (y81.2)] := g81
            refine R.ixp (sz := (slotE).size) Tryd.underlying22 Tryd.sizeOf101 rfl rfl rfl (by first | omega | (simp; done) | (simp; omega) | (simp at *; omega)) i81 ?_
            refine R.fldA Tryd.underlying101 rfl Tryd.sizeOf3 (by decide) rfl rfl ?_
            refine R.ld Tryd.isAgg3 rfl rfl (by rw [← f81]; exact (.tl (.tl .hd))) (k81 0 _ rfl) ?_
            obtain ⟨r84, er84⟩ : ∃ r, r = (ident_Entity_m n6c3 y81.1) := ⟨_, rfl⟩
            refine R.callv (v := .tuple #[.int .u64 r84.1, .int .i64 r84.2]) rfl rfl rfl (by rw [er84]; exact ident_Entity_c _ (n6c3) (y81.1)) ?_
            refine R.mvE rfl (by conv => lhs; whnf) ?_
            refine R.ext rfl rfl rfl ?_
            refine R.ext rfl rfl rfl ?_
            refine R.asE rfl (by conv => lhs; whnf) ?_
            refine R.asE rfl (by conv => lhs; whnf) ?_
            refine TL.nil (Post.thnN ?_)
            refine T.seq ?_
            refine T.region ?_
            refine R.ldX (cs := [.int .i64 nb1c3_0, .slice Ab1c3_1 xb1c3_1.length pb1c3_1, .slice Ab1c3_2 xb1c3_2.length pb1c3_2]) (l := [.int .i64 nb1c3_0, .slice Ab1c3_1 xb1c3_1.length pb1c3_1, .slice Ab1c3_2 xb1c3_2.length pb1c3_2]) Tryd.isAgg25 Tryd.sizeOf25 rfl rfl (.tl .hd) rfl rfl ?_
            refine R.mvE rfl (by conv => lhs; whnf) ?_
            refine R.mvE rfl (by conv => lhs; whnf) ?_
            refine R.stX (old := [.int .i64 0, .slice none 0 0, .slice none 0 0]) (l := [.int .i64 nb1c3_0, .slice Ab1c3_1 xb1c3_1.length pb1c3_1, .slice Ab1c3_2 xb1c3_2.length pb1c3_2]) (new := [.int .i64 nb1c3_0, .slice Ab1c3_1 xb1c3_1.length pb1c3_1, .slice Ab1c3_2 xb1c3_2.length pb1c3_2]) (et := 25) Tryd.sizeOf25 rfl rfl rfl rfl rfl (by show 0 + 3 ≤ 3; decide) rfl (all_one rfl) .hd ?_
            refine R.asE rfl (by conv => lhs; whnf) ?_
            refine R.asE rfl (by conv => lhs; whnf) ?_
            refine TL.nil (Post.thnN ?_)
            refine T.has (Has.cons (.tl (.tl .hd)) (Has.cons (.tl (.tl .hd)) (Has.cons .hd Has.nil))) ?_
            refine T.ret ?_
            have hM : alloc_Take_m a0 = ((nb1c3_0, xb1c3_1, xb1c3_2), r84.1, r84.2) := by subst er84; subst e81; subst er23; rw [alloc_Take_m, if_neg c13, hTc1, LR.seq_go, if_f c20, LR.seq_go, hTc2, LR.seq_go, hTc3, LR.on_go, LR.seq_go]
            exact finR3 (v := .agg #[.int .i64 nb1c3_0, .slice Ab1c3_1 xb1c3_1.length pb1c3_1, .slice Ab1c3_2 xb1c3_2.length pb1c3_2]) (v' := .int .u64 (r84.1)) (v'' := .int .i64 (r84.2)) [cb1c3_1, cb1c3_2] rfl (.cellA (cs := [.int .i64 nb1c3_0, .slice Ab1c3_1 xb1c3_1.length pb1c3_1, .slice Ab1c3_2 xb1c3_2.length pb1c3_2]) (l := [.int .i64 nb1c3_0, .slice Ab1c3_1 xb1c3_1.length pb1c3_1, .slice Ab1c3_2 xb1c3_2.length pb1c3_2]) Tryd.isAgg25 Tryd.sizeOf25 rfl (.tl (.tl .hd)) rfl rfl) (.tmp rfl) (.tmp rfl) (List.sublist_append_left ([cb1c3_1, cb1c3_2] : Own) _) ⟨.slice Ab1c3_1 xb1c3_1.length pb1c3_1, .slice Ab1c3_2 xb1c3_2.length pb1c3_2, cb1c3_1, cb1c3_2, by first | rw [hM] | rfl, rfl, by rw [hM]; exact wb1c3_1, by rw [hM]; exact wb1c3_2⟩

end Go.SX

set_option linter.unusedVariables false
set_option linter.unusedSimpArgs false
namespace Go.SX
open Go Go.Proofs

def alloc_Room_m (a0 : Int × (List (Int × Bool)) × (List Int)) : Int :=
  if ((alloc_Check_m a0) : Int) ≠ 0 then 0 else ((if (IntKind.i64.wrap ((IntKind.i64.wrap ((IntKind.i64.wrap ((a0.2.2.length : Int) + a0.1)) + 2)) - (a0.2.1.length : Int))) < (IntKind.i64.wrap (a0.1 - (alloc_many_m a0))) then (IntKind.i64.wrap ((IntKind.i64.wrap ((IntKind.i64.wrap ((a0.2.2.length : Int) + a0.1)) + 2)) - (a0.2.1.length : Int))) else (IntKind.i64.wrap (a0.1 - (alloc_many_m a0)))))
set_option maxHeartbeats 3200000 in
theorem alloc_Room_c (H : Heap) {tG0 : TypeId} (hG0 : H 0 = some (.cells #[.int .i64 0, .bool true] tG0)) (a0 : Int × (List (Int × Bool)) × (List Int)) (va0_1 : Value) (ha0_1 : RdS slotE H va0_1 a0.2.1) (va0_2 : Value) (ha0_2 : RdS (intE .i64) H va0_2 a0.2.2) (hs : a0.2.1.length ≤ 2000000) (hf : a0.2.2.length ≤ 2000000) : Fv Tryd.prog (fnv 28) [.agg #[.int .i64 a0.1, va0_1, va0_2]] H (.int .i64 (alloc_Room_m a0)) := by
  refine Fc.of_body (N := 23) Tryd.func28 rfl (by kernel_rfl) rfl rfl ?_
  intro w0
  obtain ⟨Aa0_1, ca0_1, rfl, hca0_1, hda0_1, ha0_1⟩ := ha0_1.shape
  obtain ⟨Aa0_2, ca0_2, rfl, hca0_2, hda0_2, ha0_2⟩ := ha0_2.shape
  refine T.seq ?_
  refine T.region ?_
  refine R.box rfl (by conv => lhs; whnf) ?_
  intro b1
  refine R.asE rfl (by conv => lhs; whnf) ?_
  refine TL.shut .hd ?_
  intro Hb1_1 sb1_1 qb1_1
  have hb1_1 : Hb1_1 b1 = some (.cells #[.int .i64 (a0.1), .slice Aa0_1 a0.2.1.length ca0_1, .slice Aa0_2 a0.2.2.length ca0_2] 25) := shut1 qb1_1
  refine TL.nil (Post.thnN ?_)
  refine T.seq ?_
  refine T.seq ?_
  refine T.region ?_
  refine R.ldXH (cs := [.int .i64 (a0.1), .slice Aa0_1 a0.2.1.length ca0_1, .slice Aa0_2 a0.2.2.length ca0_2]) (l := [.int .i64 (a0.1), .slice Aa0_1 a0.2.1.length ca0_1, .slice Aa0_2 a0.2.2.length ca0_2]) Tryd.isAgg25 Tryd.sizeOf25 rfl rfl hb1_1 rfl rfl ?_
  refine R.callv rfl rfl rfl (alloc_Check_c _ (sb1_1 _ _ hG0) a0 _ (ha0_1.mono sb1_1) _ (ha0_2.mono sb1_1) (by first | omega | (simp; done) | (simp; omega) | (simp at *; omega)) (by first | omega | (simp; done) | (simp; omega) | (simp at *; omega))) ?_
  refine R.neq rfl rfl rfl ?_
  refine TL.nil (Post.thnN ?_)
  refine T.condD rfl (fun c5 => ?_) (fun c5 => ?_)
  · refine T.set 5 (.bool true) (congrArg Value.bool (decide_eq_true c5)) ?_
    refine T.seq ?_
    refine T.region ?_
    refine R.asE rfl (by conv => lhs; whnf) ?_
    refine TL.nil (Post.thnN ?_)
    refine T.has Has.nil ?_
    refine T.ret (Post.thnR ?_)
    have hM : alloc_Room_m a0 = 0 := by rw [alloc_Room_m, if_pos c5]
    exact fin1L (v := .int .i64 0) [] rfl rfl (List.Sublist.refl _) ⟨rfl, by first | rw [hM] | rfl⟩
  · refine T.set 5 (.bool false) (congrArg Value.bool (decide_eq_false c5)) ?_
    refine T.skip (Post.thnN ?_)
    refine T.seq ?_
    refine T.draw Tryd_mixed (by kernel_rfl) ?_
    refine Plan.v 0 [1, 2, 3, 4, 5, 6, 7, 8, 9, 10, 11, 12, 13, 14, 15, 16, 17] (by kernel_rfl) (by kernel_rfl) (by kernel_rfl) (by kernel_rfl) rfl (fun _ _ h_ => R.fldA Tryd.underlying25 rfl Tryd.sizeOf3 (by decide) rfl rfl (TL.nil h_)) ?_
    refine Plan.v 1 [2, 3, 4, 5, 6, 7, 8, 9, 10, 11, 12, 13, 14, 15, 16, 17] (by kernel_rfl) (by kernel_rfl) (by kernel_rfl) (by kernel_rfl) rfl (fun _ _ h_ => R.ldH Tryd.isAgg3 rfl rfl hb1_1 rfl (TL.nil h_)) ?_
    refine Plan.v 2 [3, 4, 5, 6, 7, 8, 9, 10, 11, 12, 13, 14, 15, 16, 17] (by kernel_rfl) (by kernel_rfl) (by kernel_rfl) (by kernel_rfl) rfl (fun _ _ h_ => R.ldXH (cs := [.int .i64 (a0.1), .slice Aa0_1 a0.2.1.length ca0_1, .slice Aa0_2 a0.2.2.length ca0_2]) (l := [.int .i64 (a0.1), .slice Aa0_1 a0.2.1.length ca0_1, .slice Aa0_2 a0.2.2.length ca0_2]) Tryd.isAgg25 Tryd.sizeOf25 rfl rfl hb1_1 rfl rfl (TL.nil h_)) ?_
    refine Plan.v 3 [4, 5, 6, 7, 8, 9, 10, 11, 12, 13, 14, 15, 16, 17] (by kernel_rfl) (by kernel_rfl) (by kernel_rfl) (by kernel_rfl) rfl (fun _ _ h_ => R.callv rfl rfl rfl (alloc_many_c _ a0 _ (ha0_1.mono sb1_1) _ (ha0_2.mono sb1_1)) (TL.nil h_)) ?_
    refine Plan.v 4 [5, 6, 7, 8, 9, 10, 11, 12, 13, 14, 15, 16, 17] (by kernel_rfl) (by kernel_rfl) (by kernel_rfl) (by kernel_rfl) rfl (fun _ _ h_ => R.sub rfl rfl rfl (TL.nil h_)) ?_
    refine Plan.v 5 [6, 7, 8, 9, 10, 11, 12, 13, 14, 15, 16, 17] (by kernel_rfl) (by kernel_rfl) (by kernel_rfl) (by kernel_rfl) rfl (fun _ _ h_ => R.fldA Tryd.underlying25 rfl Tryd.sizeOf23 (by decide) rfl rfl (TL.nil h_)) ?_
    refine Plan.v 6 [7, 8, 9, 10, 11, 12, 13, 14, 15, 16, 17] (by kernel_rfl) (by kernel_rfl) (by kernel_rfl) (by kernel_rfl) rfl (fun _ _ h_ => R.ldH Tryd.isAgg23 rfl rfl hb1_1 rfl (TL.nil h_)) ?_
    refine Plan.v 7 [8, 9, 10, 11, 12, 13, 14, 15, 16, 17] (by kernel_rfl) (by kernel_rfl) (by kernel_rfl) (by kernel_rfl) rfl (fun _ _ h_ => R.len Tryd.underlying23 rfl rfl (TL.nil h_)) ?_
    refine Plan.v 8 [9, 10, 11, 12, 13, 14, 15, 16, 17] (by kernel_rfl) (by kernel_rfl) (by kernel_rfl) (by kernel_rfl) rfl (fun _ _ h_ => R.fldA Tryd.underlying25 rfl Tryd.sizeOf3 (by decide) rfl rfl (TL.nil h_)) ?_
    refine Plan.v 9 [10, 11, 12, 13, 14, 15, 16, 17] (by kernel_rfl) (by kernel_rfl) (by kernel_rfl) (by kernel_rfl) rfl (fun _ _ h_ => R.ldH Tryd.isAgg3 rfl rfl hb1_1 rfl (TL.nil h_)) ?_
    refine Plan.v 10 [11, 12, 13, 14, 15, 16, 17] (by kernel_rfl) (by kernel_rfl) (by kernel_rfl) (by kernel_rfl) rfl (fun _ _ h_ => R.add rfl rfl rfl (TL.nil h_)) ?_
    refine Plan.v 11 [12, 13, 14, 15, 16, 17] (by kernel_rfl) (by kernel_rfl) (by kernel_rfl) (by kernel_rfl) rfl (fun _ _ h_ => R.add rfl rfl rfl (TL.nil h_)) ?_
    refine Plan.v 12 [13, 14, 15, 16, 17] (by kernel_rfl) (by kernel_rfl) (by kernel_rfl) (by kernel_rfl) rfl (fun _ _ h_ => R.fldA Tryd.underlying25 rfl Tryd.sizeOf22 (by decide) rfl rfl (TL.nil h_)) ?_
    refine Plan.v 13 [14, 15, 16, 17] (by kernel_rfl) (by kernel_rfl) (by kernel_rfl) (by kernel_rfl) rfl (fun _ _ h_ => R.ldH Tryd.isAgg22 rfl rfl hb1_1 rfl (TL.nil h_)) ?_
    refine Plan.v 14 [15, 16, 17] (by kernel_rfl) (by kernel_rfl) (by kernel_rfl) (by kernel_rfl) rfl (fun _ _ h_ => R.len Tryd.underlying22 rfl rfl (TL.nil h_)) ?_
    refine Plan.v 15 [16, 17] (by kernel_rfl) (by kernel_rfl) (by kernel_rfl) (by kernel_rfl) rfl (fun _ _ h_ => R.sub rfl rfl rfl (TL.nil h_)) ?_
    refine Plan.v 16 [17] (by kernel_rfl) (by kernel_rfl) (by kernel_rfl) (by kernel_rfl) rfl (fun _ _ h_ => R.min2 rfl rfl rfl (TL.nil h_)) ?_
    refine Plan.v 17 [] (by kernel_rfl) (by kernel_rfl) (by kernel_rfl) (by kernel_rfl) rfl (fun _ _ h_ => R.asE rfl (by conv => lhs; whnf) (TL.nil h_)) ?_
    refine Plan.done (Post.thnN ?_)
    refine T.has Has.nil ?_
    refine T.ret ?_
    have hM : alloc_Room_m a0 = (if (IntKind.i64.wrap ((IntKind.i64.wrap ((IntKind.i64.wrap ((a0.2.2.length : Int) + a0.1)) + 2)) - (a0.2.1.length : Int))) < (IntKind.i64.wrap (a0.1 - (alloc_many_m a0))) then (IntKind.i64.wrap ((IntKind.i64.wrap ((IntKind.i64.wrap ((a0.2.2.length : Int) + a0.1)) + 2)) - (a0.2.1.length : Int))) else (IntKind.i64.wrap (a0.1 - (alloc_many_m a0)))) := by rw [alloc_Room_m, if_neg c5]
    exact fin1L (v := .int .i64 (if (IntKind.i64.wrap ((IntKind.i64.wrap ((IntKind.i64.wrap ((a0.2.2.length : Int) + a0.1)) + 2)) - (a0.2.1.length : Int))) < (IntKind.i64.wrap (a0.1 - (alloc_many_m a0))) then (IntKind.i64.wrap ((IntKind.i64.wrap ((IntKind.i64.wrap ((a0.2.2.length : Int) + a0.1)) + 2)) - (a0.2.1.length : Int))) else (IntKind.i64.wrap (a0.1 - (alloc_many_m a0))))) [] rfl rfl (List.Sublist.refl _) ⟨rfl, by first | rw [hM] | rfl⟩

def alloc_Alive_m (a0 : Int × (List (Int × Bool)) × (List Int)) (a1 : Int) : Bool :=
  if ((alloc_Check_m a0) : Int) = 0 then ((alloc_alive_m a0 a1)) else false
set_option maxHeartbeats 3200000 in
theorem alloc_Alive_c (H : Heap) {tG0 : TypeId} (hG0 : H 0 = some (.cells #[.int .i64 0, .bool true] tG0)) (a0 : Int × (List (Int × Bool)) × (List Int)) (va0_1 : Value) (ha0_1 : RdS slotE H va0_1 a0.2.1) (va0_2 : Value) (ha0_2 : RdS (intE .i64) H va0_2 a0.2.2) (a1 : Int) (hs : a0.2.1.length ≤ 2000000) (hf : a0.2.2.length ≤ 2000000) : Fv Tryd.prog (fnv 29) [.agg #[.int .i64 a0.1, va0_1, va0_2], .int .u64 a1] H (.bool (alloc_Alive_m a0 a1)) := by
  refine Fc.of_body (N := 13) Tryd.func29 rfl (by kernel_rfl) rfl rfl ?_
  intro w0
  obtain ⟨Aa0_1, ca0_1, rfl, hca0_1, hda0_1, ha0_1⟩ := ha0_1.shape
  obtain ⟨Aa0_2, ca0_2, rfl, hca0_2, hda0_2, ha0_2⟩ := ha0_2.shape
  refine T.seq ?_
  refine T.region ?_
  refine R.box rfl (by conv => lhs; whnf) ?_
  intro b2
  refine R.asE rfl (by conv => lhs; whnf) ?_
  refine TL.shut .hd ?_
  intro Hb2_1 sb2_1 qb2_1
  have hb2_1 : Hb2_1 b2 = some (.cells #[.int .i64 (a0.1), .slice Aa0_1 a0.2.1.length ca0_1, .slice Aa0_2 a0.2.2.length ca0_2] 25) := shut1 qb2_1
  refine TL.nil (Post.thnN ?_)
  refine T.seq ?_
  refine T.region ?_
  refine R.ldXH (cs := [.int .i64 (a0.1), .slice Aa0_1 a0.2.1.length ca0_1, .slice Aa0_2 a0.2.2.length ca0_2]) (l := [.int .i64 (a0.1), .slice Aa0_1 a0.2.1.length ca0_1, .slice Aa0_2 a0.2.2.length ca0_2]) Tryd.isAgg25 Tryd.sizeOf25 rfl rfl hb2_1 rfl rfl ?_
  refine R.callv rfl rfl rfl (alloc_Check_c _ (sb2_1 _ _ hG0) a0 _ (ha0_1.mono sb2_1) _ (ha0_2.mono sb2_1) (by first | omega | (simp; done) | (simp; omega) | (simp at *; omega)) (by first | omega | (simp; done) | (simp; omega) | (simp at *; omega))) ?_
  refine R.eql rfl rfl rfl ?_
  refine R.mvE rfl (by conv => lhs; whnf) ?_
  refine TL.gsplitD 8 rfl (fun g8 => ?_) (fun g8 => ?_)
  · refine R.ldXH (cs := [.int .i64 (a0.1), .slice Aa0_1 a0.2.1.length ca0_1, .slice Aa0_2 a0.2.2.length ca0_2]) (l := [.int .i64 (a0.1), .slice Aa0_1 a0.2.1.length ca0_1, .slice Aa0_2 a0.2.2.length ca0_2]) Tryd.isAgg25 Tryd.sizeOf25 rfl rfl hb2_1 rfl rfl ?_
    refine R.mvE rfl (by conv => lhs; whnf) ?_
    refine R.callv rfl rfl rfl (alloc_alive_c _ a0 _ (ha0_1.mono sb2_1) _ (ha0_2.mono sb2_1) (a1) (by first | omega | (simp; done) | (simp; omega) | (simp at *; omega)) (by first | omega | (simp; done) | (simp; omega) | (simp at *; omega))) ?_
    refine R.pkTE rfl rfl (by conv => lhs; whnf) ?_
    refine R.asE rfl (by conv => lhs; whnf) ?_
    refine TL.nil (Post.thnN ?_)
    refine T.has Has.nil ?_
    refine T.ret ?_
    have hM : alloc_Alive_m a0 a1 = (alloc_alive_m a0 a1) := by rw [alloc_Alive_m, if_pos g8]
    exact fin1L (v := .bool ((alloc_alive_m a0 a1))) [] rfl rfl (List.Sublist.refl _) ⟨rfl, by first | rw [hM] | rfl⟩
  · refine TL.off rfl rfl rfl ?_
    refine TL.off rfl rfl rfl ?_
    refine TL.off rfl rfl rfl ?_
    refine R.pkFE rfl rfl (by conv => lhs; whnf) ?_
    refine R.asE rfl (by conv => lhs; whnf) ?_
    refine TL.nil (Post.thnN ?_)
    refine T.has Has.nil ?_
    refine T.ret ?_
    have hM : alloc_Alive_m a0 a1 = false := by rw [alloc_Alive_m, if_neg g8]
    exact fin1L (v := .bool false) [] rfl rfl (List.Sublist.refl _) ⟨rfl, by first | rw [hM] | rfl⟩

def alloc_At_m (a0 : Int × (List (Int × Bool)) × (List Int)) (a1 : Int) : Int × Bool :=
  LR.seq (if ((alloc_Check_m a0) : Int) ≠ 0 then true else (if a1 < 1 then true else (if (a0.2.1.length : Int) < a1 then true else (!(a0.2.1.getD (((a1 - 1)).toNat) (((0, false) : Int × Bool) : Int × Bool)).2))) : Bool) (fun sc1 => if sc1 = true then ((0, false)) else (LR.seq (ident_Entity_m a1 (a0.2.1.getD (((a1 - 1)).toNat) (((0, false) : Int × Bool) : Int × Bool)).1) (fun r41 => (r41.1, (decide (r41.2 = 0))))))
def alloc_All_r1  : List (Int × (Int × Bool)) → ((List Int)) → (List Int)
  | [], sr1 => sr1
  | yr1 :: ysr1, sr1 => LR.seq (ident_Entity_m yr1.1 yr1.2.1) (fun r19 => alloc_All_r1 ysr1 ((sr1 ++ [r19.1])))
def alloc_All_m (a0 : Int × (List (Int × Bool)) × (List Int)) : (List Int) :=
  if ((alloc_Check_m a0) : Int) ≠ 0 then [] else (LR.seq (alloc_living_m a0) (fun r12 => LR.seq (alloc_All_r1 r12 []) (fun or1 => or1)))
set_option maxHeartbeats 3200000 in
theorem alloc_All_c (H : Heap) {tG0 : TypeId} (hG0 : H 0 = some (.cells #[.int .i64 0, .bool true] tG0)) (a0 : Int × (List (Int × Bool)) × (List Int)) (va0_1 : Value) (ha0_1 : RdS slotE H va0_1 a0.2.1) (va0_2 : Value) (ha0_2 : RdS (intE .i64) H va0_2 a0.2.2) (hs : a0.2.1.length ≤ 2000000) (hf : a0.2.2.length ≤ 2000000) : Fc Tryd.prog (fnv 27) [.agg #[.int .i64 a0.1, va0_1, va0_2]] H [] (fun v' H' L' => ∃ u0_0 c0_0, v' = u0_0 ∧ L' = [c0_0] ∧ OwnS (intE .u64) 32 H' u0_0 (alloc_All_m a0) c0_0) := by
  refine Fc.of_body (N := 27) Tryd.func27 rfl (by kernel_rfl) rfl rfl ?_
  intro w0
  obtain ⟨Aa0_1, ca0_1, rfl, hca0_1, hda0_1, ha0_1⟩ := ha0_1.shape
  obtain ⟨Aa0_2, ca0_2, rfl, hca0_2, hda0_2, ha0_2⟩ := ha0_2.shape
  refine T.seq ?_
  refine T.region ?_
  refine R.box rfl (by conv => lhs; whnf) ?_
  intro b1
  refine R.asE rfl (by conv => lhs; whnf) ?_
  refine TL.shut .hd ?_
  intro Hb1_1 sb1_1 qb1_1
  have hb1_1 : Hb1_1 b1 = some (.cells #[.int .i64 (a0.1), .slice Aa0_1 a0.2.1.length ca0_1, .slice Aa0_2 a0.2.2.length ca0_2] 25) := shut1 qb1_1
  refine TL.nil (Post.thnN ?_)
  refine T.seq ?_
  refine T.seq ?_
  refine T.region ?_
  refine R.ldXH (cs := [.int .i64 (a0.1), .slice Aa0_1 a0.2.1.length ca0_1, .slice Aa0_2 a0.2.2.length ca0_2]) (l := [.int .i64 (a0.1), .slice Aa0_1 a0.2.1.length ca0_1, .slice Aa0_2 a0.2.2.length ca0_2]) Tryd.isAgg25 Tryd.sizeOf25 rfl rfl hb1_1 rfl rfl ?_
  refine R.callv rfl rfl rfl (alloc_Check_c _ (sb1_1 _ _ hG0) a0 _ (ha0_1.mono sb1_1) _ (ha0_2.mono sb1_1) (by first | omega | (simp; done) | (simp; omega) | (simp at *; omega)) (by first | omega | (simp; done) | (simp; omega) | (simp at *; omega))) ?_
  refine R.neq rfl rfl rfl ?_
  refine TL.nil (Post.thnN ?_)
  refine T.condD rfl (fun c10 => ?_) (fun c10 => ?_)
  · refine T.set 10 (.bool true) (congrArg Value.bool (decide_eq_true c10)) ?_
    refine T.seq ?_
    refine T.region ?_
    refine R.asE rfl (by conv => lhs; whnf) ?_
    refine TL.nil (Post.thnN ?_)
    refine T.has (Has.none Has.nil) ?_
    refine T.ret (Post.thnR ?_)
    have hM : alloc_All_m a0 = [] := by rw [alloc_All_m, if_pos c10]
    exact fin1L (v := .slice none 0 0) [[]] rfl rfl (List.Sublist.refl _) ⟨.slice none 0 0, [], by first | rw [hM] | rfl, rfl, by rw [hM]; exact OwnS.nil⟩
  · refine T.set 10 (.bool false) (congrArg Value.bool (decide_eq_false c10)) ?_
    refine T.skip (Post.thnN ?_)
    refine T.seq ?_
    refine T.region ?_
    refine R.alloc Tryd.zeroValue29 rfl ?_
    intro b3
    refine TL.nil (Post.thnN ?_)
    refine T.seq ?_
    refine T.seq ?_
    refine T.region ?_
    refine R.ldXH (cs := [.int .i64 (a0.1), .slice Aa0_1 a0.2.1.length ca0_1, .slice Aa0_2 a0.2.2.length ca0_2]) (l := [.int .i64 (a0.1), .slice Aa0_1 a0.2.1.length ca0_1, .slice Aa0_2 a0.2.2.length ca0_2]) Tryd.isAgg25 Tryd.sizeOf25 rfl rfl hb1_1 rfl rfl ?_
    obtain ⟨r12, er12⟩ : ∃ r, r = (alloc_living_m a0) := ⟨_, rfl⟩
    refine R.callp rfl rfl rfl (alloc_living_c _ a0 _ (ha0_1.mono sb1_1) _ (ha0_2.mono sb1_1)) ?_
    intro v12 H12 s12 q12
    rw [← er12] at q12
    obtain ⟨u12_0_0, rfl, w12_0_0⟩ := q12
    have tl12 := living_len _ _ er12
    refine TL.nil (Post.thnN ?_)
    refine T.block ?_
    refine T.rangeFunc (xs := r12) rfl rfl (enters_of Tryd.func112 (by kernel_rfl) rfl) w12_0_0 (fun _ _ _ h => by subst h; rfl) rfl (fun pre H' L' => ∃ (vb3r1_0 : Value) (xb3r1_0 : List Int) (cb3r1_0 : Chunk), Has L' [[(b3, .cells #[vb3r1_0] 29)], cb3r1_0] ∧ OwnS (intE .u64) 32 H' vb3r1_0 xb3r1_0 cb3r1_0 ∧ xb3r1_0.length ≤ pre.length ∧ alloc_All_r1 (r12.drop pre.length) xb3r1_0 = alloc_All_r1 r12 []) (fun _ _ _ _ => False) (fun pre H H' L hle ⟨vb3r1_0, xb3r1_0, cb3r1_0, hL, wb3r1_0, hB0, hQ⟩ => ⟨vb3r1_0, xb3r1_0, cb3r1_0, hL, (wb3r1_0.mono hle), hB0, hQ⟩) (fun _ _ _ _ _ _ h => h) ?_ ?_ ?_ ?_
    · exact ⟨.slice none 0 0, [], [], (Has.cons .hd (Has.none Has.nil)), OwnS.nil, (by first | omega | (simp; done) | (simp; omega) | (simp at *; omega)), (by rfl)⟩
    · intro lr1 rr1 wr1 prer1 yr1 vsr1 Hr1 Lr1 sr1 hpr1 hIr1 hYr1
      obtain ⟨vb3r1_0, xb3r1_0, cb3r1_0, hLr1, wb3r1_0, hBr1_0, hQr1⟩ := hIr1
      obtain ⟨Ab3r1_0, pb3r1_0, rfl, mb3r1_0, nb3r1_0_⟩ := OwnS.shape wb3r1_0
      obtain rfl := hYr1
      refine T.has hLr1 ?_
      have hlpr1 : prer1.length + 1 ≤ r12.length := by have h0 := hpr1.length_le; simpa using h0
      refine T.seq ?_
      refine T.region ?_
      refine R.asE rfl (by conv => lhs; whnf) ?_
      refine TL.nil (Post.thnN ?_)
      refine T.region ?_
      refine R.alloc Tryd.zeroValue101 rfl ?_
      intro b5
      refine R.stX (old := [.int .i64 0, .bool false]) (l := [.int .i64 (yr1.2.1), .bool (yr1.2.2)]) (new := [.int .i64 (yr1.2.1), .bool (yr1.2.2)]) (et := 101) Tryd.sizeOf101 rfl rfl rfl rfl rfl (by show 0 + 2 ≤ 2; decide) rfl (all_one rfl) .hd ?_
      refine TL.shut .hd ?_
      intro Hb5_2 sb5_2 qb5_2
      have hb5_2 : Hb5_2 b5 = some (.cells #[.int .i64 (yr1.2.1), .bool (yr1.2.2)] 101) := shut1 qb5_2
      refine TL.nil ?_
      refine onlyN.mk ?_
      refine T.block ?_
      refine T.seq ?_
      refine T.region ?_
      refine R.mvE rfl (by conv => lhs; whnf) ?_
      refine R.fldA Tryd.underlying101 rfl Tryd.sizeOf3 (by decide) rfl rfl ?_
      refine R.ldH Tryd.isAgg3 rfl rfl hb5_2 rfl ?_
      obtain ⟨r19, er19⟩ : ∃ r, r = (ident_Entity_m yr1.1 yr1.2.1) := ⟨_, rfl⟩
      refine R.callv (v := .tuple #[.int .u64 r19.1, .int .i64 r19.2]) rfl rfl rfl (by rw [er19]; exact ident_Entity_c _ (yr1.1) (yr1.2.1)) ?_
      refine R.mvE rfl (by conv => lhs; whnf) ?_
      refine R.ext rfl rfl rfl ?_
      refine R.ext rfl rfl rfl ?_
      refine R.asE rfl (by conv => lhs; whnf) ?_
      refine R.asE rfl (by conv => lhs; whnf) ?_
      refine TL.nil (Post.thnN ?_)
      refine T.region ?_
      refine R.ld Tryd.isAgg29 rfl rfl .hd rfl ?_
      refine R.mvE rfl (by conv => lhs; whnf) ?_
      refine R.bs rfl (run_buildSlice1 Tryd.underlying29 Tryd.sizeOf32 Tryd.zeroValue32 rfl rfl) ?_
      intro b24
      have w24 : OwnS (intE .u64) 32 Hb5_2 (.slice (some ⟨b24, 0, none⟩) 1 1) [r19.1] [(b24, .cells #[.int .u64 (r19.1)] 32)] := OwnS.lit (xs := [r19.1]) (cellsOf_cons (a := [.int .u64 (r19.1)]) rfl cellsOf_nil) (by show 1 ≤ maxLen; decide)
      obtain ⟨k25, y25, r25⟩ := Src.ownA w24
      refine R.app (E := (intE .u64)) (e := 32) (xs := xb3r1_0) (ys := [r19.1]) Tryd_ty29 rfl rfl rfl (OwnS.mono wb3r1_0 sb5_2) (.tl (.tl .hd)) (r25 _ .hd) y25 (by (try simp only [List.length_append, List.length_cons, List.length_nil, List.length_replicate, List.length_take, List.length_drop]); omega) (by (try simp only [List.length_append, List.length_cons, List.length_nil, List.length_replicate, List.length_take, List.length_drop]); omega) ?_
      intro v25 c25 w25
      obtain ⟨A25, p25, rfl, m25, n25⟩ := OwnS.shape w25
      refine TL.del (.tl .hd) ?_
      refine R.stX (old := [.slice Ab3r1_0 xb3r1_0.length pb3r1_0]) (l := [.slice A25 (xb3r1_0 ++ [r19.1]).length p25]) (new := [.slice A25 (xb3r1_0 ++ [r19.1]).length p25]) (et := 29) Tryd.sizeOf29 rfl rfl rfl (cells1 rfl) rfl (by show 0 + 1 ≤ 1; decide) rfl (all_one rfl) (.tl .hd) ?_
      refine TL.nil (Post.blkN ?_)
      refine id ?_
      exact ⟨.slice A25 (xb3r1_0 ++ [r19.1]).length p25, (xb3r1_0 ++ [r19.1]), c25, (Has.cons (.tl .hd) (Has.cons .hd Has.nil)), w25, (by first | omega | (simp; done) | (simp; omega) | (simp at *; omega)), (by subst er19; rw [← hQr1, drop_pre hpr1, alloc_All_r1]; rw [LR.seq_go])⟩
    · intro Dr1 Hr1 Lr1 sr1 hIr1
      obtain ⟨vb3r1_0, xb3r1_0, cb3r1_0, hLr1, wb3r1_0, hBr1_0, hQr1⟩ := hIr1
      obtain ⟨Ab3r1_0, pb3r1_0, rfl, mb3r1_0, nb3r1_0_⟩ := OwnS.shape wb3r1_0
      have hEr1 : alloc_All_r1 r12 [] = xb3r1_0 := by rw [← hQr1, List.drop_length, alloc_All_r1]
      refine id (Post.blkN ?_)
      refine id (Post.thnN ?_)
      refine T.has hLr1 ?_
      refine T.seq ?_
      refine T.region ?_
      refine R.ld Tryd.isAgg29 rfl rfl .hd rfl ?_
      refine R.asE rfl (by conv => lhs; whnf) ?_
      refine TL.nil (Post.thnN ?_)
      refine T.has (Has.cons (.tl .hd) Has.nil) ?_
      refine T.ret ?_
      have hM : alloc_All_m a0 = xb3r1_0 := by subst er12; rw [alloc_All_m, if_neg c10, LR.seq_go, hEr1, LR.seq_go]
      exact fin1L (v := .slice Ab3r1_0 xb3r1_0.length pb3r1_0) [cb3r1_0] rfl rfl (List.Sublist.refl _) ⟨.slice Ab3r1_0 xb3r1_0.length pb3r1_0, cb3r1_0, by first | rw [hM] | rfl, rfl, by rw [hM]; exact wb3r1_0⟩
    · intro Dr1 cr1 prer1 yr1 Hr1 Lr1 sr1 hpr1 hIr1
      exact hIr1.elim

end Go.SX

set_option linter.unusedVariables false
set_option linter.unusedSimpArgs false
namespace Go.SX
open Go Go.Proofs

def windroseref02_Take_m (a0 : Int × (List (Int × Bool)) × (List Int)) : (Int × (List (Int × Bool)) × (List Int)) × Int × Int :=
  if ((windroseref02_alive_m a0) : Int) = a0.1 then ((((0, [], []) : Int × (List (Int × Bool)) × (List Int)), 0, 6)) else (if (0 : Int) < (a0.2.2.length : Int) then (((a0.1, (a0.2.1.set ((((a0.2.2.getD ((((a0.2.2.length : Int) - 1)).toNat) (0 : Int)) - 1)).toNat) (((IntKind.i64.wrap ((a0.2.1.getD ((((a0.2.2.getD ((((a0.2.2.length : Int) - 1)).toNat) (0 : Int)) - 1)).toNat) (((0, false) : Int × Bool) : Int × Bool)).1 + 1)), true))), (a0.2.2.take ((((a0.2.2.length : Int) - 1)).toNat))), (windroseref02_Entity_m (a0.2.2.getD ((((a0.2.2.length : Int) - 1)).toNat) (0 : Int)) (((a0.2.1.set ((((a0.2.2.getD ((((a0.2.2.length : Int) - 1)).toNat) (0 : Int)) - 1)).toNat) (((IntKind.i64.wrap ((a0.2.1.getD ((((a0.2.2.getD ((((a0.2.2.length : Int) - 1)).toNat) (0 : Int)) - 1)).toNat) (((0, false) : Int × Bool) : Int × Bool)).1 + 1)), true)))).getD ((((a0.2.2.getD ((((a0.2.2.length : Int) - 1)).toNat) (0 : Int)) - 1)).toNat) (((0, false) : Int × Bool) : Int × Bool)).1), 0)) else (if (a0.2.1.length : Int) < (IntKind.i64.wrap (a0.1 + 2)) then (LR.seq (windroseref02_Entity_m (((a0.2.1 ++ [((0, true) : Int × Bool)]).length : Int)) 0) (fun r79 => (((a0.1, (a0.2.1 ++ [((0, true) : Int × Bool)]), []) : Int × (List (Int × Bool)) × (List Int)), r79, 0))) else ((((0, [], []) : Int × (List (Int × Bool)) × (List Int)), 0, 121))))
def windroseref02_has_l1 (a1 : Int) : List Int → Unit → LR (Bool) (Unit)
  | [], sl1 => .go ()
  | yl1 :: ysl1, sl1 => if yl1 = a1 then (.ret true) else (windroseref02_has_l1 a1 ysl1 ())
def windroseref02_has_m (a0 : List Int) (a1 : Int) : Bool :=
  LR.on (windroseref02_has_l1 a1 a0 ()) (fun r => r) (fun ol1 => false)
def windroseref02_Give_l5 (a1 : List Int) : List (Int × Bool) → Nat → (Int × (List (Int × Bool)) × (List Int)) → Int × (List (Int × Bool)) × (List Int)
  | [], kl5, sl5 => (sl5.1, sl5.2.1, sl5.2.2)
  | yl5 :: ysl5, kl5, sl5 => LR.seq (windroseref02_has_m a1 ((windroseref02_Entity_m (((kl5 : Int) + 1)) yl5.1))) (fun r64 => LR.seq (if r64 = true then (if yl5.1 < 7 then ((yl5.1, false, sl5.1, sl5.2.1, (sl5.2.2 ++ [((kl5 : Int) + 1)]))) else ((yl5.1, false, sl5.1, sl5.2.1, sl5.2.2))) else ((yl5.1, yl5.2, sl5.1, sl5.2.1, sl5.2.2)) : Int × Bool × Int × (List (Int × Bool)) × (List Int)) (fun sc6 => windroseref02_Give_l5 a1 ysl5 (kl5 + 1) ((sc6.2.2.1, (sc6.2.2.2.1 ++ [(sc6.1, sc6.2.1)]), sc6.2.2.2.2))))
def windroseref02_Give_l2 (a1 : List Int) : List Int → Nat → Unit → LR ((Int × (List (Int × Bool)) × (List Int)) × Int) (Unit)
  | [], kl2, sl2 => .go ()
  | yl2 :: ysl2, kl2, sl2 => LR.seq (if yl2 ≤ 2 then true else ((windroseref02_has_m (a1.take kl2) yl2)) : Bool) (fun sc3 => if sc3 = true then (.ret ((((0, [], []) : Int × (List (Int × Bool)) × (List Int)), 2))) else (windroseref02_Give_l2 a1 ysl2 (kl2 + 1) ()))
def windroseref02_Give_l1 (a0 : Int × (List (Int × Bool)) × (List Int)) : List Int → Unit → LR ((Int × (List (Int × Bool)) × (List Int)) × Int) (Unit)
  | [], sl1 => .go ()
  | yl1 :: ysl1, sl1 => if (!(windroseref02_Is_m a0 yl1)) = true then (.ret ((((0, [], []) : Int × (List (Int × Bool)) × (List Int)), 122))) else (windroseref02_Give_l1 a0 ysl1 ())
def windroseref02_Give_m (a0 : Int × (List (Int × Bool)) × (List Int)) (a1 : List Int) : (Int × (List (Int × Bool)) × (List Int)) × Int :=
  LR.on (windroseref02_Give_l1 a0 a1 ()) (fun r => r) (fun ol1 => LR.on (windroseref02_Give_l2 a1 a1 0 ()) (fun r => r) (fun ol2 => LR.seq ((a0.1, [], a0.2.2) : Int × (List (Int × Bool)) × (List Int)) (fun sc4 => LR.seq (windroseref02_Give_l5 a1 a0.2.1 0 ((sc4.1, sc4.2.1, sc4.2.2))) (fun ol5 => ((ol5.1, ol5.2.1, ol5.2.2), 0)))))
end Go.SX

set_option linter.unusedVariables false
set_option linter.unusedSimpArgs false
namespace Go.SX
open Go
def entI (i g : Int) : Int := i + g * 4294967296
theorem packed_eq {g i : Int} (hg : 0 ≤ g ∧ g ≤ 7) (hi : 0 ≤ i ∧ i ≤ 1048578) : ident_packed_m 0 g i = entI i g := by
  unfold ident_packed_m entI
  have := pack_eq (m := 0) (a := g) (b := i) (.inl rfl) (by omega) (by omega)
  rw [this]; unfold made; omega
theorem entity_ok {i g : Int} (hi : 1 ≤ i ∧ i ≤ 1048578) (hg : 0 ≤ g ∧ g ≤ 7) : ident_Entity_m i g = (entI i g, 0) := by
  unfold ident_Entity_m
  rw [within1.2 hi, within1.2 hg, packed_eq hg ⟨by omega, hi.2⟩]; rfl
def noAl : Al := (0, [], [])
/-- The last of those that may be used again. -/
def lastF (a : Al) : Int := a.2.2.getD (a.2.2.length - 1) 0
def genAt (l : List Sl2) (i : Int) : Int := (l.getD (i - 1).toNat (0, false)).1
def takeP (a : Al) : Al × Int × Int :=
  if (aliveN a.2.1 : Int) - 2 = a.1 then (noAl, 0, 6)
  else if a.2.2.length = 0 then (if (a.2.1.length : Int) < a.1 + 2 then ((a.1, a.2.1 ++ [(0, true)], []), (a.2.1.length : Int) + 1, 0) else (noAl, 0, 121))
  else ((a.1, a.2.1.set (lastF a - 1).toNat (genAt a.2.1 (lastF a) + 1, true), a.2.2.take (a.2.2.length - 1)), entI (lastF a) (genAt a.2.1 (lastF a) + 1), 0)
theorem Rt.last {a : Al} (h : Rt a) (h0 : a.2.2.length ≠ 0) : ∃ (j : Nat) (g : Int), lastF a = (j : Int) + 1 ∧ a.2.1[j]? = some (g, false) ∧ 0 ≤ g ∧ g < 7 ∧ 2 ≤ j ∧ genAt a.2.1 (lastF a) = g := by
  have hm : lastF a ∈ a.2.2 := by
    unfold lastF
    exact List.mem_of_getElem? (getD_get (by omega))
  obtain ⟨j, s, h1, h2, h3⟩ := h.free.1 hm
  obtain ⟨g, b⟩ := s
  simp [useB] at h2
  obtain ⟨rfl, h4⟩ := h2
  have hg := h.g j _ h1
  refine ⟨j, g, h3, h1, hg.1, h4, ?_, ?_⟩
  · rcases Nat.lt_or_ge j 2 with h5 | h5
    · have := hg.2.2 h5; simp at this
    · exact h5
  · unfold genAt
    rw [h3, show (((j : Int) + 1) - 1).toNat = j by omega, List.getD_eq_getElem?_getD, h1]; rfl
theorem lastF_toNat (a : Al) : a.2.2.getD (((a.2.2.length : Int) - 1)).toNat 0 = lastF a := by
  unfold lastF
  rw [show (((a.2.2.length : Int) - 1)).toNat = a.2.2.length - 1 by omega]
theorem take_rt {a : Al} (h : Rt a) : alloc_Take_m a = takeP a := by
  have h1 := h.n2
  have h2 := h.m2
  have h3 := h.flen
  have h4 := h.n1
  have h5 := h.m1
  have hwm : IntKind.i64.wrap (a.1 + 2) = a.1 + 2 := wrap_i64 (by omega) (by omega)
  unfold alloc_Take_m takeP
  rw [(check_iff (by omega)).1.2 h, if_neg (by decide), many_eq (by omega)]
  simp only [LR.seq, alloc_own_eq, lastF_toNat, decide_eq_true_eq, hwm]
  by_cases c1 : (aliveN a.2.1 : Int) - 2 = a.1
  · rw [if_pos c1, if_pos c1]; rfl
  rw [if_neg c1, if_neg c1]
  by_cases c2 : a.2.2.length = 0
  · rw [if_neg (by omega), if_pos c2]
    by_cases c3 : (a.2.1.length : Int) < a.1 + 2
    · rw [if_neg (by omega), if_pos c3]
      simp only [LR.on]
      have h0 : a.2.2 = [] := List.length_eq_zero_iff.1 c2
      rw [show (((a.2.1.length : Int) + 1 - 1)).toNat = a.2.1.length by omega, List.getD_eq_getElem?_getD, List.getElem?_append_right (Nat.le_refl _), Nat.sub_self, h0]
      have := entity_ok (i := (a.2.1.length : Int) + 1) (g := 0) (by omega) (by omega)
      simp only [List.getElem?_cons_zero, Option.getD_some, this]
      unfold entI; simp
    · rw [if_pos (by omega), if_neg c3]; rfl
  · rw [if_pos (by omega), if_neg c2]
    simp only [LR.on]
    obtain ⟨j, g, e1, e2, e3, e4, e5, e6⟩ := h.last c2
    have hj := (List.getElem?_eq_some_iff.1 e2).1
    have hw : IntKind.i64.wrap ((a.2.1.getD (lastF a - 1).toNat ((0 : Int), false)).1 + 1) = genAt a.2.1 (lastF a) + 1 := by
      have : (a.2.1.getD (lastF a - 1).toNat ((0 : Int), false)).1 = g := e6
      rw [this, e6]; exact wrap_i64 (by omega) (by omega)
    rw [hw]
    have hset : (a.2.1.set (lastF a - 1).toNat (genAt a.2.1 (lastF a) + 1, true)).getD (lastF a - 1).toNat ((0 : Int), false) = (genAt a.2.1 (lastF a) + 1, true) := by
      rw [List.getD_eq_getElem?_getD, List.getElem?_set_self (by rw [e1]; omega)]; rfl
    rw [hset]
    have := entity_ok (i := lastF a) (g := genAt a.2.1 (lastF a) + 1) (by omega) (by omega)
    simp only [this]
    rw [show (((a.2.2.length : Int) - 1)).toNat = a.2.2.length - 1 by omega]
theorem take_not {a : Al} (hs : a.2.1.length ≤ 2000000) (h : ¬ Rt a) : alloc_Take_m a = (noAl, 0, 120) := by
  have h1 : alloc_Check_m a = 120 := by
    rcases (check_iff hs).2 with h2 | h2
    · exact absurd ((check_iff hs).1.1 h2) h
    · exact h2
  unfold alloc_Take_m
  rw [h1, if_pos (by decide)]; rfl
theorem takeP_len {a : Al} (h : Rt a) : (takeP a).1.2.1.length ≤ 1100000 ∧ (takeP a).1.2.2.length ≤ 1100000 := by
  have h1 := h.n2
  have h2 := h.m2
  have h3 := h.flen
  unfold takeP
  split
  · simp [noAl]
  · split
    · split
      · simp only [List.length_append, List.length_cons, List.length_nil]; omega
      · simp [noAl]
    · simp only [List.length_set, List.length_take]; omega
theorem take_len {a : Al} (hs : a.2.1.length ≤ 2000000) : (alloc_Take_m a).1.2.1.length ≤ 1100000 ∧ (alloc_Take_m a).1.2.2.length ≤ 1100000 := by
  by_cases h : Rt a
  · rw [take_rt h]; exact takeP_len h
  · rw [take_not hs h]; simp [noAl]
end Go.SX

set_option linter.unusedVariables false
set_option linter.unusedSimpArgs false
namespace Go.SX
open Go
theorem new_len (n : Int) : (alloc_New_m n).1.2.1.length ≤ 2 ∧ (alloc_New_m n).1.2.2.length ≤ 0 := by
  unfold alloc_New_m
  simp only [LR.seq]
  repeat' split
  all_goals simp
def badAt (x : List Int) (k : Nat) : Bool := decide (x.getD k 0 ≤ 2) || (decide (0 < k) && decide (x.getD (k - 1) 0 = x.getD k 0))
abbrev GS := List Sl2 × Int × List Sl2 × List Int
def giveStep (i : Int) (s : GS) : GS := (s.1, s.2.1, s.2.2.1.set (i - 1).toNat (genAt s.2.2.1 i, false), if genAt s.2.2.1 i < 7 then s.2.2.2 ++ [i] else s.2.2.2)
theorem usable_f (g : Int) : alloc_usable_m (g, false) = decide (g < 7) := by unfold alloc_usable_m; simp
theorem give_step (x : List Int) (m k : Nat) (s : GS) : alloc_Give_l2 x (m + 1) k s = if badAt (sortI x) k = true then .ret (noAl, 2) else alloc_Give_l2 x m (k + 1) (giveStep ((sortI x).getD k 0) s) := by
  rw [alloc_Give_l2]
  simp only [LR.seq, usable_f]
  have e : (((k : Int) - 1)).toNat = k - 1 := by omega
  have hb : (if (sortI x).getD k 0 ≤ 2 then true else if (0 : Int) < (k : Int) then decide ((sortI x).getD (((k : Int) - 1)).toNat 0 = (sortI x).getD k 0) else false) = badAt (sortI x) k := by
    unfold badAt
    rw [e]
    by_cases h1 : (sortI x).getD k 0 ≤ 2
    · rw [if_pos h1, decide_eq_true h1]; rfl
    · rw [if_neg h1, decide_eq_false h1, Bool.false_or]
      by_cases h2 : 0 < k
      · rw [if_pos (by omega), decide_eq_true h2, Bool.true_and]
      · rw [if_neg (by omega), decide_eq_false h2, Bool.false_and]
  rw [hb]
  cases badAt (sortI x) k with
  | true => rfl
  | false =>
    rw [if_neg Bool.false_ne_true, if_neg Bool.false_ne_true]
    unfold giveStep genAt
    by_cases h : (s.2.2.1.getD ((sortI x).getD k 0 - 1).toNat ((0 : Int), false)).1 < 7
    · rw [if_pos (decide_eq_true h), if_pos h]
    · rw [if_neg (by rw [decide_eq_false h]; exact Bool.false_ne_true), if_neg h]
theorem giveStep_len (i : Int) (s : GS) : (giveStep i s).2.2.1.length = s.2.2.1.length ∧ (giveStep i s).2.2.2.length ≤ s.2.2.2.length + 1 := by
  unfold giveStep
  refine ⟨by simp, ?_⟩
  simp only
  split <;> simp
theorem give_l2_len (x : List Int) (N : Nat) : ∀ (m k : Nat) (s : GS), s.2.2.1.length ≤ N → s.2.2.2.length + m ≤ N →
    (∀ r, alloc_Give_l2 x m k s = .ret r → r.1.2.1.length ≤ N ∧ r.1.2.2.length ≤ N) ∧ (∀ t, alloc_Give_l2 x m k s = .go t → t.2.2.1.length ≤ N ∧ t.2.2.2.length ≤ N)
  | 0, k, s, h1, h2 => by
    rw [alloc_Give_l2]
    exact ⟨fun r h => (by cases h), fun t h => (by cases h; exact ⟨h1, by simpa using h2⟩)⟩
  | m + 1, k, s, h1, h2 => by
    rw [give_step]
    have hl := giveStep_len ((sortI x).getD k 0) s
    cases badAt (sortI x) k with
    | true => rw [if_pos rfl]; exact ⟨fun r h => (by cases h; simp [noAl]), fun t h => (by cases h)⟩
    | false =>
      rw [if_neg (by decide)]
      exact give_l2_len x N m (k + 1) _ (by omega) (by omega)
theorem give_l1_len : ∀ (l : List Int) (acc : List Int), (alloc_Give_l1 l acc).length = acc.length + l.length
  | [], acc => by simp [alloc_Give_l1]
  | y :: ys, acc => by rw [alloc_Give_l1]; simp only [LR.seq]; rw [give_l1_len ys]; simp; omega
theorem give_len {a : Al} {l : List Int} (hs : a.2.1.length ≤ 2000000) (hf : a.2.2.length ≤ 2000000) (hl : l.length ≤ 100) : (alloc_Give_m a l).1.2.1.length ≤ 1100000 ∧ (alloc_Give_m a l).1.2.2.length ≤ 1100000 := by
  unfold alloc_Give_m
  simp only [alloc_own_eq]
  split
  · simp
  · rename_i h
    have hr := (check_iff hs).1.1 (by omega)
    have h1 := hr.n2
    have h2 := hr.m2
    have h3 := hr.flen
    split
    · simp
    · simp only [LR.seq]
      have h4 := give_l1_len l []
      have h5 := give_l2_len (alloc_Give_l1 l []) 1100000 ((alloc_Give_l1 l []).length - 0) 0 (a.2.1, a.1, a.2.1, a.2.2) (by show a.2.1.length ≤ _; omega) (by show a.2.2.length + _ ≤ _; simp only [List.length_nil] at h4; omega)
      cases h6 : alloc_Give_l2 (alloc_Give_l1 l []) ((alloc_Give_l1 l []).length - 0) 0 (a.2.1, a.1, a.2.1, a.2.2) with
      | ret r => exact h5.1 r h6
      | go t => exact h5.2 t h6
theorem all_r1_len : ∀ (l : List (Int × Sl2)) (acc : List Int), (alloc_All_r1 l acc).length = acc.length + l.length
  | [], acc => by simp [alloc_All_r1]
  | y :: ys, acc => by rw [alloc_All_r1]; simp only [LR.seq]; rw [all_r1_len ys]; simp; omega
theorem all_len {a : Al} (hs : a.2.1.length ≤ 2000000) : (alloc_All_m a).length ≤ 2000000 := by
  unfold alloc_All_m
  split
  · simp
  · simp only [LR.seq]
    rw [all_r1_len]
    have := living_len a _ rfl
    simp only [List.length_nil]; omega
theorem wrapi_le (x : Int) (h : x ≤ 2000000) (h2 : -9000000000 ≤ x) : IntKind.i64.wrap x ≤ 2000000 := by rw [wrap_i64 (by omega) (by omega)]; exact h
theorem room_le {a : Al} (hs : a.2.1.length ≤ 2000000) : alloc_Room_m a ≤ 2000000 := by
  unfold alloc_Room_m
  by_cases h : alloc_Check_m a = 0
  · rw [if_neg (fun k => k h)]
    have hr := (check_iff hs).1.1 h
    have h1 := hr.m1
    have h2 := hr.m2
    have h3 := aliveN_le a.2.1
    rw [many_eq hs]
    have h4 := wrapi_le (a.1 - ((aliveN a.2.1 : Int) - 2)) (by omega) (by omega)
    split <;> omega
  · rw [if_pos h]; omega
end Go.SX

set_option linter.unusedVariables false
set_option linter.unusedSimpArgs false
namespace Go.SX
open Go
theorem perm_of_sub {l1 : List Int} (hd : l1.Nodup) : ∀ {l2 : List Int}, (∀ x ∈ l1, x ∈ l2) → l2.length ≤ l1.length → l1.Perm l2 := by
  induction l1 with
  | nil => intro l2 _ h; obtain rfl : l2 = [] := List.length_eq_zero_iff.1 (by simpa using h); exact List.Perm.refl _
  | cons a t ih =>
    intro l2 hs hl
    have ha := hs a (List.mem_cons_self ..)
    have hp := List.perm_cons_erase ha
    rw [List.nodup_cons] at hd
    refine List.Perm.trans (List.Perm.cons a (ih hd.2 (fun x hx => ?_) ?_)) hp.symm
    · exact (List.mem_erase_of_ne (fun e => hd.1 (by rw [← e]; exact hx))).2 (hs x (List.mem_cons_of_mem _ hx))
    · have := hp.length_eq
      simp only [List.length_cons] at this hl
      omega
theorem useL_up : ∀ (l : List Sl2) (k : Nat), (useL l k).Pairwise (· < ·)
  | [], k => List.Pairwise.nil
  | y :: ys, k => by
    rw [useL]
    split
    · refine List.Pairwise.cons (fun x hx => ?_) (useL_up ys (k + 1))
      obtain ⟨i, s, _, _, h⟩ := (useL_mem ys (k + 1) x).1 hx
      omega
    · exact useL_up ys (k + 1)
theorem useL_nodup (l : List Sl2) (k : Nat) : (useL l k).Nodup := (useL_up l k).imp (fun h => by intro e; omega)
theorem free_iff {slots : List Sl2} {free : List Int} : sortI free = useL slots 0 ↔ (∀ (i : Nat) (s : Sl2), slots[i]? = some s → free.count ((i : Int) + 1) = if useB s then 1 else 0) ∧ free.length = (useL slots 0).length := by
  constructor
  · intro h
    have hp : free.Perm (useL slots 0) := by rw [← h]; exact (sortI_perm free).symm
    refine ⟨fun i s hi => ?_, hp.length_eq⟩
    rw [hp.count_eq, (useL_nodup slots 0).count]
    by_cases hu : useB s = true
    · rw [if_pos ((useL_mem slots 0 _).2 ⟨i, s, hi, hu, by simp⟩), if_pos hu]
    · rw [if_neg (fun hm => ?_), if_neg hu]
      obtain ⟨j, t, h1, h2, h3⟩ := (useL_mem slots 0 _).1 hm
      have : i = j := by omega
      subst this
      rw [hi] at h1; injection h1 with h1; subst h1; exact hu h2
  · rintro ⟨h1, h2⟩
    have hp : (useL slots 0).Perm free := perm_of_sub (useL_nodup slots 0) (fun x hx => by
      obtain ⟨i, s, h3, h4, h5⟩ := (useL_mem slots 0 x).1 hx
      have := h1 i s h3
      rw [if_pos h4] at this
      rw [h5, Nat.zero_add]
      exact List.count_pos_iff.1 (by omega)) (by omega)
    exact List.Perm.eq_of_pairwise (fun a b _ _ h3 h4 => by omega) (sortI_sorted free) ((useL_up slots 0).imp (fun h => by omega)) ((sortI_perm free).trans hp.symm)
def slotOk (i : Nat) (s : Sl2) : Prop := 0 ≤ s.1 ∧ s.1 ≤ 7 ∧ (i < 2 → s = (0, true))
end Go.SX
namespace Go.SX
end Go.SX

set_option linter.unusedVariables false
set_option linter.unusedSimpArgs false
namespace Go.SX
open Go
theorem useL_count : ∀ (l : List Sl2) (k : Nat), (useL l k).length = l.countP useB
  | [], k => rfl
  | y :: ys, k => by
    rw [useL, List.countP_cons]
    cases h : useB y <;> simp [useL_count ys (k + 1)]
theorem useL_snoc : ∀ (l : List Sl2) (k : Nat) (s : Sl2), useB s = false → useL (l ++ [s]) k = useL l k
  | [], k, s, h => by simp [useL, h]
  | y :: ys, k, s, h => by
    simp only [List.cons_append, useL, useL_snoc ys (k + 1) s h]
theorem take_last {a : Al} (h0 : a.2.2.length ≠ 0) : a.2.2 = a.2.2.take (a.2.2.length - 1) ++ [lastF a] := by
  have h2 : a.2.2[a.2.2.length - 1]? = some (lastF a) := getD_get (by omega)
  have := take_snoc a.2.2 (a.2.2.length - 1) (lastF a) h2
  rw [show a.2.2.length - 1 + 1 = a.2.2.length by omega, List.take_length] at this
  exact this
theorem take_keeps {a : Al} (h : Rt a) (h0 : (takeP a).2.2 = 0) : Rt (takeP a).1 := by
  have hm1 := h.m1
  have hm2 := h.m2
  have hn1 := h.n1
  have hn2 := h.n2
  have hal := h.al
  unfold takeP at h0 ⊢
  by_cases c1 : (aliveN a.2.1 : Int) - 2 = a.1
  · rw [if_pos c1] at h0; cases h0
  rw [if_neg c1] at h0 ⊢
  by_cases c2 : a.2.2.length = 0
  · rw [if_pos c2] at h0 ⊢
    by_cases c3 : (a.2.1.length : Int) < a.1 + 2
    · rw [if_pos c3]
      have hf : a.2.2 = [] := List.length_eq_zero_iff.1 c2
      have hff := h.f
      refine ⟨hm1, hm2, by simp; omega, by simp; omega, ?_, fun i s hi => ?_, ?_⟩
      · show ((aliveN (a.2.1 ++ [(0, true)]) : Nat) : Int) - 2 ≤ a.1
        unfold aliveN at *
        rw [List.countP_append]
        simp only [List.countP_cons, List.countP_nil, if_true]
        omega
      · rcases Nat.lt_or_ge i a.2.1.length with g | g
        · exact h.g i s (by rw [← hi]; exact (List.getElem?_append_left g).symm)
        · have h5 : (a.2.1 ++ [((0 : Int), true)])[i]? = some s := hi
          rw [List.getElem?_append_right g] at h5
          have h6 : i - a.2.1.length = 0 := by have := (List.getElem?_eq_some_iff.1 h5).1; simpa using this
          rw [h6] at h5
          simp at h5
          subst h5
          exact ⟨by simp, by simp, fun _ => rfl⟩
      · show sortI [] = useL (a.2.1 ++ [(0, true)]) 0
        rw [useL_snoc _ _ _ rfl, ← hff, hf]
    · rw [if_neg c3] at h0; cases h0
  · rw [if_neg c2]
    obtain ⟨j, g, e1, e2, e3, e4, e5, e6⟩ := h.last c2
    have hj := (List.getElem?_eq_some_iff.1 e2).1
    have hjg : a.2.1[j] = (g, false) := (List.getElem?_eq_some_iff.1 e2).2
    have hjn : (lastF a - 1).toNat = j := by omega
    rw [e6, hjn]
    have hset : ∀ i s, (a.2.1.set j (g + 1, true))[i]? = some s → (i = j ∧ s = (g + 1, true)) ∨ (i ≠ j ∧ a.2.1[i]? = some s) := by
      intro i s hi
      by_cases e : i = j
      · subst e; rw [List.getElem?_set_self hj] at hi; injection hi with hi; exact .inl ⟨rfl, hi.symm⟩
      · rw [List.getElem?_set_ne (fun k => e k.symm)] at hi; exact .inr ⟨e, hi⟩
    refine ⟨hm1, hm2, by simpa using hn1, by simpa using hn2, ?_, fun i s hi => ?_, ?_⟩
    · show ((aliveN (a.2.1.set j (g + 1, true)) : Nat) : Int) - 2 ≤ a.1
      unfold aliveN at *
      rw [List.countP_set hj, hjg]
      simp; omega
    · rcases hset i s hi with ⟨rfl, rfl⟩ | ⟨_, h5⟩
      · exact ⟨by simp; omega, by simp; omega, fun k => by omega⟩
      · exact h.g i s h5
    · obtain ⟨f1, f2⟩ := free_iff.1 h.f
      have hl := take_last c2
      have hc : ∀ x : Int, a.2.2.count x = (a.2.2.take (a.2.2.length - 1)).count x + if lastF a = x then 1 else 0 := by
        intro x
        rw [congrArg (List.count x) hl, List.count_append, List.count_singleton]
        by_cases e : lastF a = x
        · rw [if_pos e, e]; simp
        · rw [if_neg e, if_neg (by simpa using e)]
      refine free_iff.2 ⟨fun i s hi => ?_, ?_⟩
      · show (a.2.2.take (a.2.2.length - 1)).count ((i : Int) + 1) = _
        have h7 := hc ((i : Int) + 1)
        rcases hset i s hi with ⟨rfl, rfl⟩ | ⟨hne, h5⟩
        · have h8 := f1 i _ e2
          rw [show useB (g, false) = true by simp [useB]; omega] at h8
          rw [show useB (g + 1, true) = false by simp [useB]]
          rw [if_pos e1] at h7
          simp at h8 ⊢
          have : ∀ x ∈ a.2.2.take (a.2.2.length - 1), ¬ x = (i : Int) + 1 := by
            intro x hx he
            subst he
            have := List.count_pos_iff.2 hx
            omega
          first | exact fun hx => this _ hx rfl | exact List.count_eq_zero.2 (fun hx => this _ hx rfl) | omega
        · rw [if_neg (by omega)] at h7
          have := f1 i s h5
          omega
      · show (a.2.2.take (a.2.2.length - 1)).length = (useL (a.2.1.set j (g + 1, true)) 0).length
        rw [useL_count] at f2 ⊢
        have hpos : 0 < a.2.1.countP useB := List.countP_pos_iff.2 ⟨(g, false), List.mem_of_getElem? e2, by simp [useB]; omega⟩
        rw [List.countP_set hj, hjg, show useB (g, false) = true by simp [useB]; omega, show useB (g + 1, true) = false by simp [useB], List.length_take]
        simp; omega
end Go.SX

set_option linter.unusedVariables false
set_option linter.unusedSimpArgs false
namespace Go.SX
open Go Go.Proofs

def windroselaw02_wakes_m  : Bool :=
  LR.seq (alloc_New_m 1) (fun r15 => LR.seq (alloc_Take_m r15.1) (fun r20 => LR.seq (alloc_Take_m r20.1) (fun r26 => LR.seq (alloc_Give_m r20.1 [r20.2.1]) (fun r34 => LR.seq (alloc_Take_m r34.1) (fun r39 => if r15.2 = 0 then (if r20.2.2 = 0 then (if r34.2 = 0 then (if r39.2.2 = 0 then (if r26.2.2 = 6 then (if r20.2.1 = 3 then (if r39.2.1 = 4294967299 then (if (alloc_Alive_m r39.1 r39.2.1) = true then (if (!(alloc_Alive_m r39.1 r20.2.1)) = true then (LR.seq (alloc_All_m r39.1) (fun r82 => (decide ((r82.length : Int) = 3)))) else false) else false) else false) else false) else false) else false) else false) else false) else false)))))
set_option maxHeartbeats 3200000 in
theorem windroselaw02_wakes_c (H : Heap) {tG0 : TypeId} (hG0 : H 0 = some (.cells #[.int .i64 0, .bool true] tG0)) : Fv Tryd.prog (fnv 13) [] H (.bool windroselaw02_wakes_m) := by
  refine Fc.of_body (N := 86) Tryd.func13 rfl (by kernel_rfl) rfl rfl ?_
  intro w0
  refine T.seq ?_
  refine T.region ?_
  refine R.asE rfl (by conv => lhs; whnf) ?_
  refine TL.nil (Post.thnN ?_)
  refine T.seq ?_
  refine T.region ?_
  obtain ⟨r15, er15⟩ : ∃ r, r = (alloc_New_m 1) := ⟨_, rfl⟩
  refine TL.call [] rfl rfl rfl (alloc_New_c _ hG0 (1)) ?_
  intro v15 H15 L15 s15 q15
  rw [← er15] at q15
  obtain ⟨u15_0_1, u15_0_2, c15_0_1, c15_0_2, rfl, rfl, w15_0_1, w15_0_2⟩ := q15
  obtain ⟨A15_0_1, p15_0_1, rfl, m15_0_1, n15_0_1⟩ := OwnS.shape w15_0_1
  obtain ⟨A15_0_2, p15_0_2, rfl, m15_0_2, n15_0_2⟩ := OwnS.shape w15_0_2
  have tn15 : r15.1.2.1.length ≤ 2 ∧ r15.1.2.2.length ≤ 0 := by rw [er15]; exact new_len _
  refine R.mvE rfl (by conv => lhs; whnf) ?_
  refine R.ext rfl rfl rfl ?_
  refine R.ext rfl rfl rfl ?_
  refine R.alloc Tryd.zeroValue25 rfl ?_
  intro b1
  refine R.stX (old := [.int .i64 0, .slice none 0 0, .slice none 0 0]) (l := [.int .i64 (r15.1.1), .slice A15_0_1 r15.1.2.1.length p15_0_1, .slice A15_0_2 r15.1.2.2.length p15_0_2]) (new := [.int .i64 (r15.1.1), .slice A15_0_1 r15.1.2.1.length p15_0_1, .slice A15_0_2 r15.1.2.2.length p15_0_2]) (et := 25) Tryd.sizeOf25 rfl rfl rfl rfl rfl (by show 0 + 3 ≤ 3; decide) rfl (all_one rfl) .hd ?_
  refine R.asE rfl (by conv => lhs; whnf) ?_
  refine TL.shut (.tl .hd) ?_
  intro HF15_0_1_1 sF15_0_1_1 qF15_0_1_1
  have fF15_0_1_1 := OwnS.read w15_0_1 sF15_0_1_1 qF15_0_1_1
  refine TL.shut (.tl .hd) ?_
  intro HF15_0_2_2 sF15_0_2_2 qF15_0_2_2
  have fF15_0_2_2 := OwnS.read (OwnS.mono w15_0_2 sF15_0_1_1) sF15_0_2_2 qF15_0_2_2
  refine TL.shut .hd ?_
  intro Hb1_3 sb1_3 qb1_3
  have hb1_3 : Hb1_3 b1 = some (.cells #[.int .i64 (r15.1.1), .slice A15_0_1 r15.1.2.1.length p15_0_1, .slice A15_0_2 r15.1.2.2.length p15_0_2] 25) := shut1 qb1_3
  refine TL.nil (Post.thnN ?_)
  refine T.seq ?_
  refine T.region ?_
  refine R.ldXH (cs := [.int .i64 (r15.1.1), .slice A15_0_1 r15.1.2.1.length p15_0_1, .slice A15_0_2 r15.1.2.2.length p15_0_2]) (l := [.int .i64 (r15.1.1), .slice A15_0_1 r15.1.2.1.length p15_0_1, .slice A15_0_2 r15.1.2.2.length p15_0_2]) Tryd.isAgg25 Tryd.sizeOf25 rfl rfl hb1_3 rfl rfl ?_
  obtain ⟨r20, er20⟩ : ∃ r, r = (alloc_Take_m r15.1) := ⟨_, rfl⟩
  refine TL.call [] rfl rfl rfl (alloc_Take_c _ ((s15.trans (sF15_0_1_1.trans (sF15_0_2_2.trans sb1_3))) _ _ hG0) r15.1 _ (fF15_0_1_1.mono (sF15_0_2_2.trans sb1_3)) _ (fF15_0_2_2.mono sb1_3) (by first | omega | (simp; done) | (simp; omega) | (simp at *; omega)) (by first | omega | (simp; done) | (simp; omega) | (simp at *; omega))) ?_
  intro v20 H20 L20 s20 q20
  rw [← er20] at q20
  obtain ⟨u20_0_1, u20_0_2, c20_0_1, c20_0_2, rfl, rfl, w20_0_1, w20_0_2⟩ := q20
  obtain ⟨A20_0_1, p20_0_1, rfl, m20_0_1, n20_0_1⟩ := OwnS.shape w20_0_1
  obtain ⟨A20_0_2, p20_0_2, rfl, m20_0_2, n20_0_2⟩ := OwnS.shape w20_0_2
  have tt20 : r20.1.2.1.length ≤ 1100000 ∧ r20.1.2.2.length ≤ 1100000 := by rw [er20]; exact take_len (by first | omega | (simp; done) | (simp; omega) | (simp at *; omega))
  refine R.mvE rfl (by conv => lhs; whnf) ?_
  refine R.ext rfl rfl rfl ?_
  refine R.ext rfl rfl rfl ?_
  refine R.ext rfl rfl rfl ?_
  refine R.alloc Tryd.zeroValue25 rfl ?_
  intro b3
  refine R.stX (old := [.int .i64 0, .slice none 0 0, .slice none 0 0]) (l := [.int .i64 (r20.1.1), .slice A20_0_1 r20.1.2.1.length p20_0_1, .slice A20_0_2 r20.1.2.2.length p20_0_2]) (new := [.int .i64 (r20.1.1), .slice A20_0_1 r20.1.2.1.length p20_0_1, .slice A20_0_2 r20.1.2.2.length p20_0_2]) (et := 25) Tryd.sizeOf25 rfl rfl rfl rfl rfl (by show 0 + 3 ≤ 3; decide) rfl (all_one rfl) .hd ?_
  refine R.asE rfl (by conv => lhs; whnf) ?_
  refine R.asE rfl (by conv => lhs; whnf) ?_
  refine TL.shut (.tl .hd) ?_
  intro HF20_0_1_4 sF20_0_1_4 qF20_0_1_4
  have fF20_0_1_4 := OwnS.read w20_0_1 sF20_0_1_4 qF20_0_1_4
  refine TL.shut (.tl .hd) ?_
  intro HF20_0_2_5 sF20_0_2_5 qF20_0_2_5
  have fF20_0_2_5 := OwnS.read (OwnS.mono w20_0_2 sF20_0_1_4) sF20_0_2_5 qF20_0_2_5
  refine TL.shut .hd ?_
  intro Hb3_6 sb3_6 qb3_6
  have hb3_6 : Hb3_6 b3 = some (.cells #[.int .i64 (r20.1.1), .slice A20_0_1 r20.1.2.1.length p20_0_1, .slice A20_0_2 r20.1.2.2.length p20_0_2] 25) := shut1 qb3_6
  refine TL.nil (Post.thnN ?_)
  refine T.seq ?_
  refine T.region ?_
  refine R.ldXH (cs := [.int .i64 (r20.1.1), .slice A20_0_1 r20.1.2.1.length p20_0_1, .slice A20_0_2 r20.1.2.2.length p20_0_2]) (l := [.int .i64 (r20.1.1), .slice A20_0_1 r20.1.2.1.length p20_0_1, .slice A20_0_2 r20.1.2.2.length p20_0_2]) Tryd.isAgg25 Tryd.sizeOf25 rfl rfl hb3_6 rfl rfl ?_
  obtain ⟨r26, er26⟩ : ∃ r, r = (alloc_Take_m r20.1) := ⟨_, rfl⟩
  refine TL.call [] rfl rfl rfl (alloc_Take_c _ ((s15.trans (sF15_0_1_1.trans (sF15_0_2_2.trans (sb1_3.trans (s20.trans (sF20_0_1_4.trans (sF20_0_2_5.trans sb3_6))))))) _ _ hG0) r20.1 _ (fF20_0_1_4.mono (sF20_0_2_5.trans sb3_6)) _ (fF20_0_2_5.mono sb3_6) (by first | omega | (simp; done) | (simp; omega) | (simp at *; omega)) (by first | omega | (simp; done) | (simp; omega) | (simp at *; omega))) ?_
  intro v26 H26 L26 s26 q26
  rw [← er26] at q26
  obtain ⟨u26_0_1, u26_0_2, c26_0_1, c26_0_2, rfl, rfl, w26_0_1, w26_0_2⟩ := q26
  obtain ⟨A26_0_1, p26_0_1, rfl, m26_0_1, n26_0_1⟩ := OwnS.shape w26_0_1
  obtain ⟨A26_0_2, p26_0_2, rfl, m26_0_2, n26_0_2⟩ := OwnS.shape w26_0_2
  have tt26 : r26.1.2.1.length ≤ 1100000 ∧ r26.1.2.2.length ≤ 1100000 := by rw [er26]; exact take_len (by first | omega | (simp; done) | (simp; omega) | (simp at *; omega))
  refine R.mvE rfl (by conv => lhs; whnf) ?_
  refine R.ext rfl rfl rfl ?_
  refine R.ext rfl rfl rfl ?_
  refine R.ext rfl rfl rfl ?_
  refine R.alloc Tryd.zeroValue25 rfl ?_
  intro b6
  refine R.stX (old := [.int .i64 0, .slice none 0 0, .slice none 0 0]) (l := [.int .i64 (r26.1.1), .slice A26_0_1 r26.1.2.1.length p26_0_1, .slice A26_0_2 r26.1.2.2.length p26_0_2]) (new := [.int .i64 (r26.1.1), .slice A26_0_1 r26.1.2.1.length p26_0_1, .slice A26_0_2 r26.1.2.2.length p26_0_2]) (et := 25) Tryd.sizeOf25 rfl rfl rfl rfl rfl (by show 0 + 3 ≤ 3; decide) rfl (all_one rfl) .hd ?_
  refine R.asE rfl (by conv => lhs; whnf) ?_
  refine R.asE rfl (by conv => lhs; whnf) ?_
  refine TL.shut (.tl .hd) ?_
  intro HF26_0_1_7 sF26_0_1_7 qF26_0_1_7
  have fF26_0_1_7 := OwnS.read w26_0_1 sF26_0_1_7 qF26_0_1_7
  refine TL.shut (.tl .hd) ?_
  intro HF26_0_2_8 sF26_0_2_8 qF26_0_2_8
  have fF26_0_2_8 := OwnS.read (OwnS.mono w26_0_2 sF26_0_1_7) sF26_0_2_8 qF26_0_2_8
  refine TL.shut .hd ?_
  intro Hb6_9 sb6_9 qb6_9
  have hb6_9 : Hb6_9 b6 = some (.cells #[.int .i64 (r26.1.1), .slice A26_0_1 r26.1.2.1.length p26_0_1, .slice A26_0_2 r26.1.2.2.length p26_0_2] 25) := shut1 qb6_9
  refine TL.nil (Post.thnN ?_)
  refine T.seq ?_
  refine T.region ?_
  refine R.ldXH (cs := [.int .i64 (r20.1.1), .slice A20_0_1 r20.1.2.1.length p20_0_1, .slice A20_0_2 r20.1.2.2.length p20_0_2]) (l := [.int .i64 (r20.1.1), .slice A20_0_1 r20.1.2.1.length p20_0_1, .slice A20_0_2 r20.1.2.2.length p20_0_2]) Tryd.isAgg25 Tryd.sizeOf25 rfl rfl ((s26.trans (sF26_0_1_7.trans (sF26_0_2_8.trans sb6_9))) _ _ hb3_6) rfl rfl ?_
  refine R.mvE rfl (by conv => lhs; whnf) ?_
  refine R.bs rfl (run_buildSlice1 Tryd.underlying29 Tryd.sizeOf32 Tryd.zeroValue32 rfl rfl) ?_
  intro b33
  have w33 : OwnS (intE .u64) 32 Hb6_9 (.slice (some ⟨b33, 0, none⟩) 1 1) [r20.2.1] [(b33, .cells #[.int .u64 (r20.2.1)] 32)] := OwnS.lit (xs := [r20.2.1]) (cellsOf_cons (a := [.int .u64 (r20.2.1)]) rfl cellsOf_nil) (by show 1 ≤ maxLen; decide)
  refine TL.shut .hd ?_
  intro HF33_10 sF33_10 qF33_10
  have fF33_10 := OwnS.read w33 sF33_10 qF33_10
  obtain ⟨r34, er34⟩ : ∃ r, r = (alloc_Give_m r20.1 [r20.2.1]) := ⟨_, rfl⟩
  refine TL.call [] rfl rfl rfl (alloc_Give_c _ ((s15.trans (sF15_0_1_1.trans (sF15_0_2_2.trans (sb1_3.trans (s20.trans (sF20_0_1_4.trans (sF20_0_2_5.trans (sb3_6.trans (s26.trans (sF26_0_1_7.trans (sF26_0_2_8.trans (sb6_9.trans sF33_10)))))))))))) _ _ hG0) r20.1 _ (fF20_0_1_4.mono (sF20_0_2_5.trans (sb3_6.trans (s26.trans (sF26_0_1_7.trans (sF26_0_2_8.trans (sb6_9.trans sF33_10))))))) _ (fF20_0_2_5.mono (sb3_6.trans (s26.trans (sF26_0_1_7.trans (sF26_0_2_8.trans (sb6_9.trans sF33_10)))))) _ [r20.2.1] fF33_10 (by first | omega | (simp; done) | (simp; omega) | (simp at *; omega)) (by first | omega | (simp; done) | (simp; omega) | (simp at *; omega)) (by first | omega | (simp; done) | (simp; omega) | (simp at *; omega))) ?_
  intro v34 H34 L34 s34 q34
  rw [← er34] at q34
  obtain ⟨u34_0_1, u34_0_2, c34_0_1, c34_0_2, rfl, rfl, w34_0_1, w34_0_2⟩ := q34
  obtain ⟨A34_0_1, p34_0_1, rfl, m34_0_1, n34_0_1⟩ := OwnS.shape w34_0_1
  obtain ⟨A34_0_2, p34_0_2, rfl, m34_0_2, n34_0_2⟩ := OwnS.shape w34_0_2
  have tt34 : r34.1.2.1.length ≤ 1100000 ∧ r34.1.2.2.length ≤ 1100000 := by rw [er34]; exact give_len (by first | omega | (simp; done) | (simp; omega) | (simp at *; omega)) (by first | omega | (simp; done) | (simp; omega) | (simp at *; omega)) (by first | omega | (simp; done) | (simp; omega) | (simp at *; omega))
  refine R.mvE rfl (by conv => lhs; whnf) ?_
  refine R.ext rfl rfl rfl ?_
  refine R.ext rfl rfl rfl ?_
  refine R.alloc Tryd.zeroValue25 rfl ?_
  intro b9
  refine R.stX (old := [.int .i64 0, .slice none 0 0, .slice none 0 0]) (l := [.int .i64 (r34.1.1), .slice A34_0_1 r34.1.2.1.length p34_0_1, .slice A34_0_2 r34.1.2.2.length p34_0_2]) (new := [.int .i64 (r34.1.1), .slice A34_0_1 r34.1.2.1.length p34_0_1, .slice A34_0_2 r34.1.2.2.length p34_0_2]) (et := 25) Tryd.sizeOf25 rfl rfl rfl rfl rfl (by show 0 + 3 ≤ 3; decide) rfl (all_one rfl) .hd ?_
  refine R.asE rfl (by conv => lhs; whnf) ?_
  refine TL.shut (.tl .hd) ?_
  intro HF34_0_1_11 sF34_0_1_11 qF34_0_1_11
  have fF34_0_1_11 := OwnS.read w34_0_1 sF34_0_1_11 qF34_0_1_11
  refine TL.shut (.tl .hd) ?_
  intro HF34_0_2_12 sF34_0_2_12 qF34_0_2_12
  have fF34_0_2_12 := OwnS.read (OwnS.mono w34_0_2 sF34_0_1_11) sF34_0_2_12 qF34_0_2_12
  refine TL.shut .hd ?_
  intro Hb9_13 sb9_13 qb9_13
  have hb9_13 : Hb9_13 b9 = some (.cells #[.int .i64 (r34.1.1), .slice A34_0_1 r34.1.2.1.length p34_0_1, .slice A34_0_2 r34.1.2.2.length p34_0_2] 25) := shut1 qb9_13
  refine TL.nil (Post.thnN ?_)
  refine T.seq ?_
  refine T.region ?_
  refine R.ldXH (cs := [.int .i64 (r34.1.1), .slice A34_0_1 r34.1.2.1.length p34_0_1, .slice A34_0_2 r34.1.2.2.length p34_0_2]) (l := [.int .i64 (r34.1.1), .slice A34_0_1 r34.1.2.1.length p34_0_1, .slice A34_0_2 r34.1.2.2.length p34_0_2]) Tryd.isAgg25 Tryd.sizeOf25 rfl rfl hb9_13 rfl rfl ?_
  obtain ⟨r39, er39⟩ : ∃ r, r = (alloc_Take_m r34.1) := ⟨_, rfl⟩
  refine TL.call [] rfl rfl rfl (alloc_Take_c _ ((s15.trans (sF15_0_1_1.trans (sF15_0_2_2.trans (sb1_3.trans (s20.trans (sF20_0_1_4.trans (sF20_0_2_5.trans (sb3_6.trans (s26.trans (sF26_0_1_7.trans (sF26_0_2_8.trans (sb6_9.trans (sF33_10.trans (s34.trans (sF34_0_1_11.trans (sF34_0_2_12.trans sb9_13)))))))))))))))) _ _ hG0) r34.1 _ (fF34_0_1_11.mono (sF34_0_2_12.trans sb9_13)) _ (fF34_0_2_12.mono sb9_13) (by first | omega | (simp; done) | (simp; omega) | (simp at *; omega)) (by first | omega | (simp; done) | (simp; omega) | (simp at *; omega))) ?_
  intro v39 H39 L39 s39 q39
  rw [← er39] at q39
  obtain ⟨u39_0_1, u39_0_2, c39_0_1, c39_0_2, rfl, rfl, w39_0_1, w39_0_2⟩ := q39
  obtain ⟨A39_0_1, p39_0_1, rfl, m39_0_1, n39_0_1⟩ := OwnS.shape w39_0_1
  obtain ⟨A39_0_2, p39_0_2, rfl, m39_0_2, n39_0_2⟩ := OwnS.shape w39_0_2
  have tt39 : r39.1.2.1.length ≤ 1100000 ∧ r39.1.2.2.length ≤ 1100000 := by rw [er39]; exact take_len (by first | omega | (simp; done) | (simp; omega) | (simp at *; omega))
  refine R.mvE rfl (by conv => lhs; whnf) ?_
  refine R.ext rfl rfl rfl ?_
  refine R.ext rfl rfl rfl ?_
  refine R.ext rfl rfl rfl ?_
  refine R.alloc Tryd.zeroValue25 rfl ?_
  intro b11
  refine R.stX (old := [.int .i64 0, .slice none 0 0, .slice none 0 0]) (l := [.int .i64 (r39.1.1), .slice A39_0_1 r39.1.2.1.length p39_0_1, .slice A39_0_2 r39.1.2.2.length p39_0_2]) (new := [.int .i64 (r39.1.1), .slice A39_0_1 r39.1.2.1.length p39_0_1, .slice A39_0_2 r39.1.2.2.length p39_0_2]) (et := 25) Tryd.sizeOf25 rfl rfl rfl rfl rfl (by show 0 + 3 ≤ 3; decide) rfl (all_one rfl) .hd ?_
  refine R.asE rfl (by conv => lhs; whnf) ?_
  refine R.asE rfl (by conv => lhs; whnf) ?_
  refine TL.shut (.tl .hd) ?_
  intro HF39_0_1_14 sF39_0_1_14 qF39_0_1_14
  have fF39_0_1_14 := OwnS.read w39_0_1 sF39_0_1_14 qF39_0_1_14
  refine TL.shut (.tl .hd) ?_
  intro HF39_0_2_15 sF39_0_2_15 qF39_0_2_15
  have fF39_0_2_15 := OwnS.read (OwnS.mono w39_0_2 sF39_0_1_14) sF39_0_2_15 qF39_0_2_15
  refine TL.shut .hd ?_
  intro Hb11_16 sb11_16 qb11_16
  have hb11_16 : Hb11_16 b11 = some (.cells #[.int .i64 (r39.1.1), .slice A39_0_1 r39.1.2.1.length p39_0_1, .slice A39_0_2 r39.1.2.2.length p39_0_2] 25) := shut1 qb11_16
  refine TL.nil (Post.thnN ?_)
  refine T.seq ?_
  refine T.region ?_
  refine R.mvE rfl (by conv => lhs; whnf) ?_
  refine R.eql rfl rfl rfl ?_
  refine R.mvE rfl (by conv => lhs; whnf) ?_
  refine TL.gsplitD 45 rfl (fun g45 => ?_) (fun g45 => ?_)
  · refine R.mvE rfl (by conv => lhs; whnf) ?_
    refine R.eql rfl rfl rfl ?_
    refine R.pkTE rfl rfl (by conv => lhs; whnf) ?_
    refine R.mvE rfl (by conv => lhs; whnf) ?_
    refine TL.gsplitD 49 rfl (fun g49 => ?_) (fun g49 => ?_)
    · refine R.mvE rfl (by conv => lhs; whnf) ?_
      refine R.eql rfl rfl rfl ?_
      refine R.pkTE rfl rfl (by conv => lhs; whnf) ?_
      refine R.mvE rfl (by conv => lhs; whnf) ?_
      refine TL.gsplitD 53 rfl (fun g53 => ?_) (fun g53 => ?_)
      · refine R.mvE rfl (by conv => lhs; whnf) ?_
        refine R.eql rfl rfl rfl ?_
        refine R.pkTE rfl rfl (by conv => lhs; whnf) ?_
        refine R.mvE rfl (by conv => lhs; whnf) ?_
        refine TL.gsplitD 57 rfl (fun g57 => ?_) (fun g57 => ?_)
        · refine R.mvE rfl (by conv => lhs; whnf) ?_
          refine R.eql rfl rfl rfl ?_
          refine R.pkTE rfl rfl (by conv => lhs; whnf) ?_
          refine R.mvE rfl (by conv => lhs; whnf) ?_
          refine TL.gsplitD 61 rfl (fun g61 => ?_) (fun g61 => ?_)
          · refine R.mvE rfl (by conv => lhs; whnf) ?_
            refine R.eql rfl rfl rfl ?_
            refine R.pkTE rfl rfl (by conv => lhs; whnf) ?_
            refine R.mvE rfl (by conv => lhs; whnf) ?_
            refine TL.gsplitD 65 rfl (fun g65 => ?_) (fun g65 => ?_)
            · refine R.mvE rfl (by conv => lhs; whnf) ?_
              refine R.eql rfl rfl rfl ?_
              refine R.pkTE rfl rfl (by conv => lhs; whnf) ?_
              refine R.mvE rfl (by conv => lhs; whnf) ?_
              refine TL.gsplitD 69 rfl (fun g69 => ?_) (fun g69 => ?_)
              · refine R.ldXH (cs := [.int .i64 (r39.1.1), .slice A39_0_1 r39.1.2.1.length p39_0_1, .slice A39_0_2 r39.1.2.2.length p39_0_2]) (l := [.int .i64 (r39.1.1), .slice A39_0_1 r39.1.2.1.length p39_0_1, .slice A39_0_2 r39.1.2.2.length p39_0_2]) Tryd.isAgg25 Tryd.sizeOf25 rfl rfl hb11_16 rfl rfl ?_
                refine R.mvE rfl (by conv => lhs; whnf) ?_
                refine R.callv rfl rfl rfl (alloc_Alive_c _ ((s15.trans (sF15_0_1_1.trans (sF15_0_2_2.trans (sb1_3.trans (s20.trans (sF20_0_1_4.trans (sF20_0_2_5.trans (sb3_6.trans (s26.trans (sF26_0_1_7.trans (sF26_0_2_8.trans (sb6_9.trans (sF33_10.trans (s34.trans (sF34_0_1_11.trans (sF34_0_2_12.trans (sb9_13.trans (s39.trans (sF39_0_1_14.trans (sF39_0_2_15.trans sb11_16)))))))))))))))))))) _ _ hG0) r39.1 _ (fF39_0_1_14.mono (sF39_0_2_15.trans sb11_16)) _ (fF39_0_2_15.mono sb11_16) (r39.2.1) (by first | omega | (simp; done) | (simp; omega) | (simp at *; omega)) (by first | omega | (simp; done) | (simp; omega) | (simp at *; omega))) ?_
                refine R.pkTE rfl rfl (by conv => lhs; whnf) ?_
                refine R.mvE rfl (by conv => lhs; whnf) ?_
                refine TL.gsplit 74 rfl (fun g74 => ?_) (fun g74 => ?_)
                · refine R.ldXH (cs := [.int .i64 (r39.1.1), .slice A39_0_1 r39.1.2.1.length p39_0_1, .slice A39_0_2 r39.1.2.2.length p39_0_2]) (l := [.int .i64 (r39.1.1), .slice A39_0_1 r39.1.2.1.length p39_0_1, .slice A39_0_2 r39.1.2.2.length p39_0_2]) Tryd.isAgg25 Tryd.sizeOf25 rfl rfl hb11_16 rfl rfl ?_
                  refine R.mvE rfl (by conv => lhs; whnf) ?_
                  refine R.callv rfl rfl rfl (alloc_Alive_c _ ((s15.trans (sF15_0_1_1.trans (sF15_0_2_2.trans (sb1_3.trans (s20.trans (sF20_0_1_4.trans (sF20_0_2_5.trans (sb3_6.trans (s26.trans (sF26_0_1_7.trans (sF26_0_2_8.trans (sb6_9.trans (sF33_10.trans (s34.trans (sF34_0_1_11.trans (sF34_0_2_12.trans (sb9_13.trans (s39.trans (sF39_0_1_14.trans (sF39_0_2_15.trans sb11_16)))))))))))))))))))) _ _ hG0) r39.1 _ (fF39_0_1_14.mono (sF39_0_2_15.trans sb11_16)) _ (fF39_0_2_15.mono sb11_16) (r20.2.1) (by first | omega | (simp; done) | (simp; omega) | (simp at *; omega)) (by first | omega | (simp; done) | (simp; omega) | (simp at *; omega))) ?_
                  refine R.not rfl rfl ?_
                  refine R.pkTE rfl rfl (by conv => lhs; whnf) ?_
                  refine R.mvE rfl (by conv => lhs; whnf) ?_
                  refine TL.gsplit 80 rfl (fun g80 => ?_) (fun g80 => ?_)
                  · refine R.ldXH (cs := [.int .i64 (r39.1.1), .slice A39_0_1 r39.1.2.1.length p39_0_1, .slice A39_0_2 r39.1.2.2.length p39_0_2]) (l := [.int .i64 (r39.1.1), .slice A39_0_1 r39.1.2.1.length p39_0_1, .slice A39_0_2 r39.1.2.2.length p39_0_2]) Tryd.isAgg25 Tryd.sizeOf25 rfl rfl hb11_16 rfl rfl ?_
                    obtain ⟨r82, er82⟩ : ∃ r, r = (alloc_All_m r39.1) := ⟨_, rfl⟩
                    refine TL.call [] rfl rfl rfl (alloc_All_c _ ((s15.trans (sF15_0_1_1.trans (sF15_0_2_2.trans (sb1_3.trans (s20.trans (sF20_0_1_4.trans (sF20_0_2_5.trans (sb3_6.trans (s26.trans (sF26_0_1_7.trans (sF26_0_2_8.trans (sb6_9.trans (sF33_10.trans (s34.trans (sF34_0_1_11.trans (sF34_0_2_12.trans (sb9_13.trans (s39.trans (sF39_0_1_14.trans (sF39_0_2_15.trans sb11_16)))))))))))))))))))) _ _ hG0) r39.1 _ (fF39_0_1_14.mono (sF39_0_2_15.trans sb11_16)) _ (fF39_0_2_15.mono sb11_16) (by first | omega | (simp; done) | (simp; omega) | (simp at *; omega)) (by first | omega | (simp; done) | (simp; omega) | (simp at *; omega))) ?_
                    intro v82 H82 L82 s82 q82
                    rw [← er82] at q82
                    obtain ⟨u82_0_0, c82_0_0, rfl, rfl, w82_0_0⟩ := q82
                    obtain ⟨A82_0_0, p82_0_0, rfl, m82_0_0, n82_0_0⟩ := OwnS.shape w82_0_0
                    have ta82 : r82.length ≤ 2000000 := by rw [er82]; exact all_len (by first | omega | (simp; done) | (simp; omega) | (simp at *; omega))
                    refine R.len Tryd.underlying29 rfl rfl ?_
                    refine R.eql rfl rfl rfl ?_
                    refine R.pkTE rfl rfl (by conv => lhs; whnf) ?_
                    refine R.asE rfl (by conv => lhs; whnf) ?_
                    refine TL.nil (Post.thnN ?_)
                    refine T.has Has.nil ?_
                    refine T.ret ?_
                    have hM : windroselaw02_wakes_m = (decide ((r82.length : Int) = 3)) := by subst er82; subst er39; subst er34; subst er26; subst er20; subst er15; rw [windroselaw02_wakes_m, LR.seq_go, LR.seq_go, LR.seq_go, LR.seq_go, LR.seq_go, if_pos g45, if_pos g49, if_pos g53, if_pos g57, if_pos g61, if_pos g65, if_pos g69, if_t g74, if_t g80, LR.seq_go]
                    exact fin1L (v := .bool (decide ((r82.length : Int) = 3))) [] rfl rfl (List.Sublist.refl _) ⟨rfl, by first | rw [hM] | rfl⟩
                  · refine TL.off rfl rfl rfl ?_
                    refine TL.off rfl rfl rfl ?_
                    refine TL.off rfl rfl rfl ?_
                    refine TL.off rfl rfl rfl ?_
                    refine R.pkFE rfl rfl (by conv => lhs; whnf) ?_
                    refine R.asE rfl (by conv => lhs; whnf) ?_
                    refine TL.nil (Post.thnN ?_)
                    refine T.has Has.nil ?_
                    refine T.ret ?_
                    have hM : windroselaw02_wakes_m = false := by subst er39; subst er34; subst er26; subst er20; subst er15; rw [windroselaw02_wakes_m, LR.seq_go, LR.seq_go, LR.seq_go, LR.seq_go, LR.seq_go, if_pos g45, if_pos g49, if_pos g53, if_pos g57, if_pos g61, if_pos g65, if_pos g69, if_t g74, if_f g80]
                    exact fin1L (v := .bool false) [] rfl rfl (List.Sublist.refl _) ⟨rfl, by first | rw [hM] | rfl⟩
                · refine TL.off rfl rfl rfl ?_
                  refine TL.off rfl rfl rfl ?_
                  refine TL.off rfl rfl rfl ?_
                  refine TL.off rfl rfl rfl ?_
                  refine R.pkFE rfl rfl (by conv => lhs; whnf) ?_
                  refine R.mvE rfl (by conv => lhs; whnf) ?_
                  refine TL.off rfl rfl rfl ?_
                  refine TL.off rfl rfl rfl ?_
                  refine TL.off rfl rfl rfl ?_
                  refine TL.off rfl rfl rfl ?_
                  refine R.pkFE rfl rfl (by conv => lhs; whnf) ?_
                  refine R.asE rfl (by conv => lhs; whnf) ?_
                  refine TL.nil (Post.thnN ?_)
                  refine T.has Has.nil ?_
                  refine T.ret ?_
                  have hM : windroselaw02_wakes_m = false := by subst er39; subst er34; subst er26; subst er20; subst er15; rw [windroselaw02_wakes_m, LR.seq_go, LR.seq_go, LR.seq_go, LR.seq_go, LR.seq_go, if_pos g45, if_pos g49, if_pos g53, if_pos g57, if_pos g61, if_pos g65, if_pos g69, if_f g74]
                  exact fin1L (v := .bool false) [] rfl rfl (List.Sublist.refl _) ⟨rfl, by first | rw [hM] | rfl⟩
              · refine TL.off rfl rfl rfl ?_
                refine TL.off rfl rfl rfl ?_
                refine TL.off rfl rfl rfl ?_
                refine R.pkFE rfl rfl (by conv => lhs; whnf) ?_
                refine R.mvE rfl (by conv => lhs; whnf) ?_
                refine TL.off rfl rfl rfl ?_
                refine TL.off rfl rfl rfl ?_
                refine TL.off rfl rfl rfl ?_
                refine TL.off rfl rfl rfl ?_
                refine R.pkFE rfl rfl (by conv => lhs; whnf) ?_
                refine R.mvE rfl (by conv => lhs; whnf) ?_
                refine TL.off rfl rfl rfl ?_
                refine TL.off rfl rfl rfl ?_
                refine TL.off rfl rfl rfl ?_
                refine TL.off rfl rfl rfl ?_
                refine R.pkFE rfl rfl (by conv => lhs; whnf) ?_
                refine R.asE rfl (by conv => lhs; whnf) ?_
                refine TL.nil (Post.thnN ?_)
                refine T.has Has.nil ?_
                refine T.ret ?_
                have hM : windroselaw02_wakes_m = false := by subst er39; subst er34; subst er26; subst er20; subst er15; rw [windroselaw02_wakes_m, LR.seq_go, LR.seq_go, LR.seq_go, LR.seq_go, LR.seq_go, if_pos g45, if_pos g49, if_pos g53, if_pos g57, if_pos g61, if_pos g65, if_neg g69]
                exact fin1L (v := .bool false) [] rfl rfl (List.Sublist.refl _) ⟨rfl, by first | rw [hM] | rfl⟩
            · refine TL.off rfl rfl rfl ?_
              refine TL.off rfl rfl rfl ?_
              refine R.pkFE rfl rfl (by conv => lhs; whnf) ?_
              refine R.mvE rfl (by conv => lhs; whnf) ?_
              refine TL.off rfl rfl rfl ?_
              refine TL.off rfl rfl rfl ?_
              refine TL.off rfl rfl rfl ?_
              refine R.pkFE rfl rfl (by conv => lhs; whnf) ?_
              refine R.mvE rfl (by conv => lhs; whnf) ?_
              refine TL.off rfl rfl rfl ?_
              refine TL.off rfl rfl rfl ?_
              refine TL.off rfl rfl rfl ?_
              refine TL.off rfl rfl rfl ?_
              refine R.pkFE rfl rfl (by conv => lhs; whnf) ?_
              refine R.mvE rfl (by conv => lhs; whnf) ?_
              refine TL.off rfl rfl rfl ?_
              refine TL.off rfl rfl rfl ?_
              refine TL.off rfl rfl rfl ?_
              refine TL.off rfl rfl rfl ?_
              refine R.pkFE rfl rfl (by conv => lhs; whnf) ?_
              refine R.asE rfl (by conv => lhs; whnf) ?_
              refine TL.nil (Post.thnN ?_)
              refine T.has Has.nil ?_
              refine T.ret ?_
              have hM : windroselaw02_wakes_m = false := by subst er39; subst er34; subst er26; subst er20; subst er15; rw [windroselaw02_wakes_m, LR.seq_go, LR.seq_go, LR.seq_go, LR.seq_go, LR.seq_go, if_pos g45, if_pos g49, if_pos g53, if_pos g57, if_pos g61, if_neg g65]
              exact fin1L (v := .bool false) [] rfl rfl (List.Sublist.refl _) ⟨rfl, by first | rw [hM] | rfl⟩
          · refine TL.off rfl rfl rfl ?_
            refine TL.off rfl rfl rfl ?_
            refine R.pkFE rfl rfl (by conv => lhs; whnf) ?_
            refine R.mvE rfl (by conv => lhs; whnf) ?_
            refine TL.off rfl rfl rfl ?_
            refine TL.off rfl rfl rfl ?_
            refine R.pkFE rfl rfl (by conv => lhs; whnf) ?_
            refine R.mvE rfl (by conv => lhs; whnf) ?_
            refine TL.off rfl rfl rfl ?_
            refine TL.off rfl rfl rfl ?_
            refine TL.off rfl rfl rfl ?_
            refine R.pkFE rfl rfl (by conv => lhs; whnf) ?_
            refine R.mvE rfl (by conv => lhs; whnf) ?_
            refine TL.off rfl rfl rfl ?_
            refine TL.off rfl rfl rfl ?_
            refine TL.off rfl rfl rfl ?_
            refine TL.off rfl rfl rfl ?_
            refine R.pkFE rfl rfl (by conv => lhs; whnf) ?_
            refine R.mvE rfl (by conv => lhs; whnf) ?_
            refine TL.off rfl rfl rfl ?_
            refine TL.off rfl rfl rfl ?_
            refine TL.off rfl rfl rfl ?_
            refine TL.off rfl rfl rfl ?_
            refine R.pkFE rfl rfl (by conv => lhs; whnf) ?_
            refine R.asE rfl (by conv => lhs; whnf) ?_
            refine TL.nil (Post.thnN ?_)
            refine T.has Has.nil ?_
            refine T.ret ?_
            have hM : windroselaw02_wakes_m = false := by subst er39; subst er34; subst er26; subst er20; subst er15; rw [windroselaw02_wakes_m, LR.seq_go, LR.seq_go, LR.seq_go, LR.seq_go, LR.seq_go, if_pos g45, if_pos g49, if_pos g53, if_pos g57, if_neg g61]
            exact fin1L (v := .bool false) [] rfl rfl (List.Sublist.refl _) ⟨rfl, by first | rw [hM] | rfl⟩
        · refine TL.off rfl rfl rfl ?_
          refine TL.off rfl rfl rfl ?_
          refine R.pkFE rfl rfl (by conv => lhs; whnf) ?_
          refine R.mvE rfl (by conv => lhs; whnf) ?_
          refine TL.off rfl rfl rfl ?_
          refine TL.off rfl rfl rfl ?_
          refine R.pkFE rfl rfl (by conv => lhs; whnf) ?_
          refine R.mvE rfl (by conv => lhs; whnf) ?_
          refine TL.off rfl rfl rfl ?_
          refine TL.off rfl rfl rfl ?_
          refine R.pkFE rfl rfl (by conv => lhs; whnf) ?_
          refine R.mvE rfl (by conv => lhs; whnf) ?_
          refine TL.off rfl rfl rfl ?_
          refine TL.off rfl rfl rfl ?_
          refine TL.off rfl rfl rfl ?_
          refine R.pkFE rfl rfl (by conv => lhs; whnf) ?_
          refine R.mvE rfl (by conv => lhs; whnf) ?_
          refine TL.off rfl rfl rfl ?_
          refine TL.off rfl rfl rfl ?_
          refine TL.off rfl rfl rfl ?_
          refine TL.off rfl rfl rfl ?_
          refine R.pkFE rfl rfl (by conv => lhs; whnf) ?_
          refine R.mvE rfl (by conv => lhs; whnf) ?_
          refine TL.off rfl rfl rfl ?_
          refine TL.off rfl rfl rfl ?_
          refine TL.off rfl rfl rfl ?_
          refine TL.off rfl rfl rfl ?_
          refine R.pkFE rfl rfl (by conv => lhs; whnf) ?_
          refine R.asE rfl (by conv => lhs; whnf) ?_
          refine TL.nil (Post.thnN ?_)
          refine T.has Has.nil ?_
          refine T.ret ?_
          have hM : windroselaw02_wakes_m = false := by subst er39; subst er34; subst er26; subst er20; subst er15; rw [windroselaw02_wakes_m, LR.seq_go, LR.seq_go, LR.seq_go, LR.seq_go, LR.seq_go, if_pos g45, if_pos g49, if_pos g53, if_neg g57]
          exact fin1L (v := .bool false) [] rfl rfl (List.Sublist.refl _) ⟨rfl, by first | rw [hM] | rfl⟩
      · refine TL.off rfl rfl rfl ?_
        refine TL.off rfl rfl rfl ?_
        refine R.pkFE rfl rfl (by conv => lhs; whnf) ?_
        refine R.mvE rfl (by conv => lhs; whnf) ?_
        refine TL.off rfl rfl rfl ?_
        refine TL.off rfl rfl rfl ?_
        refine R.pkFE rfl rfl (by conv => lhs; whnf) ?_
        refine R.mvE rfl (by conv => lhs; whnf) ?_
        refine TL.off rfl rfl rfl ?_
        refine TL.off rfl rfl rfl ?_
        refine R.pkFE rfl rfl (by conv => lhs; whnf) ?_
        refine R.mvE rfl (by conv => lhs; whnf) ?_
        refine TL.off rfl rfl rfl ?_
        refine TL.off rfl rfl rfl ?_
        refine R.pkFE rfl rfl (by conv => lhs; whnf) ?_
        refine R.mvE rfl (by conv => lhs; whnf) ?_
        refine TL.off rfl rfl rfl ?_
        refine TL.off rfl rfl rfl ?_
        refine TL.off rfl rfl rfl ?_
        refine R.pkFE rfl rfl (by conv => lhs; whnf) ?_
        refine R.mvE rfl (by conv => lhs; whnf) ?_
        refine TL.off rfl rfl rfl ?_
        refine TL.off rfl rfl rfl ?_
        refine TL.off rfl rfl rfl ?_
        refine TL.off rfl rfl rfl ?_
        refine R.pkFE rfl rfl (by conv => lhs; whnf) ?_
        refine R.mvE rfl (by conv => lhs; whnf) ?_
        refine TL.off rfl rfl rfl ?_
        refine TL.off rfl rfl rfl ?_
        refine TL.off rfl rfl rfl ?_
        refine TL.off rfl rfl rfl ?_
        refine R.pkFE rfl rfl (by conv => lhs; whnf) ?_
        refine R.asE rfl (by conv => lhs; whnf) ?_
        refine TL.nil (Post.thnN ?_)
        refine T.has Has.nil ?_
        refine T.ret ?_
        have hM : windroselaw02_wakes_m = false := by subst er39; subst er34; subst er26; subst er20; subst er15; rw [windroselaw02_wakes_m, LR.seq_go, LR.seq_go, LR.seq_go, LR.seq_go, LR.seq_go, if_pos g45, if_pos g49, if_neg g53]
        exact fin1L (v := .bool false) [] rfl rfl (List.Sublist.refl _) ⟨rfl, by first | rw [hM] | rfl⟩
    · refine TL.off rfl rfl rfl ?_
      refine TL.off rfl rfl rfl ?_
      refine R.pkFE rfl rfl (by conv => lhs; whnf) ?_
      refine R.mvE rfl (by conv => lhs; whnf) ?_
      refine TL.off rfl rfl rfl ?_
      refine TL.off rfl rfl rfl ?_
      refine R.pkFE rfl rfl (by conv => lhs; whnf) ?_
      refine R.mvE rfl (by conv => lhs; whnf) ?_
      refine TL.off rfl rfl rfl ?_
      refine TL.off rfl rfl rfl ?_
      refine R.pkFE rfl rfl (by conv => lhs; whnf) ?_
      refine R.mvE rfl (by conv => lhs; whnf) ?_
      refine TL.off rfl rfl rfl ?_
      refine TL.off rfl rfl rfl ?_
      refine R.pkFE rfl rfl (by conv => lhs; whnf) ?_
      refine R.mvE rfl (by conv => lhs; whnf) ?_
      refine TL.off rfl rfl rfl ?_
      refine TL.off rfl rfl rfl ?_
      refine R.pkFE rfl rfl (by conv => lhs; whnf) ?_
      refine R.mvE rfl (by conv => lhs; whnf) ?_
      refine TL.off rfl rfl rfl ?_
      refine TL.off rfl rfl rfl ?_
      refine TL.off rfl rfl rfl ?_
      refine R.pkFE rfl rfl (by conv => lhs; whnf) ?_
      refine R.mvE rfl (by conv => lhs; whnf) ?_
      refine TL.off rfl rfl rfl ?_
      refine TL.off rfl rfl rfl ?_
      refine TL.off rfl rfl rfl ?_
      refine TL.off rfl rfl rfl ?_
      refine R.pkFE rfl rfl (by conv => lhs; whnf) ?_
      refine R.mvE rfl (by conv => lhs; whnf) ?_
      refine TL.off rfl rfl rfl ?_
      refine TL.off rfl rfl rfl ?_
      refine TL.off rfl rfl rfl ?_
      refine TL.off rfl rfl rfl ?_
      refine R.pkFE rfl rfl (by conv => lhs; whnf) ?_
      refine R.asE rfl (by conv => lhs; whnf) ?_
      refine TL.nil (Post.thnN ?_)
      refine T.has Has.nil ?_
      refine T.ret ?_
      have hM : windroselaw02_wakes_m = false := by subst er39; subst er34; subst er26; subst er20; subst er15; rw [windroselaw02_wakes_m, LR.seq_go, LR.seq_go, LR.seq_go, LR.seq_go, LR.seq_go, if_pos g45, if_neg g49]
      exact fin1L (v := .bool false) [] rfl rfl (List.Sublist.refl _) ⟨rfl, by first | rw [hM] | rfl⟩
  · refine TL.off rfl rfl rfl ?_
    refine TL.off rfl rfl rfl ?_
    refine R.pkFE rfl rfl (by conv => lhs; whnf) ?_
    refine R.mvE rfl (by conv => lhs; whnf) ?_
    refine TL.off rfl rfl rfl ?_
    refine TL.off rfl rfl rfl ?_
    refine R.pkFE rfl rfl (by conv => lhs; whnf) ?_
    refine R.mvE rfl (by conv => lhs; whnf) ?_
    refine TL.off rfl rfl rfl ?_
    refine TL.off rfl rfl rfl ?_
    refine R.pkFE rfl rfl (by conv => lhs; whnf) ?_
    refine R.mvE rfl (by conv => lhs; whnf) ?_
    refine TL.off rfl rfl rfl ?_
    refine TL.off rfl rfl rfl ?_
    refine R.pkFE rfl rfl (by conv => lhs; whnf) ?_
    refine R.mvE rfl (by conv => lhs; whnf) ?_
    refine TL.off rfl rfl rfl ?_
    refine TL.off rfl rfl rfl ?_
    refine R.pkFE rfl rfl (by conv => lhs; whnf) ?_
    refine R.mvE rfl (by conv => lhs; whnf) ?_
    refine TL.off rfl rfl rfl ?_
    refine TL.off rfl rfl rfl ?_
    refine R.pkFE rfl rfl (by conv => lhs; whnf) ?_
    refine R.mvE rfl (by conv => lhs; whnf) ?_
    refine TL.off rfl rfl rfl ?_
    refine TL.off rfl rfl rfl ?_
    refine TL.off rfl rfl rfl ?_
    refine R.pkFE rfl rfl (by conv => lhs; whnf) ?_
    refine R.mvE rfl (by conv => lhs; whnf) ?_
    refine TL.off rfl rfl rfl ?_
    refine TL.off rfl rfl rfl ?_
    refine TL.off rfl rfl rfl ?_
    refine TL.off rfl rfl rfl ?_
    refine R.pkFE rfl rfl (by conv => lhs; whnf) ?_
    refine R.mvE rfl (by conv => lhs; whnf) ?_
    refine TL.off rfl rfl rfl ?_
    refine TL.off rfl rfl rfl ?_
    refine TL.off rfl rfl rfl ?_
    refine TL.off rfl rfl rfl ?_
    refine R.pkFE rfl rfl (by conv => lhs; whnf) ?_
    refine R.asE rfl (by conv => lhs; whnf) ?_
    refine TL.nil (Post.thnN ?_)
    refine T.has Has.nil ?_
    refine T.ret ?_
    have hM : windroselaw02_wakes_m = false := by subst er39; subst er34; subst er26; subst er20; subst er15; rw [windroselaw02_wakes_m, LR.seq_go, LR.seq_go, LR.seq_go, LR.seq_go, LR.seq_go, if_neg g45]
    exact fin1L (v := .bool false) [] rfl rfl (List.Sublist.refl _) ⟨rfl, by first | rw [hM] | rfl⟩

end Go.SX

set_option linter.unusedVariables false
set_option linter.unusedSimpArgs false
namespace Go.SX
open Go
theorem halves_ent {i g : Int} (hi : 1 ≤ i ∧ i ≤ 1048578) (hg : 0 ≤ g ∧ g ≤ 7) : ident_halves_m (entI i g) = (g, i) := by
  have hU : U (entI i g) := by unfold entI; exact ⟨by omega, by omega⟩
  unfold ident_halves_m
  rw [halfA_eq hU, halfB_eq hU]
  unfold hA hB entI
  refine Prod.ext ?_ ?_
  · show (i + g * 4294967296) / 4294967296 % 1073741824 = g; omega
  · show (i + g * 4294967296) % 1073741824 = i; omega
theorem kind_ent {i g : Int} (hi : 1 ≤ i ∧ i ≤ 1048578) (hg : 0 ≤ g ∧ g ≤ 7) : kindG (entI i g) = 1 := by
  refine kindG_1.2 ?_
  show identKind1_m (entI i g) (ident_halves_m (entI i g)).1 (ident_halves_m (entI i g)).2 = true
  rw [halves_ent hi hg]
  unfold identKind1_m
  rw [packed_eq hg ⟨by omega, hi.2⟩, if_pos rfl, if_pos (within1.2 hi)]
  exact within1.2 hg
theorem parts_ent {i g : Int} (hi : 1 ≤ i ∧ i ≤ 1048578) (hg : 0 ≤ g ∧ g ≤ 7) : ident_Parts_m (entI i g) = (i, g) := by
  rw [(kind1_parts (kind_ent hi hg)).1, halves_ent hi hg]
/-- The slot at place i is of someone who is alive, and is x. -/
def AtI (a : Al) (i : Nat) (x : Int) : Prop := ∃ g, a.2.1[i]? = some (g, true) ∧ x = entI ((i : Int) + 1) g
theorem Rt.rng {a : Al} (h : Rt a) {i : Nat} {s : Sl2} (hi : a.2.1[i]? = some s) : (1 ≤ (i : Int) + 1 ∧ (i : Int) + 1 ≤ 1048578) ∧ (0 ≤ s.1 ∧ s.1 ≤ 7) := by
  have h1 := (List.getElem?_eq_some_iff.1 hi).1
  have h2 := h.n2
  have h3 := h.m2
  have h4 := h.g i s hi
  exact ⟨by omega, h4.1, h4.2.1⟩
theorem AtI.inj {a : Al} (h : Rt a) {i j : Nat} {x : Int} (h1 : AtI a i x) (h2 : AtI a j x) : i = j := by
  obtain ⟨g, h3, h4⟩ := h1
  obtain ⟨g', h5, h6⟩ := h2
  have := h.rng h3
  have := h.rng h5
  simp only at *
  unfold entI at *
  omega
theorem AtI.parts {a : Al} (h : Rt a) {i : Nat} {x : Int} (h1 : AtI a i x) : (ident_Parts_m x).1 = (i : Int) + 1 := by
  obtain ⟨g, h3, rfl⟩ := h1
  have := h.rng h3
  rw [parts_ent this.1 this.2]
theorem alive_iff {a : Al} (h : Rt a) (x : Int) : alloc_alive_m a x = true ↔ ∃ i, AtI a i x := by
  have hn2 := h.n2
  have hm2 := h.m2
  constructor
  · intro k
    have hr := alive_rng k
    unfold alloc_alive_m at k
    split at k
    · cases k
    · rename_i h1
      have hk : kindG x = 1 := by omega
      obtain ⟨e1, e2, e3, e4⟩ := kind1_parts hk
      simp only [LR.seq] at k
      rw [e1] at k hr
      simp only at k hr
      rw [if_pos hr.2, decide_eq_true_eq] at k
      refine ⟨((ident_halves_m x).2 - 1).toNat, (ident_halves_m x).1, ?_, ?_⟩
      · rw [getD_get (z := ((0 : Int), false)) (by omega), k]
      · rw [show ((((ident_halves_m x).2 - 1).toNat : Nat) : Int) + 1 = (ident_halves_m x).2 by omega, ← packed_eq e4 ⟨by omega, e3.2⟩]
        exact e2
  · rintro ⟨i, g, h1, rfl⟩
    obtain ⟨r1, r2⟩ := h.rng h1
    have hl := (List.getElem?_eq_some_iff.1 h1).1
    unfold alloc_alive_m
    rw [if_neg (by rw [kind_ent r1 r2]; decide), parts_ent r1 r2]
    simp only [LR.seq]
    rw [if_pos (by omega), show ((i : Int) + 1 - 1).toNat = i by omega, List.getD_eq_getElem?_getD, h1]
    simp
def gfold : List Int → GS → GS
  | [], s => s
  | i :: r, s => gfold r (giveStep i s)
theorem give_l2_go (x : List Int) : ∀ (m k : Nat) (s : GS), m + k = (sortI x).length → (∀ j, k ≤ j → j < (sortI x).length → badAt (sortI x) j = false) → alloc_Give_l2 x m k s = .go (gfold ((sortI x).drop k) s)
  | 0, k, s, h, _ => by
    rw [alloc_Give_l2, List.drop_eq_nil_iff.2 (by omega)]; rfl
  | m + 1, k, s, h, hb => by
    rw [give_step, hb k (Nat.le_refl _) (by omega), if_neg Bool.false_ne_true, give_l2_go x m (k + 1) _ (by omega) (fun j h1 h2 => hb j (by omega) h2), List.drop_eq_getElem_cons (i := k) (by omega)]
    rw [gfold, List.getD_eq_getElem?_getD, List.getElem?_eq_getElem (by omega)]
    rfl
theorem give_l2_ret (x : List Int) : ∀ (m k : Nat) (s : GS), m + k = (sortI x).length → (∃ j, k ≤ j ∧ j < (sortI x).length ∧ badAt (sortI x) j = true) → alloc_Give_l2 x m k s = .ret (noAl, 2)
  | 0, k, s, h, ⟨j, h1, h2, _⟩ => by omega
  | m + 1, k, s, h, ⟨j, h1, h2, h3⟩ => by
    rw [give_step]
    cases hb : badAt (sortI x) k with
    | true => rw [if_pos rfl]
    | false =>
      rw [if_neg Bool.false_ne_true]
      refine give_l2_ret x m (k + 1) _ (by omega) ⟨j, ?_, h2, h3⟩
      rcases Nat.lt_or_ge k j with h4 | h4
      · exact h4
      · obtain rfl : j = k := by omega
        rw [hb] at h3; cases h3
theorem give_l1_eq : ∀ (l acc : List Int), alloc_Give_l1 l acc = acc ++ l.map (fun x => (ident_Parts_m x).1)
  | [], acc => by simp [alloc_Give_l1]
  | y :: ys, acc => by rw [alloc_Give_l1]; simp only [LR.seq]; rw [give_l1_eq ys]; simp
/-- No index is bad: none of the first two, none twice. -/
theorem bad_iff (X : List Int) : (∀ j, 0 ≤ j → j < (sortI X).length → badAt (sortI X) j = false) ↔ (∀ x ∈ X, 2 < x) ∧ X.Nodup := by
  have hp := sortI_perm X
  have hs := sortI_sorted X
  constructor
  · intro h
    have hg : ∀ j (hj : j < (sortI X).length), 2 < (sortI X)[j] ∧ (0 < j → (sortI X).getD (j - 1) 0 ≠ (sortI X)[j]) := by
      intro j hj
      have := h j (by omega) hj
      unfold badAt at this
      rw [Bool.or_eq_false_iff, decide_eq_false_iff_not] at this
      have e : (sortI X).getD j 0 = (sortI X)[j] := by rw [List.getD_eq_getElem?_getD, List.getElem?_eq_getElem hj]; rfl
      rw [e] at this
      refine ⟨by omega, fun h0 he => ?_⟩
      have h2 := this.2
      rw [decide_eq_true h0, Bool.true_and, decide_eq_false_iff_not] at h2
      exact h2 he
    refine ⟨fun x hx => ?_, hp.nodup_iff.1 ?_⟩
    · obtain ⟨j, hj, rfl⟩ := List.getElem_of_mem (hp.mem_iff.2 hx)
      exact (hg j hj).1
    · rw [List.nodup_iff_pairwise_ne, List.pairwise_iff_getElem]
      intro i j hi hj hij he
      have h1 := (hg j hj).2 (by omega)
      apply h1
      have e : (sortI X).getD (j - 1) 0 = (sortI X)[j - 1]'(by omega) := by rw [List.getD_eq_getElem?_getD, List.getElem?_eq_getElem (by omega)]; rfl
      rw [e]
      have h2 : (sortI X)[j - 1]'(by omega) ≤ (sortI X)[j] := (List.pairwise_iff_getElem.1 hs) (j - 1) j (by omega) hj (by omega)
      rcases Nat.lt_or_ge i (j - 1) with h3 | h3
      · have h4 : (sortI X)[i] ≤ (sortI X)[j - 1]'(by omega) := (List.pairwise_iff_getElem.1 hs) i (j - 1) hi (by omega) h3
        omega
      · have h4 : i = j - 1 := by omega
        subst h4; exact he
  · rintro ⟨h1, h2⟩ j _ hj
    have h3 : (sortI X).Nodup := hp.nodup_iff.2 h2
    unfold badAt
    have e : (sortI X).getD j 0 = (sortI X)[j] := by rw [List.getD_eq_getElem?_getD, List.getElem?_eq_getElem hj]; rfl
    rw [e, Bool.or_eq_false_iff, decide_eq_false_iff_not]
    refine ⟨by have := h1 _ (hp.mem_iff.1 (List.getElem_mem hj)); omega, ?_⟩
    by_cases h0 : 0 < j
    · rw [decide_eq_true h0, Bool.true_and, decide_eq_false_iff_not]
      have e2 : (sortI X).getD (j - 1) 0 = (sortI X)[j - 1]'(by omega) := by rw [List.getD_eq_getElem?_getD, List.getElem?_eq_getElem (by omega)]; rfl
      rw [e2]
      rw [List.nodup_iff_pairwise_ne, List.pairwise_iff_getElem] at h3
      exact h3 (j - 1) j (by omega) hj (by omega)
    · rw [decide_eq_false h0, Bool.false_and]
end Go.SX

set_option linter.unusedVariables false
set_option linter.unusedSimpArgs false
namespace Go.SX
open Go
/-- who is given, by place -/
def gvP (l : List Int) (k : Nat) (y : Sl2) : Bool := decide (entI ((k : Int) + 1) y.1 ∈ l)
def gvS (l : List Int) : List Sl2 → Nat → List Sl2
  | [], _ => []
  | y :: ys, k => (if gvP l k y then (y.1, false) else y) :: gvS l ys (k + 1)
def gvF (l : List Int) : List Sl2 → Nat → List Int
  | [], _ => []
  | y :: ys, k => if gvP l k y && decide (y.1 < 7) then ((k : Int) + 1) :: gvF l ys (k + 1) else gvF l ys (k + 1)
def giveR (a : Al) (l : List Int) : Al := (a.1, gvS l a.2.1 0, a.2.2 ++ gvF l a.2.1 0)
theorem gvS_get (l : List Int) : ∀ (s : List Sl2) (k j : Nat), (gvS l s k)[j]? = (s[j]?).map (fun t => if gvP l (k + j) t then (t.1, false) else t)
  | [], k, j => by simp [gvS]
  | y :: ys, k, 0 => by simp [gvS]
  | y :: ys, k, j + 1 => by
    rw [gvS, List.getElem?_cons_succ, gvS_get l ys (k + 1) j, List.getElem?_cons_succ, show k + 1 + j = k + (j + 1) by omega]
theorem gvS_len (l : List Int) : ∀ (s : List Sl2) (k : Nat), (gvS l s k).length = s.length
  | [], k => rfl
  | y :: ys, k => by simp [gvS, gvS_len l ys (k + 1)]
theorem gvF_mem (l : List Int) : ∀ (s : List Sl2) (k : Nat) (x : Int), x ∈ gvF l s k ↔ ∃ (i : Nat) (y : Sl2), s[i]? = some y ∧ gvP l (k + i) y = true ∧ y.1 < 7 ∧ x = ((k + i : Nat) : Int) + 1
  | [], k, x => by simp [gvF]
  | y :: ys, k, x => by
    have ih := gvF_mem l ys (k + 1) x
    have e : x ∈ gvF l (y :: ys) k ↔ ((gvP l k y = true ∧ y.1 < 7) ∧ x = (k : Int) + 1) ∨ x ∈ gvF l ys (k + 1) := by
      rw [gvF]
      by_cases h : (gvP l k y && decide (y.1 < 7)) = true
      · rw [if_pos h]; rw [Bool.and_eq_true, decide_eq_true_eq] at h; simp [h]
      · rw [if_neg h]; rw [Bool.and_eq_true, decide_eq_true_eq] at h; simp [h]
    rw [e, ih]
    constructor
    · rintro (⟨⟨h1, h2⟩, h3⟩ | ⟨i, s, h1, h2, h3, h4⟩)
      · exact ⟨0, y, rfl, h1, h2, by simpa using h3⟩
      · exact ⟨i + 1, s, by simpa using h1, by rw [show k + (i + 1) = k + 1 + i by omega]; exact h2, h3, by rw [h4]; congr 2; omega⟩
    · rintro ⟨i, s, h1, h2, h3, h4⟩
      cases i with
      | zero => simp at h1; subst h1; exact .inl ⟨⟨h2, h3⟩, by simpa using h4⟩
      | succ i => exact .inr ⟨i, s, by simpa using h1, by rw [show k + 1 + i = k + (i + 1) by omega]; exact h2, h3, by rw [h4]; congr 2; omega⟩
theorem gvF_up (l : List Int) : ∀ (s : List Sl2) (k : Nat), (gvF l s k).Pairwise (· < ·)
  | [], k => List.Pairwise.nil
  | y :: ys, k => by
    rw [gvF]
    split
    · refine List.Pairwise.cons (fun x hx => ?_) (gvF_up l ys (k + 1))
      obtain ⟨i, s, _, _, _, h⟩ := (gvF_mem l ys (k + 1) x).1 hx
      omega
    · exact gvF_up l ys (k + 1)
/-- What Give says. -/
noncomputable def giveP (a : Al) (l : List Int) : Al × Int := open Classical in if ∀ x ∈ l, alloc_alive_m a x = true then (if (∀ x ∈ l, 2 < x) ∧ l.Nodup then (giveR a l, 0) else (noAl, 2)) else (noAl, 122)
theorem genAt_step (i j : Int) (s : GS) : genAt (giveStep i s).2.2.1 j = genAt s.2.2.1 j := by
  unfold giveStep genAt
  simp only [List.getD_eq_getElem?_getD]
  by_cases e : (i - 1).toNat = (j - 1).toNat
  · rw [e]
    rcases Nat.lt_or_ge (j - 1).toNat s.2.2.1.length with hl | hl
    · rw [List.getElem?_set_self hl]; rfl
    · rw [List.getElem?_eq_none (by simpa using hl), List.getElem?_eq_none hl]
  · rw [List.getElem?_set_ne e]
theorem gfold_free : ∀ (S : List Int) (s : GS), (gfold S s).2.2.2 = s.2.2.2 ++ S.filter (fun i => decide (genAt s.2.2.1 i < 7))
  | [], s => by simp [gfold]
  | i :: r, s => by
    rw [gfold, gfold_free r]
    simp only [genAt_step]
    rw [List.filter_cons]
    show (if genAt s.2.2.1 i < 7 then s.2.2.2 ++ [i] else s.2.2.2) ++ _ = _
    by_cases g : genAt s.2.2.1 i < 7
    · rw [if_pos g, decide_eq_true g, if_pos rfl]; simp
    · rw [if_neg g, decide_eq_false g, if_neg Bool.false_ne_true]
theorem gfold_mid : ∀ (S : List Int) (s : GS), (gfold S s).2.1 = s.2.1
  | [], s => rfl
  | i :: r, s => by rw [gfold, gfold_mid r]; rfl
theorem gfold_slots : ∀ (S : List Int) (s : GS) (j : Nat), (gfold S s).2.2.1[j]? = open Classical in if ∃ i ∈ S, (i - 1).toNat = j then (s.2.2.1[j]?).map (fun t => (t.1, false)) else s.2.2.1[j]?
  | [], s, j => by rw [if_neg (fun ⟨i, h, _⟩ => by cases h)]; rfl
  | i :: r, s, j => by
    rw [gfold, gfold_slots r]
    have hs : (giveStep i s).2.2.1[j]? = if (i - 1).toNat = j then (s.2.2.1[j]?).map (fun t => (t.1, false)) else s.2.2.1[j]? := by
      unfold giveStep genAt
      by_cases e : (i - 1).toNat = j
      · rw [if_pos e, e]
        rcases Nat.lt_or_ge j s.2.2.1.length with hl | hl
        · rw [List.getElem?_set_self hl, List.getD_eq_getElem?_getD, List.getElem?_eq_getElem hl]; rfl
        · rw [List.getElem?_eq_none (by simpa using hl), List.getElem?_eq_none hl]; rfl
      · rw [if_neg e, List.getElem?_set_ne e]
    rw [hs]
    by_cases e : (i - 1).toNat = j
    · rw [if_pos e, if_pos (⟨i, List.mem_cons_self .., e⟩ : ∃ i' ∈ i :: r, (i' - 1).toNat = j)]
      by_cases c : ∃ i' ∈ r, (i' - 1).toNat = j
      · rw [if_pos c]; cases s.2.2.1[j]? <;> rfl
      · rw [if_neg c]
    · rw [if_neg e]
      by_cases c : ∃ i' ∈ r, (i' - 1).toNat = j
      · rw [if_pos c, if_pos]
        obtain ⟨i', h1, h2⟩ := c
        exact ⟨i', List.mem_cons_of_mem _ h1, h2⟩
      · rw [if_neg c, if_neg]
        rintro ⟨i', h1, h2⟩
        rcases List.mem_cons.1 h1 with rfl | h1
        · exact e h2
        · exact c ⟨i', h1, h2⟩
theorem all_id_go (f : Int → Int → Bool) : ∀ (l : List Int) (k : Nat), (∀ (i : Nat) (x : Int), l[i]? = some x → f ((k + i : Nat) : Int) x = true) → alloc_all_Id_l1 f l k () = .go ()
  | [], k, _ => rfl
  | y :: ys, k, h => by
    rw [alloc_all_Id_l1, show f (k : Int) y = true from by simpa using h 0 y rfl, Bool.not_true, if_neg Bool.false_ne_true]
    exact all_id_go f ys (k + 1) (fun i x hi => by have := h (i + 1) x (by simpa using hi); rwa [show k + (i + 1) = k + 1 + i by omega] at this)
theorem all_id_iff {f : Int → Bool} {l : List Int} : alloc_all_Id_m l (fun _ z => f z) = true ↔ ∀ x ∈ l, f x = true := by
  refine ⟨all_id, fun h => ?_⟩
  unfold alloc_all_Id_m
  rw [all_id_go (fun _ z => f z) l 0 (fun i x hi => h x (List.mem_of_getElem? hi)), LR.on_go]
/-- the place of one who is alive -/
def idxI (x : Int) : Int := (ident_Parts_m x).1
theorem idx_of {a : Al} (h : Rt a) {x : Int} (hx : alloc_alive_m a x = true) : ∃ (i : Nat) (g : Int), a.2.1[i]? = some (g, true) ∧ x = entI ((i : Int) + 1) g ∧ idxI x = (i : Int) + 1 := by
  obtain ⟨i, hi⟩ := (alive_iff h x).1 hx
  have := hi.parts h
  obtain ⟨g, h1, h2⟩ := hi
  exact ⟨i, g, h1, h2, this⟩
theorem idx_inj {a : Al} (h : Rt a) {x y : Int} (hx : alloc_alive_m a x = true) (hy : alloc_alive_m a y = true) (e : idxI x = idxI y) : x = y := by
  obtain ⟨i, g, h1, h2, h3⟩ := idx_of h hx
  obtain ⟨j, g', h4, h5, h6⟩ := idx_of h hy
  have : i = j := by omega
  subst this
  rw [h1] at h4; injection h4 with h4; injection h4 with h4
  rw [h2, h5, h4]
theorem idx_two {a : Al} (h : Rt a) {x : Int} (hx : alloc_alive_m a x = true) : 2 < idxI x ↔ 2 < x := by
  obtain ⟨i, g, h1, h2, h3⟩ := idx_of h hx
  have hr := h.rng h1
  have hg := h.g i _ h1
  simp only at hr hg
  rw [h2, ← h2, h3]
  constructor
  · intro k; rw [h2]; unfold entI; omega
  · intro k
    rcases Nat.lt_or_ge i 2 with h4 | h4
    · have := hg.2.2 h4
      injection this with this
      rw [h2, this] at k; unfold entI at k; omega
    · omega
theorem give_rt {a : Al} (h : Rt a) (l : List Int) : alloc_Give_m a l = giveP a l := by
  have hn2 := h.n2
  have hm2 := h.m2
  unfold alloc_Give_m giveP
  rw [(check_iff (by omega)).1.2 h, if_neg (by decide)]
  have hall : alloc_all_Id_m l (fun z0 z1 => alloc_Give_1_m a z0 z1) = true ↔ ∀ x ∈ l, alloc_alive_m a x = true := all_id_iff (f := fun z => alloc_alive_m a z)
  by_cases c1 : ∀ x ∈ l, alloc_alive_m a x = true
  rotate_left
  · have : alloc_all_Id_m l (fun z0 z1 => alloc_Give_1_m a z0 z1) = false := by
      cases e : alloc_all_Id_m l (fun z0 z1 => alloc_Give_1_m a z0 z1) with
      | false => rfl
      | true => exact absurd (hall.1 e) c1
    rw [this, Bool.not_false, if_pos rfl, if_neg c1]; rfl
  rw [hall.2 c1, Bool.not_true, if_neg Bool.false_ne_true, if_pos c1]
  simp only [LR.seq, alloc_own_eq]
  rw [give_l1_eq, List.nil_append]
  have hX : (l.map (fun x => (ident_Parts_m x).1)) = l.map idxI := rfl
  rw [hX]
  have hlen : (sortI (l.map idxI)).length = (l.map idxI).length := (sortI_perm _).length_eq
  have hb := bad_iff (l.map idxI)
  have hcond : ((∀ x ∈ l.map idxI, 2 < x) ∧ (l.map idxI).Nodup) ↔ ((∀ x ∈ l, 2 < x) ∧ l.Nodup) := by
    constructor
    · rintro ⟨h1, h2⟩
      refine ⟨fun x hx => (idx_two h (c1 x hx)).1 (h1 _ (List.mem_map_of_mem hx)), ?_⟩
      have := List.pairwise_map.1 h2
      exact this.imp (fun hne e => hne (by rw [e]))
    · rintro ⟨h1, h2⟩
      refine ⟨fun x hx => ?_, ?_⟩
      · obtain ⟨y, hy, rfl⟩ := List.mem_map.1 hx
        exact (idx_two h (c1 y hy)).2 (h1 y hy)
      · refine List.pairwise_map.2 (List.Pairwise.imp_of_mem (fun {x y} hx hy hne e => hne (idx_inj h (c1 x hx) (c1 y hy) e)) h2)
  by_cases c2 : (∀ x ∈ l, 2 < x) ∧ l.Nodup
  rotate_left
  · rw [if_neg c2]
    have hne : ¬ (∀ j, 0 ≤ j → j < (sortI (l.map idxI)).length → badAt (sortI (l.map idxI)) j = false) := fun k => c2 (hcond.1 (hb.1 k))
    have hex : ∃ j, 0 ≤ j ∧ j < (sortI (l.map idxI)).length ∧ badAt (sortI (l.map idxI)) j = true := by
      refine Classical.byContradiction (fun k => hne (fun j h1 h2 => ?_))
      cases e : badAt (sortI (l.map idxI)) j with
      | false => rfl
      | true => exact absurd ⟨j, h1, h2, e⟩ k
    rw [give_l2_ret _ _ _ _ (by omega) hex, LR.on_ret]
  · rw [if_pos c2, give_l2_go _ _ _ _ (by omega) (hb.2 (hcond.2 c2)), LR.on_go, List.drop_zero]
    have hmemS : ∀ x, x ∈ sortI (l.map idxI) ↔ ∃ y ∈ l, idxI y = x := fun x => by rw [(sortI_perm _).mem_iff, List.mem_map]
    -- a place of S, and whom it is of
    have hS : ∀ (j : Nat) (t : Sl2), a.2.1[j]? = some t → ((∃ i ∈ sortI (l.map idxI), (i - 1).toNat = j) ↔ gvP l j t = true) := by
      intro j t ht
      unfold gvP
      rw [decide_eq_true_eq]
      constructor
      · rintro ⟨i, h1, h2⟩
        obtain ⟨y, hy, rfl⟩ := (hmemS i).1 h1
        obtain ⟨q, g, h3, h4, h5⟩ := idx_of h (c1 y hy)
        have : q = j := by omega
        subst this
        rw [h3] at ht; injection ht with ht; subst ht
        rw [← h4]; exact hy
      · intro hm
        obtain ⟨q, g, h3, h4, h5⟩ := idx_of h (c1 _ hm)
        have hr1 := h.rng ht
        have hr2 := h.rng h3
        simp only at hr1 hr2
        have : q = j := by unfold entI at h4; omega
        subst this
        exact ⟨_, (hmemS _).2 ⟨_, hm, rfl⟩, by rw [h5]; omega⟩
    have hslots : (gfold (sortI (l.map idxI)) (a.2.1, a.1, a.2.1, a.2.2)).2.2.1 = gvS l a.2.1 0 := by
      refine List.ext_getElem? (fun j => ?_)
      rw [gfold_slots, gvS_get]
      show (if ∃ i ∈ sortI (l.map idxI), (i - 1).toNat = j then (a.2.1[j]?).map (fun t => (t.1, false)) else a.2.1[j]?) = _
      cases ht : a.2.1[j]? with
      | none => split <;> rfl
      | some t =>
        have := hS j t ht
        rw [Nat.zero_add]
        by_cases c : ∃ i ∈ sortI (l.map idxI), (i - 1).toNat = j
        · rw [if_pos c, Option.map_some, Option.map_some, if_pos (this.1 c)]
        · rw [if_neg c, Option.map_some, if_neg (fun k => c (this.2 k))]
    have hfree : (gfold (sortI (l.map idxI)) (a.2.1, a.1, a.2.1, a.2.2)).2.2.2 = a.2.2 ++ gvF l a.2.1 0 := by
      rw [gfold_free]
      congr 1
      show (sortI (l.map idxI)).filter (fun i => decide (genAt a.2.1 i < 7)) = gvF l a.2.1 0
      have hnd : (sortI (l.map idxI)).Nodup := (sortI_perm _).nodup_iff.2 (hcond.2 c2).2
      have hnd1 : ((sortI (l.map idxI)).filter (fun i => decide (genAt a.2.1 i < 7))).Nodup := hnd.sublist List.filter_sublist
      have hnd2 : (gvF l a.2.1 0).Nodup := (gvF_up l a.2.1 0).imp (fun k => by intro e; omega)
      refine List.Perm.eq_of_pairwise (le := (· ≤ ·)) (fun x y _ _ h1 h2 => by omega) ((sortI_sorted _).sublist List.filter_sublist) ((gvF_up l a.2.1 0).imp (fun k => by omega)) ((List.perm_ext_iff_of_nodup hnd1 hnd2).2 (fun x => ?_))
      rw [List.mem_filter, gvF_mem, decide_eq_true_eq]
      constructor
      · rintro ⟨h1, h2⟩
        obtain ⟨y, hy, rfl⟩ := (hmemS x).1 h1
        obtain ⟨q, g, h3, h4, h5⟩ := idx_of h (c1 y hy)
        refine ⟨q, (g, true), h3, by rw [Nat.zero_add]; exact (hS q _ h3).1 ⟨_, h1, by rw [h5]; omega⟩, ?_, by rw [h5]; simp⟩
        unfold genAt at h2
        rw [h5, show ((q : Int) + 1 - 1).toNat = q by omega, List.getD_eq_getElem?_getD, h3] at h2
        exact h2
      · rintro ⟨q, t, h3, h4, h5, h6⟩
        rw [Nat.zero_add] at h4 h6
        obtain ⟨i, h7, h8⟩ := (hS q t h3).2 h4
        obtain ⟨y, hy, rfl⟩ := (hmemS i).1 h7
        obtain ⟨q', g, h9, _, h10⟩ := idx_of h (c1 y hy)
        have : idxI y = x := by omega
        refine ⟨by rw [← this]; exact h7, ?_⟩
        unfold genAt
        rw [h6, show ((q : Int) + 1 - 1).toNat = q by omega, List.getD_eq_getElem?_getD, h3]
        exact h5
    rw [gfold_mid, hslots, hfree]; rfl
end Go.SX

set_option linter.unusedVariables false
set_option linter.unusedSimpArgs false
namespace Go.SX
open Go Go.Proofs

def windroselaw02_AllocMay_l4  : List Int → Nat → Unit → LR (LR (Bool) (Unit)) (Unit)
  | [], kl4, sl4 => .go ()
  | yl4 :: ysl4, kl4, sl4 => if (kl4 : Int) = 6 then (.go ()) else (LR.seq (alloc_New_m yl4) (fun r64 => LR.seq (if (1 : Int) ≤ yl4 then ((decide (yl4 ≤ 1048576))) else false : Bool) (fun sc5 => LR.seq (if sc5 = true then (LR.seq (windroseref02_New_m yl4) (fun r75 => (0, r75.1, r75.2.1, r75.2.2))) else ((2, 0, [], [])) : Int × Int × (List (Int × Bool)) × (List Int)) (fun sc6 => LR.seq (if r64.2 ≠ sc6.1 then true else ((!(windroseref02_Same_m r64.1 ((sc6.2.1, sc6.2.2.1, sc6.2.2.2))))) : Bool) (fun sc7 => if sc7 = true then (.ret (.ret false)) else (windroselaw02_AllocMay_l4 ysl4 (kl4 + 1) ()))))))
def windroselaw02_AllocMay_m (a0 : Int × (List (Int × Bool)) × (List Int)) (a1 : Int × (List (Int × Bool)) × (List Int)) (a2 : List Int) : Bool :=
  if (!windroselaw02_wakes_m) = true then false else (LR.seq (LR.seq (windroselaw02_own_m a0) (fun r19 => LR.seq (windroselaw02_own_m a1) (fun r21 => (r19.1, r19.2.1, r19.2.2, r21.1, r21.2.1, r21.2.2))) : Int × (List (Int × Bool)) × (List Int) × Int × (List (Int × Bool)) × (List Int)) (fun sc1 => LR.seq (if ((decide (((alloc_Check_m ((sc1.1, sc1.2.1, sc1.2.2.1))) : Int) = 0)) != (windroseref02_Right_m ((sc1.1, sc1.2.1, sc1.2.2.1)))) = true then true else (if ((alloc_Check_m ((sc1.1, sc1.2.1, sc1.2.2.1))) : Int) ≠ 0 then (if ((alloc_Check_m ((sc1.1, sc1.2.1, sc1.2.2.1))) : Int) ≠ 120 then true else (LR.seq (windroseref02_Same_m ((sc1.1, sc1.2.1, sc1.2.2.1)) ((sc1.2.2.2.1, sc1.2.2.2.2.1, sc1.2.2.2.2.2))) (fun r43 => if ((alloc_Same_m ((sc1.1, sc1.2.1, sc1.2.2.1)) ((sc1.2.2.2.1, sc1.2.2.2.2.1, sc1.2.2.2.2.2))) != r43) = true then true else (LR.seq (windroselaw02_own_m a0) (fun r49 => (!(alloc_Same_m ((sc1.1, sc1.2.1, sc1.2.2.1)) r49))))))) else (LR.seq (windroseref02_Same_m ((sc1.1, sc1.2.1, sc1.2.2.1)) ((sc1.2.2.2.1, sc1.2.2.2.2.1, sc1.2.2.2.2.2))) (fun r43 => if ((alloc_Same_m ((sc1.1, sc1.2.1, sc1.2.2.1)) ((sc1.2.2.2.1, sc1.2.2.2.2.1, sc1.2.2.2.2.2))) != r43) = true then true else (LR.seq (windroselaw02_own_m a0) (fun r49 => (!(alloc_Same_m ((sc1.1, sc1.2.1, sc1.2.2.1)) r49))))))) : Bool) (fun sc2 => if sc2 = true then false else (LR.on (LR.on (windroselaw02_AllocMay_l4 a2 0 ()) (fun r => r) (fun ol4 => .go ol4) : LR (Bool) (Unit)) (fun r => r) (fun sc3 => LR.seq (windroselaw02_own_m a0) (fun r88 => (windroseref02_Same_m ((sc1.1, sc1.2.1, sc1.2.2.1)) r88)))))))
end Go.SX

set_option linter.unusedVariables false
set_option linter.unusedSimpArgs false
namespace Go.SX
open Go Go.Proofs

def windroselaw02_AllocTakes_l2  : List (List Int) → Nat → (Int × (List (Int × Bool)) × (List Int)) → LR (LR (Bool) (Unit)) (Unit)
  | [], kl2, sl2 => .go ()
  | yl2 :: ysl2, kl2, sl2 => if (kl2 : Int) = 8 then (.go ()) else (LR.seq (windroselaw02_own_m ((sl2.1, sl2.2.1, sl2.2.2))) (fun r31 => LR.seq (alloc_Take_m ((sl2.1, sl2.2.1, sl2.2.2))) (fun r36 => LR.seq (if (windroseref02_Right_m ((sl2.1, sl2.2.1, sl2.2.2))) = true then (LR.seq (windroselaw02_own_m ((sl2.1, sl2.2.1, sl2.2.2))) (fun r44 => LR.seq (windroseref02_Take_m r44) (fun r45 => (r45.2.1, r45.2.2, r45.1.1, r45.1.2.1, r45.1.2.2)))) else ((0, 120, 0, [], [])) : Int × Int × Int × (List (Int × Bool)) × (List Int)) (fun sc3 => LR.seq (if r36.2.2 ≠ sc3.2.1 then true else (if r36.2.1 ≠ sc3.1 then true else ((!(windroseref02_Same_m r36.1 ((sc3.2.2.1, sc3.2.2.2.1, sc3.2.2.2.2)))))) : Bool) (fun sc4 => if sc4 = true then (.ret (.ret false)) else (LR.seq (if r36.2.2 = 0 then (LR.seq (windroselaw02_own_m ((sc3.2.2.1, sc3.2.2.2.1, sc3.2.2.2.2))) (fun r68 => LR.seq (windroselaw02_own_m ((sc3.2.2.1, sc3.2.2.2.1, sc3.2.2.2.2))) (fun r70 => (r70.1, r70.2.1, r70.2.2, r68.1, r68.2.1, r68.2.2)))) else ((r31.1, r31.2.1, r31.2.2, sl2.1, sl2.2.1, sl2.2.2)) : Int × (List (Int × Bool)) × (List Int) × Int × (List (Int × Bool)) × (List Int)) (fun sc5 => LR.seq (alloc_Give_m ((sc5.2.2.2.1, sc5.2.2.2.2.1, sc5.2.2.2.2.2)) (yl2.take ((min yl2.length 8)))) (fun r80 => LR.seq (if (windroseref02_Right_m ((sl2.1, sl2.2.1, sl2.2.2))) = true then (LR.seq (windroselaw02_own_m ((sc5.2.2.2.1, sc5.2.2.2.2.1, sc5.2.2.2.2.2))) (fun r87 => LR.seq (windroseref02_Give_m r87 (yl2.take ((min yl2.length 8)))) (fun r89 => (r89.2, r89.1.1, r89.1.2.1, r89.1.2.2)))) else ((120, 0, [], [])) : Int × Int × (List (Int × Bool)) × (List Int)) (fun sc6 => LR.seq (if r80.2 ≠ sc6.1 then true else ((!(windroseref02_Same_m r80.1 ((sc6.2.1, sc6.2.2.1, sc6.2.2.2))))) : Bool) (fun sc7 => if sc7 = true then (.ret (.ret false)) else (LR.seq (windroseref02_Same_m ((sc5.2.2.2.1, sc5.2.2.2.2.1, sc5.2.2.2.2.2)) ((sc5.1, sc5.2.1, sc5.2.2.1))) (fun r105 => if (!r105) = true then (.ret (.ret false)) else (if r80.2 = 0 then (LR.seq (windroselaw02_own_m ((sc6.2.1, sc6.2.2.1, sc6.2.2.2))) (fun r110 => windroselaw02_AllocTakes_l2 ysl2 (kl2 + 1) ((r110.1, r110.2.1, r110.2.2)))) else (windroselaw02_AllocTakes_l2 ysl2 (kl2 + 1) ((sc5.2.2.2.1, sc5.2.2.2.2.1, sc5.2.2.2.2.2))))))))))))))))
def windroselaw02_AllocTakes_m (a0 : Int × (List (Int × Bool)) × (List Int)) (a1 : List (List Int)) : Bool :=
  if (!windroselaw02_wakes_m) = true then false else (LR.seq (windroselaw02_own_m a0) (fun r20 => LR.on (LR.on (windroselaw02_AllocTakes_l2 a1 0 ((r20.1, r20.2.1, r20.2.2))) (fun r => r) (fun ol2 => .go ol2) : LR (Bool) (Unit)) (fun r => r) (fun sc1 => true)))
end Go.SX

set_option linter.unusedVariables false
set_option linter.unusedSimpArgs false
namespace Go.SX
open Go
theorem alive_m_iff {a : Al} (hs : a.2.1.length ≤ 2000000) (x : Int) : alloc_Alive_m a x = true ↔ Rt a ∧ ∃ i, AtI a i x := by
  unfold alloc_Alive_m
  by_cases h : Rt a
  · rw [if_pos ((check_iff hs).1.2 h), alive_iff h]; exact ⟨fun k => ⟨h, k⟩, fun k => k.2⟩
  · rw [if_neg (fun k => h ((check_iff hs).1.1 k))]; exact ⟨fun k => (by cases k), fun k => absurd k.1 h⟩
abbrev tS : Sl2 := (0, true)
theorem rt_a : Rt (1, [tS, tS], []) where
  m1 := by decide
  m2 := by decide
  n1 := by decide
  n2 := by decide
  al := by decide
  g := fun i s h => by
    match i, h with
    | 0, h => simp at h; subst h; exact ⟨by decide, by decide, fun _ => rfl⟩
    | 1, h => simp at h; subst h; exact ⟨by decide, by decide, fun _ => rfl⟩
    | n + 2, h => simp at h
  f := by simp [sortI, useL, useB]
theorem rt_c : Rt (1, [tS, tS, (0, false)], [3]) where
  m1 := by decide
  m2 := by decide
  n1 := by decide
  n2 := by decide
  al := by decide
  g := fun i s h => by
    match i, h with
    | 0, h => simp at h; subst h; exact ⟨by decide, by decide, fun _ => rfl⟩
    | 1, h => simp at h; subst h; exact ⟨by decide, by decide, fun _ => rfl⟩
    | 2, h => simp at h; subst h; exact ⟨by decide, by decide, fun k => absurd k (by decide)⟩
    | n + 3, h => simp at h
  f := by simp [sortI, useL, useB]
theorem wakes_true : windroselaw02_wakes_m = true := by
  have e1 : alloc_New_m 1 = ((1, [tS, tS], []), 0) := by unfold alloc_New_m; simp [LR.seq]
  have t1 : takeP (1, [tS, tS], []) = ((1, [tS, tS, tS], []), 3, 0) := by decide
  have rb : Rt (1, [tS, tS, tS], []) := by have := take_keeps rt_a (by rw [t1]); rw [t1] at this; exact this
  have t2 : takeP (1, [tS, tS, tS], []) = (noAl, 0, 6) := by decide
  have ab : alloc_alive_m (1, [tS, tS, tS], []) 3 = true := (alive_iff rb 3).2 ⟨2, 0, rfl, by decide⟩
  have g1 : alloc_Give_m (1, [tS, tS, tS], []) [3] = ((1, [tS, tS, (0, false)], [3]), 0) := by
    rw [give_rt rb]
    unfold giveP
    rw [if_pos (fun x hx => by rw [List.mem_singleton.1 hx]; exact ab), if_pos ⟨fun x hx => by rw [List.mem_singleton.1 hx]; decide, by simp⟩]
    refine Prod.ext ?_ rfl
    show giveR _ _ = _
    decide
  have t3 : takeP (1, [tS, tS, (0, false)], [3]) = ((1, [tS, tS, (1, true)], []), 4294967299, 0) := by decide
  have rd : Rt (1, [tS, tS, (1, true)], []) := by have := take_keeps rt_c (by rw [t3]); rw [t3] at this; exact this
  have a1 : alloc_Alive_m (1, [tS, tS, (1, true)], []) 4294967299 = true := (alive_m_iff (by decide) _).2 ⟨rd, 2, 1, rfl, by decide⟩
  have a2 : alloc_Alive_m (1, [tS, tS, (1, true)], []) 3 = false := by
    cases e : alloc_Alive_m (1, [tS, tS, (1, true)], []) 3 with
    | false => rfl
    | true =>
      obtain ⟨_, i, g, h1, h2⟩ := (alive_m_iff (by decide) _).1 e
      have hr := rd.rng h1
      simp only at hr
      have h3 : i = 2 ∧ g = 0 := by unfold entI at h2; omega
      obtain ⟨rfl, rfl⟩ := h3
      simp at h1
  have l1 : (alloc_All_m (1, [tS, tS, (1, true)], [])).length = 3 := by
    unfold alloc_All_m
    rw [(check_iff (by decide)).1.2 rd, if_neg (by decide)]
    simp only [LR.seq]
    rw [all_r1_len]
    unfold alloc_living_m alloc_living_1_m
    rw [List.append_nil, living_l1]; decide
  unfold windroselaw02_wakes_m
  simp only [LR.seq]
  rw [e1]
  simp only
  rw [take_rt rt_a, t1]
  simp only
  rw [take_rt rb, t2, g1]
  simp only
  rw [take_rt rt_c, t3]
  simp only
  rw [a1, a2, l1]
  simp
theorem eta3 {α β γ : Type} (p : α × β × γ) : (p.1, p.2.1, p.2.2) = p := rfl
end Go.SX

set_option linter.unusedVariables false
set_option linter.unusedSimpArgs false
namespace Go.SX
open Go Go.Proofs

def windroselaw02_AllocSees_l6 (yl4 : Int) : List Int → (Int × Bool) → Int × Bool
  | [], sl6 => (sl6.1, sl6.2)
  | yl6 :: ysl6, sl6 => if ((IntKind.i64.wrap (Int.tmod yl6 4294967296)) : Int) = (IntKind.i64.wrap ((IntKind.i64.wrap (Int.tmod yl4 64)) - 2)) then (windroselaw02_AllocSees_l6 yl4 ysl6 ((yl6, true))) else (windroselaw02_AllocSees_l6 yl4 ysl6 ((sl6.1, sl6.2)))
def windroselaw02_AllocSees_l4 (r21 : (Int × (List (Int × Bool)) × (List Int))) (x7c1 : List Int) : List Int → Nat → Unit → LR (LR (Bool) (Unit)) (Unit)
  | [], kl4, sl4 => .go ()
  | yl4 :: ysl4, kl4, sl4 => if (kl4 : Int) = 12 then (.go ()) else (LR.seq (if (windroseref02_Right_m r21) = true then (((alloc_Alive_m r21 yl4) != (windroseref02_Is_m r21 yl4))) else (((alloc_Alive_m r21 yl4) != false)) : Bool) (fun sc5 => if sc5 = true then (.ret (.ret false)) else (LR.seq (alloc_At_m r21 ((IntKind.i64.wrap ((IntKind.i64.wrap (Int.tmod yl4 64)) - 2)))) (fun r66 => LR.seq (windroselaw02_AllocSees_l6 yl4 x7c1 ((0, false))) (fun ol6 => LR.seq (if r66.1 ≠ ol6.1 then true else ((r66.2 != ol6.2)) : Bool) (fun sc7 => if sc7 = true then (.ret (.ret false)) else (windroselaw02_AllocSees_l4 r21 x7c1 ysl4 (kl4 + 1) ())))))))
def windroselaw02_AllocSees_m (a0 : Int × (List (Int × Bool)) × (List Int)) (a1 : List Int) : Bool :=
  if (!windroselaw02_wakes_m) = true then false else (LR.seq (windroselaw02_own_m a0) (fun r21 => LR.seq (if (windroseref02_Right_m r21) = true then (LR.seq (windroseref02_All_m r21) (fun r26 => (r26, (windroseref02_Room_m r21)))) else (([], 0)) : (List Int) × Int) (fun sc1 => LR.seq (LR.seq (alloc_All_m r21) (fun r30 => if ¬ (r30 = sc1.1) then true else ((decide (((alloc_Room_m r21) : Int) ≠ sc1.2)))) : Bool) (fun sc2 => if sc2 = true then false else (LR.on (LR.on (windroselaw02_AllocSees_l4 r21 sc1.1 a1 0 ()) (fun r => r) (fun ol4 => .go ol4) : LR (Bool) (Unit)) (fun r => r) (fun sc3 => LR.seq (windroselaw02_own_m a0) (fun r94 => (windroseref02_Same_m r21 r94))))))))
end Go.SX

set_option linter.unusedVariables false
set_option linter.unusedSimpArgs false
namespace Go.SX
open Go Go.Proofs

def windroselaw02_AllocGives_l4 (r29 : (Int × (List (Int × Bool)) × (List Int)) × Int) (x8l1 : List Int) : Nat → Nat → Unit → LR (Bool) (Unit)
  | 0, kl4, sl4 => .go ()
  | ml4 + 1, kl4, sl4 => LR.seq (alloc_At_m r29.1 ((kl4 : Int))) (fun r80 => LR.seq (if (r80.2 != (decide (r80.1 ∈ x8l1))) = true then true else (if r80.2 = true then ((decide (((IntKind.i64.wrap (Int.tmod r80.1 4294967296)) : Int) ≠ (kl4 : Int)))) else false) : Bool) (fun sc5 => if sc5 = true then (.ret false) else (windroselaw02_AllocGives_l4 r29 x8l1 ml4 (kl4 + 1) ())))
def windroselaw02_AllocGives_l2 (r19 : (Int × (List (Int × Bool)) × (List Int))) (r29 : (Int × (List (Int × Bool)) × (List Int)) × Int) : List Int → Unit → LR (Bool) (Unit)
  | [], sl2 => .go ()
  | yl2 :: ysl2, sl2 => LR.seq (if (!(alloc_Alive_m r19 yl2)) = true then true else ((alloc_Alive_m r29.1 yl2)) : Bool) (fun sc3 => if sc3 = true then (.ret false) else (windroselaw02_AllocGives_l2 r19 r29 ysl2 ()))
def windroselaw02_AllocGives_l1 (x25 : List Int) : List Int → ((List Int)) → (List Int)
  | [], sl1 => sl1
  | yl1 :: ysl1, sl1 => if ¬ (yl1 ∈ x25) then (windroselaw02_AllocGives_l1 x25 ysl1 ((sl1 ++ [yl1]))) else (windroselaw02_AllocGives_l1 x25 ysl1 sl1)
def windroselaw02_AllocGives_m (a0 : Int × (List (Int × Bool)) × (List Int)) (a1 : List Int) : Bool :=
  if (!windroselaw02_wakes_m) = true then false else (LR.seq (windroselaw02_own_m a0) (fun r19 => LR.seq (alloc_Give_m r19 (a1.take ((min a1.length 12)))) (fun r29 => if r29.2 ≠ 0 then ((decide ((r29.1.2.1.length : Int) = 0))) else (LR.seq (alloc_All_m r19) (fun r39 => LR.seq (windroselaw02_AllocGives_l1 (a1.take ((min a1.length 12))) r39 []) (fun ol1 => LR.on (windroselaw02_AllocGives_l2 r19 r29 (a1.take ((min a1.length 12))) ()) (fun r => r) (fun ol2 => LR.on (windroselaw02_AllocGives_l4 r29 ol1 (((((r29.1.2.1.length : Int) + 2)).toNat) - 0) 0 ()) (fun r => r) (fun ol4 => LR.seq (alloc_All_m r29.1) (fun r100 => if r100 = ol1 then ((decide (((alloc_Check_m r29.1) : Int) = 0))) else false)))))))))
end Go.SX

set_option linter.unusedVariables false
set_option linter.unusedSimpArgs false
namespace Go.SX
open Go
/-- those that are alive, by their places -/
def allL : List Sl2 → Nat → List Int
  | [], _ => []
  | y :: ys, k => if y.2 then entI ((k : Int) + 1) y.1 :: allL ys (k + 1) else allL ys (k + 1)
theorem all_r1 : ∀ (l : List (Int × Sl2)) (acc : List Int), alloc_All_r1 l acc = acc ++ l.map (fun y => (ident_Entity_m y.1 y.2.1).1)
  | [], acc => by simp [alloc_All_r1]
  | y :: ys, acc => by rw [alloc_All_r1, LR.seq_go, all_r1 ys]; simp
theorem living_map {a : Al} (h : Rt a) : ∀ (l : List Sl2) (k : Nat), l = a.2.1.drop k → (alloc_living_1_l1 l k ()).map (fun y => (ident_Entity_m y.1 y.2.1).1) = allL l k
  | [], k, _ => rfl
  | y :: ys, k, e => by
    have hk : k < a.2.1.length := by
      rcases Nat.lt_or_ge k a.2.1.length with h | h
      · exact h
      · rw [List.drop_eq_nil_iff.2 h] at e; cases e
    rw [List.drop_eq_getElem_cons hk] at e
    injection e with e1 e2
    have hy : a.2.1[k]? = some y := by rw [List.getElem?_eq_getElem hk, e1]
    obtain ⟨r1, r2⟩ := h.rng hy
    rw [alloc_living_1_l1, allL]
    cases hb : y.2 with
    | true => rw [if_pos rfl, if_pos rfl, List.map_cons, living_map h ys (k + 1) e2, entity_ok r1 r2]
    | false => rw [if_neg Bool.false_ne_true, if_neg Bool.false_ne_true, living_map h ys (k + 1) e2]
theorem all_rt {a : Al} (h : Rt a) : alloc_All_m a = allL a.2.1 0 := by
  have hn := h.n2
  have hm := h.m2
  unfold alloc_All_m
  rw [(check_iff (by omega)).1.2 h, if_neg (by decide), LR.seq_go, LR.seq_go, all_r1, List.nil_append]
  unfold alloc_living_m alloc_living_1_m
  rw [List.append_nil]
  exact living_map h a.2.1 0 rfl
theorem allL_mem {a : Al} : ∀ (l : List Sl2) (k : Nat) (x : Int), x ∈ allL l k ↔ ∃ (i : Nat) (g : Int), l[i]? = some (g, true) ∧ x = entI (((k + i : Nat) : Int) + 1) g
  | [], k, x => by simp [allL]
  | y :: ys, k, x => by
    have ih := allL_mem (a := a) ys (k + 1) x
    have e : x ∈ allL (y :: ys) k ↔ (y.2 = true ∧ x = entI ((k : Int) + 1) y.1) ∨ x ∈ allL ys (k + 1) := by
      rw [allL]
      cases h : y.2 <;> simp
    rw [e, ih]
    constructor
    · rintro (⟨h1, h2⟩ | ⟨i, g, h1, h2⟩)
      · exact ⟨0, y.1, by simp [← h1], by simpa using h2⟩
      · exact ⟨i + 1, g, by simpa using h1, by rw [h2]; congr 2; omega⟩
    · rintro ⟨i, g, h1, h2⟩
      cases i with
      | zero => simp at h1; subst h1; exact .inl ⟨rfl, by simpa using h2⟩
      | succ i => exact .inr ⟨i, g, by simpa using h1, by rw [h2]; congr 2; omega⟩
theorem all_mem {a : Al} (x : Int) : x ∈ allL a.2.1 0 ↔ ∃ i, AtI a i x := by
  rw [allL_mem (a := a)]
  constructor
  · rintro ⟨i, g, h1, h2⟩; exact ⟨i, g, h1, by rw [h2, Nat.zero_add]⟩
  · rintro ⟨i, g, h1, h2⟩; exact ⟨i, g, h1, by rw [h2, Nat.zero_add]⟩
end Go.SX

set_option linter.unusedVariables false
set_option linter.unusedSimpArgs false
namespace Go.SX
open Go
theorem allL_gv (l : List Int) : ∀ (s : List Sl2) (k : Nat), allL (gvS l s k) k = (allL s k).filter (fun x => decide (x ∉ l))
  | [], k => rfl
  | y :: ys, k => by
    rw [gvS, allL, allL, allL_gv l ys (k + 1)]
    by_cases hp : gvP l k y = true
    · rw [if_pos hp, if_neg Bool.false_ne_true]
      cases hy : y.2 with
      | false => rw [if_neg Bool.false_ne_true]
      | true =>
        rw [if_pos rfl, List.filter_cons, if_neg]
        unfold gvP at hp
        rw [decide_eq_true_eq] at hp
        simp [hp]
    · rw [if_neg hp]
      cases hy : y.2 with
      | false => rw [if_neg Bool.false_ne_true, if_neg Bool.false_ne_true]
      | true =>
        rw [if_pos rfl, if_pos rfl, List.filter_cons, if_pos]
        unfold gvP at hp
        rw [decide_eq_true_eq] at hp
        simp [hp]
theorem allL_len : ∀ (l : List Sl2) (k : Nat), (allL l k).length = aliveN l
  | [], k => rfl
  | y :: ys, k => by
    rw [allL]
    cases h : y.2 with
    | true => rw [if_pos rfl, List.length_cons, allL_len ys]; simp [aliveN, h]
    | false => rw [if_neg Bool.false_ne_true, allL_len ys]; simp [aliveN, h]
theorem allL_giveR (a : Al) (l : List Int) : allL (giveR a l).2.1 0 = (allL a.2.1 0).filter (fun x => decide (x ∉ l)) := allL_gv l a.2.1 0
theorem giveR_rt {a : Al} (h : Rt a) {l : List Int} (c1 : ∀ x ∈ l, alloc_alive_m a x = true) (c2 : ∀ x ∈ l, 2 < x) : Rt (giveR a l) := by
  have hgiv : ∀ {i : Nat} {t : Sl2}, a.2.1[i]? = some t → gvP l i t = true → t.2 = true ∧ 2 ≤ i := by
    intro i t ht hp
    unfold gvP at hp
    rw [decide_eq_true_eq] at hp
    obtain ⟨q, g, h1, h2⟩ := (alive_iff h _).1 (c1 _ hp)
    have hr1 := h.rng ht
    have hr2 := h.rng h1
    simp only at hr1 hr2
    have e : q = i := by unfold entI at h2; omega
    subst e
    rw [ht] at h1; injection h1 with h1
    refine ⟨by rw [h1], ?_⟩
    rcases Nat.lt_or_ge q 2 with h3 | h3
    · have := (h.g q t ht).2.2 h3
      have h4 := c2 _ hp
      rw [this] at h4
      unfold entI at h4
      simp only at h4
      omega
    · exact h3
  have hsl : ∀ (i : Nat), (giveR a l).2.1[i]? = (a.2.1[i]?).map (fun t => if gvP l i t then (t.1, false) else t) := by
    intro i
    show (gvS l a.2.1 0)[i]? = _
    rw [gvS_get, Nat.zero_add]
  refine ⟨h.m1, h.m2, ?_, ?_, ?_, ?_, ?_⟩
  · show 2 ≤ (gvS l a.2.1 0).length
    rw [gvS_len]; exact h.n1
  · show ((gvS l a.2.1 0).length : Int) ≤ _
    rw [gvS_len]; exact h.n2
  · have e1 := allL_len (giveR a l).2.1 0
    have e2 := allL_len a.2.1 0
    rw [allL_giveR] at e1
    have e3 := List.length_filter_le (fun x => decide (x ∉ l)) (allL a.2.1 0)
    have e4 := h.al
    show _ ≤ a.1
    omega
  · intro i s hs
    rw [hsl] at hs
    cases ht : a.2.1[i]? with
    | none => rw [ht] at hs; cases hs
    | some t =>
      rw [ht, Option.map_some] at hs
      injection hs with hs
      have hg := h.g i t ht
      by_cases hp : gvP l i t = true
      · rw [if_pos hp] at hs
        subst hs
        refine ⟨hg.1, hg.2.1, fun h3 => ?_⟩
        have := (hgiv ht hp).2
        omega
      · rw [if_neg hp] at hs
        subst hs; exact hg
  · have hp1 := sortI_perm (giveR a l).2.2
    have hp0 := sortI_perm a.2.2
    have hfn : a.2.2.Nodup := by rw [← hp0.nodup_iff, h.f]; exact useL_nodup _ _
    have hgn : (gvF l a.2.1 0).Nodup := (gvF_up l a.2.1 0).imp (fun k => by intro e; omega)
    have hnd : (giveR a l).2.2.Nodup := by
      show (a.2.2 ++ gvF l a.2.1 0).Nodup
      refine List.nodup_append.2 ⟨hfn, hgn, ?_⟩
      intro x hx y hy e
      subst e
      obtain ⟨i, s, h1, h2, h3⟩ := h.free.1 hx
      obtain ⟨j, t, h4, h5, h6, h7⟩ := (gvF_mem l a.2.1 0 x).1 hy
      rw [Nat.zero_add] at h5 h7
      have e : i = j := by omega
      subst e
      rw [h1] at h4; injection h4 with h4; subst h4
      have := (hgiv h1 h5).1
      unfold useB at h2
      rw [this] at h2; cases h2
    refine List.Perm.eq_of_pairwise (le := (· ≤ ·)) (fun x y _ _ h1 h2 => by omega) (sortI_sorted _) ((useL_up _ _).imp (fun k => by omega)) ((List.perm_ext_iff_of_nodup (hp1.nodup_iff.2 hnd) (useL_nodup _ _)).2 (fun x => ?_))
    rw [hp1.mem_iff, useL_mem]
    show x ∈ a.2.2 ++ gvF l a.2.1 0 ↔ _
    rw [List.mem_append, h.free, gvF_mem]
    constructor
    · rintro (⟨i, s, h1, h2, h3⟩ | ⟨i, s, h1, h2, h3, h4⟩)
      · refine ⟨i, s, ?_, h2, by rw [Nat.zero_add]; exact h3⟩
        rw [hsl, h1, Option.map_some, if_neg]
        intro hp
        have := (hgiv h1 hp).1
        unfold useB at h2
        rw [this] at h2; cases h2
      · rw [Nat.zero_add] at h2
        refine ⟨i, (s.1, false), ?_, ?_, h4⟩
        · rw [hsl, h1, Option.map_some, if_pos h2]
        · unfold useB; simp [h3]
    · rintro ⟨i, s, h1, h2, h3⟩
      rw [hsl] at h1
      cases ht : a.2.1[i]? with
      | none => rw [ht] at h1; cases h1
      | some t =>
        rw [ht, Option.map_some] at h1
        injection h1 with h1
        by_cases hp : gvP l i t = true
        · rw [if_pos hp] at h1
          subst h1
          refine .inr ⟨i, t, ht, by rw [Nat.zero_add]; exact hp, ?_, h3⟩
          unfold useB at h2; simpa using h2
        · rw [if_neg hp] at h1
          subst h1
          exact .inl ⟨i, t, ht, h2, by rw [Nat.zero_add] at h3; exact h3⟩
theorem giveP_rt {a : Al} (h : Rt a) {l : List Int} (h0 : (giveP a l).2 = 0) : (giveP a l).1 = giveR a l ∧ (∀ x ∈ l, alloc_alive_m a x = true) ∧ (∀ x ∈ l, 2 < x) ∧ l.Nodup := by
  unfold giveP at h0 ⊢
  by_cases c1 : ∀ x ∈ l, alloc_alive_m a x = true
  · rw [if_pos c1] at h0 ⊢
    by_cases c2 : (∀ x ∈ l, 2 < x) ∧ l.Nodup
    · rw [if_pos c2] at h0 ⊢
      exact ⟨rfl, c1, c2.1, c2.2⟩
    · rw [if_neg c2] at h0; cases h0
  · rw [if_neg c1] at h0; cases h0
end Go.SX

set_option linter.unusedVariables false
set_option linter.unusedSimpArgs false
namespace Go.SX
open Go
def roomI (a : Al) : Int := min (a.1 - ((aliveN a.2.1 : Int) - 2)) ((a.2.2.length : Int) + a.1 + 2 - a.2.1.length)
theorem room_rt {a : Al} (h : Rt a) : alloc_Room_m a = roomI a := by
  have h1 := h.n2
  have h2 := h.m2
  have h3 := h.flen
  have h4 := h.m1
  have h5 := h.n1
  have h6 := aliveN_le a.2.1
  unfold alloc_Room_m
  rw [if_neg (fun k => k ((check_iff (by omega)).1.2 h)), many_eq (by omega)]
  rw [wrap_i64 (x := a.1 - ((aliveN a.2.1 : Int) - 2)) (by omega) (by omega)]
  try rw [wrap_i64 (x := (a.2.2.length : Int) + a.1) (by omega) (by omega)]
  try rw [wrap_i64 (x := (a.2.2.length : Int) + a.1 + 2) (by omega) (by omega)]
  try rw [wrap_i64 (x := (a.2.2.length : Int) + a.1 + 2 - a.2.1.length) (by omega) (by omega)]
  unfold roomI
  split <;> omega
/-- What a Take that goes well does. -/
structure Tk (a b : Al) (x : Int) : Prop where
  most : b.1 = a.1
  at_ : ∃ (j : Nat) (g : Int), 2 ≤ j ∧ b.2.1[j]? = some (g, true) ∧ x = entI ((j : Int) + 1) g ∧ (∀ i, i ≠ j → b.2.1[i]? = a.2.1[i]?) ∧ ((a.2.1[j]? = none ∧ g = 0) ∨ (a.2.1[j]? = some (g - 1, false)))
  alive : aliveN b.2.1 = aliveN a.2.1 + 1
  room : roomI b = roomI a - 1
theorem aliveN_set : ∀ {l : List Sl2} {j : Nat} {g g' : Int}, l[j]? = some (g, false) → aliveN (l.set j (g', true)) = aliveN l + 1
  | [], j, g, g', h => by simp at h
  | y :: ys, 0, g, g', h => by
    simp at h; subst h
    simp [aliveN]
  | y :: ys, j + 1, g, g', h => by
    have := aliveN_set (l := ys) (j := j) (g := g) (g' := g') (by simpa using h)
    unfold aliveN at this ⊢
    rw [List.set_cons_succ, List.countP_cons, List.countP_cons, this]; omega
theorem take_ok {a : Al} (h : Rt a) (h0 : (takeP a).2.2 = 0) : Tk a (takeP a).1 (takeP a).2.1 := by
  have h1 := h.n2
  have h3 := h.flen
  have h5 := h.n1
  unfold takeP at h0 ⊢
  by_cases c1 : (aliveN a.2.1 : Int) - 2 = a.1
  · rw [if_pos c1] at h0; simp at h0
  rw [if_neg c1] at h0 ⊢
  by_cases c2 : a.2.2.length = 0
  · rw [if_pos c2] at h0 ⊢
    by_cases c3 : (a.2.1.length : Int) < a.1 + 2
    · rw [if_pos c3]
      have ea : aliveN (a.2.1 ++ [(0, true)]) = aliveN a.2.1 + 1 := by simp [aliveN]
      refine ⟨rfl, ⟨a.2.1.length, 0, by omega, by simp, by unfold entI; simp, fun i hi => ?_, .inl ⟨by simp, rfl⟩⟩, ea, ?_⟩
      · show (a.2.1 ++ [(0, true)])[i]? = a.2.1[i]?
        rcases Nat.lt_or_ge i a.2.1.length with h6 | h6
        · rw [List.getElem?_append_left h6]
        · rw [List.getElem?_eq_none (l := a.2.1) h6, List.getElem?_eq_none]
          rw [List.length_append, List.length_singleton]; omega
      · unfold roomI
        simp only [ea, List.length_append, List.length_cons, List.length_nil]
        omega
    · rw [if_neg c3] at h0; simp at h0
  · rw [if_neg c2]
    obtain ⟨j, g, e1, e2, e3, e4, e5, e6⟩ := h.last c2
    have hj := (List.getElem?_eq_some_iff.1 e2).1
    have et : (lastF a - 1).toNat = j := by omega
    rw [et, e6, e1]
    have ea : aliveN (a.2.1.set j (g + 1, true)) = aliveN a.2.1 + 1 := aliveN_set e2
    refine ⟨rfl, ⟨j, g + 1, e5, List.getElem?_set_self hj, rfl, fun i hi => List.getElem?_set_ne (fun k => hi k.symm), .inr (by rw [e2, show g + 1 - 1 = g by omega])⟩, ea, ?_⟩
    unfold roomI
    simp only [ea, List.length_set, List.length_take]
    omega
theorem take_room {a : Al} (h : Rt a) : 0 ≤ roomI a ∧ ((takeP a).2.2 = 0 ↔ 0 < roomI a) ∧ ((takeP a).2.2 = 0 ∨ ((takeP a).2.2 = 6) ∨ ((takeP a).2.2 = 121 ∧ (aliveN a.2.1 : Int) < a.1 + 2)) := by
  have h1 := h.n2
  have h3 := h.flen
  have h4 := h.al
  unfold takeP roomI
  by_cases c1 : (aliveN a.2.1 : Int) - 2 = a.1
  · rw [if_pos c1]
    refine ⟨by omega, ⟨fun k => (by simp at k), fun k => by omega⟩, .inr (.inl rfl)⟩
  rw [if_neg c1]
  by_cases c2 : a.2.2.length = 0
  · rw [if_pos c2]
    by_cases c3 : (a.2.1.length : Int) < a.1 + 2
    · rw [if_pos c3]; exact ⟨by omega, ⟨fun k => by omega, fun k => rfl⟩, .inl rfl⟩
    · rw [if_neg c3]; exact ⟨by omega, ⟨fun k => (by simp at k), fun k => by omega⟩, .inr (.inr ⟨rfl, by omega⟩)⟩
  · rw [if_neg c2]; exact ⟨by omega, ⟨fun k => by omega, fun k => rfl⟩, .inl rfl⟩
theorem Tk.alive_new {a b : Al} {x : Int} (t : Tk a b x) (hb : Rt b) : alloc_alive_m b x = true := by
  obtain ⟨j, g, _, h1, h2, _⟩ := t.at_
  exact (alive_iff hb x).2 ⟨j, g, h1, h2⟩
theorem Tk.not_old {a b : Al} {x : Int} (t : Tk a b x) (ha : Rt a) (hb : Rt b) : alloc_alive_m a x = false := by
  obtain ⟨j, g, _, h1, h2, h3, h4⟩ := t.at_
  cases e : alloc_alive_m a x with
  | false => rfl
  | true =>
    obtain ⟨i, g', h5, h6⟩ := (alive_iff ha x).1 e
    have r1 := hb.rng h1
    have r2 := ha.rng h5
    simp only at r1 r2
    have : i = j ∧ g' = g := by rw [h2] at h6; unfold entI at h6; omega
    obtain ⟨rfl, rfl⟩ := this
    rcases h4 with ⟨h4, _⟩ | h4
    · rw [h4] at h5; cases h5
    · rw [h4] at h5; simp at h5
theorem aliveN_all {a : Al} (h : Rt a) : (alloc_All_m a).length = aliveN a.2.1 := by rw [all_rt h, allL_len]
theorem Alive_rt {a : Al} (h : Rt a) (x : Int) : alloc_Alive_m a x = alloc_alive_m a x := by
  have h1 := h.n2
  have h2 := h.m2
  unfold alloc_Alive_m
  rw [if_pos ((check_iff (by omega)).1.2 h)]
theorem entI_tmod {i g : Int} (h : 1 ≤ i ∧ i ≤ 1048578) (hg : 0 ≤ g ∧ g ≤ 7) : Int.tmod (entI i g) 4294967296 = i := by
  unfold entI
  rw [Int.tmod_eq_emod_of_nonneg (by omega)]
  omega
end Go.SX

set_option linter.unusedVariables false
set_option linter.unusedSimpArgs false
namespace Go.SX
open Go
attribute [local semireducible] T TL
def mlk {β : Type} (m : List (Int × β)) (k : Int) : Option β := (m.find? (fun q => q.1 == k)).map (·.2)
def mpu {β : Type} : List (Int × β) → Int → β → List (Int × β)
  | [], k, v => [(k, v)]
  | q :: m, k, v => if q.1 = k then (k, v) :: m else q :: mpu m k v
theorem mlk_nil {β : Type} (k : Int) : mlk ([] : List (Int × β)) k = none := rfl
theorem mlk_mpu {β : Type} : ∀ (m : List (Int × β)) (k : Int) (v : β) (j : Int), mlk (mpu m k v) j = if j = k then some v else mlk m j
  | [], k, v, j => by
    unfold mpu mlk
    by_cases h : j = k
    · subst h; simp
    · rw [if_neg h]; simp; omega
  | q :: m, k, v, j => by
    have ih := mlk_mpu m k v j
    unfold mpu
    by_cases h : q.1 = k
    · rw [if_pos h]
      by_cases h2 : j = k
      · subst h2; rw [if_pos rfl]; unfold mlk; simp
      · rw [if_neg h2]; unfold mlk; rw [List.find?_cons_of_neg (by simp; omega), List.find?_cons_of_neg (by simp; omega)]
    · rw [if_neg h]
      by_cases h2 : q.1 = j
      · have : j ≠ k := by omega
        rw [if_neg this]; unfold mlk; rw [List.find?_cons_of_pos (by simpa using h2), List.find?_cons_of_pos (by simpa using h2)]
      · have e1 : mlk (q :: mpu m k v) j = mlk (mpu m k v) j := by unfold mlk; rw [List.find?_cons_of_neg (by simpa using h2)]
        have e2 : mlk (q :: m) j = mlk m j := by unfold mlk; rw [List.find?_cons_of_neg (by simpa using h2)]
        rw [e1, e2, ih]
/-- The map's entries are the list's pairs. -/
def MapV {β : Type} (ik : IntKind) (f : β → Value) (es : Array MapEntry) (m : List (Int × β)) : Prop := MapIs ik es (m.map (fun q => (q.1, f q.2)))
theorem mget_map {β : Type} (f : β → Value) : ∀ (m : List (Int × β)) (k : Int), mget (m.map (fun q => (q.1, f q.2))) k = (mlk m k).map f
  | [], k => rfl
  | q :: m, k => by
    have ih := mget_map f m k
    unfold mget mlk at *
    rw [List.map_cons]
    by_cases h : q.1 = k
    · rw [List.find?_cons_of_pos (by simpa using h), List.find?_cons_of_pos (by simpa using h)]; rfl
    · rw [List.find?_cons_of_neg (by simpa using h), List.find?_cons_of_neg (by simpa using h)]; exact ih
theorem mput_map {β : Type} (f : β → Value) : ∀ (m : List (Int × β)) (k : Int) (v : β), mput (m.map (fun q => (q.1, f q.2))) k (f v) = (mpu m k v).map (fun q => (q.1, f q.2))
  | [], k, v => rfl
  | q :: m, k, v => by
    rw [List.map_cons, mput, mpu]
    by_cases h : q.1 = k
    · rw [if_pos h, if_pos h]; rfl
    · rw [if_neg h, if_neg h, List.map_cons, mput_map f m k v]
section
variable {fr : Fr} {x : Cx} {Q : Post} {σ : Env} {H : Heap} {L : Own} {ds : List Nat} {ol rest : List Oper}
variable {d : Nat} {ty : TypeId} {p : String} {af : Array Edge} {g : Option (Nat × Bool)}
theorem R.mkmV {β : Type} (ik : IntKind) (f : β → Value) {t : TypeId} (hw : wan fr.N ol σ d g = true) (h : ∀ b, MapV ik f #[] ([] : List (Int × β)) → TL fr x ol rest Q (upd σ d (.map (some b))) H ([(b, .map #[] 0)] :: L) ds) :
    TL fr x ol (⟨some d, .makeMap t none, ty, p, af, g⟩ :: rest) Q σ H L ds := R.mkm hw (fun b => h b rfl)
theorem R.lkuV {β : Type} {f : β → Value} {t kt et : TypeId} {M K : Operand} {b clock : Nat} {es : Array MapEntry} {m : List (Int × β)} {ik : IntKind} {k : Int} {z : Value} {z0 : β} (hm : fr.P.underlying t = some (.map kt et)) (hk : fr.P.underlying kt = some (.int ik)) (hz : ∀ w, (zeroValue et).run fr.P w = .ok z w) (hz0 : z = f z0)
    (hw : wan fr.N ol σ d g = true) (hM : ev σ M = .map (some b)) (hK : ev σ K = .int ik k) (hin : In L [(b, .map es clock)]) (hi : MapV ik f es m)
    (h : TL fr x ol rest Q (upd σ d (f ((mlk m k).getD z0))) H L ds) : TL fr x ol (⟨some d, .lookup t M K false, ty, p, af, g⟩ :: rest) Q σ H L ds :=
  R.lku hm hk hz hw hM hK hin hi (by
    have e : (mget (m.map (fun q => (q.1, f q.2))) k).getD z = f ((mlk m k).getD z0) := by
      rw [mget_map, hz0]; cases mlk m k <;> rfl
    rw [e]; exact h)
theorem R.mupV {β : Type} {f : β → Value} {t kt et : TypeId} {M K X : Operand} {b clock : Nat} {es : Array MapEntry} {m : List (Int × β)} {ik : IntKind} {k : Int} {v : β} {RR : Own} (hm : fr.P.underlying t = some (.map kt et)) (hk : fr.P.underlying kt = some (.int ik))
    (hw : wants ol σ g = true) (hM : ev σ M = .map (some b)) (hK : ev σ K = .int ik k) (hX : ev σ X = f v) (hdel : Del L [(b, .map es clock)] RR) (hi : MapV ik f es m)
    (h : ∀ es' clock', MapV ik f es' (mpu m k v) → TL fr x ol rest Q σ H ([(b, .map es' clock')] :: RR) ds) : TL fr x ol (⟨none, .mapUpdate t M K X, ty, p, af, g⟩ :: rest) Q σ H L ds :=
  R.mup hm hk hw hM hK hX hdel hi (fun es' cl hi' => h es' cl (by unfold MapV; rw [← mput_map]; exact hi'))
end
/-- A map that can be read, whose values are plain. -/
def MpR {β : Type} (ik : IntKind) (f : β → Value) (H : Heap) (b : Nat) (m : List (Int × β)) : Prop := ∃ es ck, H b = some (.map es ck) ∧ MapV ik f es m
theorem MpR.mono {β : Type} {ik : IntKind} {f : β → Value} {H H' : Heap} {b : Nat} {m : List (Int × β)} (h : MpR ik f H b m) (hl : HLe H H') : MpR ik f H' b m := by
  obtain ⟨es, ck, h1, h2⟩ := h
  exact ⟨es, ck, hl _ _ h1, h2⟩
theorem MpR.of {β : Type} {ik : IntKind} {f : β → Value} {H : Heap} {b : Nat} {es : Array MapEntry} {ck : Nat} {m : List (Int × β)} (w : MapV ik f es m) (hq : ∀ q ∈ [(b, Obj.map es ck)], H q.1 = some q.2) : MpR ik f H b m := ⟨es, ck, hq _ (List.mem_singleton.2 rfl), w⟩
/-- A map that can be read, whose values are rows that can be read. -/
def MrR {α : Type} (E : ER α) (ik : IntKind) (H : Heap) (b : Nat) (f : Int → List α) : Prop := ∃ es ck m, H b = some (.map es ck) ∧ MapIs ik es m ∧ ∀ j, RdS E H ((mget m j).getD (.slice none 0 0)) (f j)
theorem MrR.mono {α : Type} {E : ER α} {ik : IntKind} {H H' : Heap} {b : Nat} {f : Int → List α} (h : MrR E ik H b f) (hl : HLe H H') : MrR E ik H' b f := by
  obtain ⟨es, ck, m, h1, h2, h3⟩ := h
  exact ⟨es, ck, m, hl _ _ h1, h2, fun j => (h3 j).mono hl⟩
section
variable {fr : Fr} {x : Cx} {Q : Post} {σ : Env} {H : Heap} {L : Own} {ds : List Nat} {ol rest : List Oper}
variable {d : Nat} {ty : TypeId} {p : String} {af : Array Edge} {g : Option (Nat × Bool)}
end
end Go.SX

set_option linter.unusedVariables false
set_option linter.unusedSimpArgs false
namespace Go.SX
open Go
theorem allL_nodup {a : Al} (h : Rt a) : ∀ (l : List Sl2) (k : Nat), l = a.2.1.drop k → (allL l k).Nodup
  | [], k, _ => List.nodup_nil
  | y :: ys, k, e => by
    have hk : k < a.2.1.length := by
      rcases Nat.lt_or_ge k a.2.1.length with h | h
      · exact h
      · rw [List.drop_eq_nil_iff.2 h] at e; cases e
    rw [List.drop_eq_getElem_cons hk] at e
    injection e with e1 e2
    have hy : a.2.1[k]? = some y := by rw [List.getElem?_eq_getElem hk, e1]
    have ih := allL_nodup h ys (k + 1) e2
    rw [allL]
    split
    · refine List.nodup_cons.2 ⟨fun hm => ?_, ih⟩
      obtain ⟨i, g, h1, h2⟩ := (allL_mem (a := a) ys (k + 1) _).1 hm
      have h3 : a.2.1[k + 1 + i]? = some (g, true) := by rw [e2, List.getElem?_drop] at h1; exact h1
      have r1 := h.rng hy
      have r2 := h.rng h3
      simp only at r1 r2
      unfold entI at h2
      omega
    · exact ih
theorem all_nodup {a : Al} (h : Rt a) : (allL a.2.1 0).Nodup := allL_nodup h a.2.1 0 rfl
theorem all_two {a : Al} (h : Rt a) : allL a.2.1 0 = 1 :: 2 :: allL (a.2.1.drop 2) 2 := by
  have h1 := h.n1
  match e : a.2.1, h1 with
  | s :: t :: r, _ =>
    have hs := (h.g 0 s (by rw [e]; rfl)).2.2 (by omega)
    have ht := (h.g 1 t (by rw [e]; rfl)).2.2 (by omega)
    subst hs ht
    simp [allL, entI]
theorem all_rest {a : Al} (h : Rt a) {x : Int} (hx : x ∈ allL (a.2.1.drop 2) 2) : 2 < x ∧ alloc_alive_m a x = true := by
  obtain ⟨i, g, h1, h2⟩ := (allL_mem (a := a) _ 2 x).1 hx
  rw [List.getElem?_drop] at h1
  have r := h.rng h1
  simp only at r
  refine ⟨by rw [h2]; unfold entI; omega, (alive_iff h x).2 ⟨2 + i, g, h1, h2⟩⟩
/-- Whom there was is met; how often an index was used is told by its generation. -/
structure LV (a : Al) (met : List (Int × Bool)) (used : List (Int × Int)) : Prop where
  rt : Rt a
  m : ∀ x, (mlk met x).getD false = true → ∃ (i : Nat) (g : Int) (s : Sl2), a.2.1[i]? = some s ∧ x = entI ((i : Int) + 1) g ∧ 0 ≤ g ∧ g ≤ s.1
  u : ∀ i : Nat, 0 ≤ (mlk used ((i : Int) + 1)).getD 0 ∧ (∀ s, a.2.1[i]? = some s → (mlk used ((i : Int) + 1)).getD 0 ≤ s.1 + 1) ∧ (a.2.1[i]? = none → (mlk used ((i : Int) + 1)).getD 0 = 0)
theorem LV.take {a b : Al} {met : List (Int × Bool)} {used : List (Int × Int)} {x : Int} (h : LV a met used) (t : Tk a b x) (hb : Rt b) :
    (mlk met x).getD false = false ∧ 0 ≤ (mlk used (Int.tmod x 4294967296)).getD 0 ∧ (mlk used (Int.tmod x 4294967296)).getD 0 + 1 ≤ 8 ∧ LV b (mpu met x true) (mpu used (Int.tmod x 4294967296) ((mlk used (Int.tmod x 4294967296)).getD 0 + 1)) := by
  obtain ⟨j, g, hj2, h1, h2, h3, h4⟩ := t.at_
  have r1 := hb.rng h1
  simp only at r1
  have hi : Int.tmod x 4294967296 = (j : Int) + 1 := by rw [h2]; exact entI_tmod r1.1 r1.2
  rw [hi]
  obtain ⟨u1, u2, u3⟩ := h.u j
  have hu : (mlk used ((j : Int) + 1)).getD 0 ≤ g := by
    rcases h4 with ⟨h4, h5⟩ | h4
    · rw [u3 h4]; omega
    · have := u2 _ h4; simp only at this; omega
  have hm : (mlk met x).getD false = false := by
    cases e : (mlk met x).getD false with
    | false => rfl
    | true =>
      obtain ⟨i, g', s, m1, m2, m3, m4⟩ := h.m x e
      have r2 := h.rt.rng m1
      have : i = j ∧ g' = g := by rw [h2] at m2; unfold entI at m2; omega
      obtain ⟨rfl, rfl⟩ := this
      rcases h4 with ⟨h4, _⟩ | h4
      · rw [h4] at m1; cases m1
      · rw [h4] at m1; injection m1 with m1; subst m1; simp only at m4; omega
  refine ⟨hm, u1, by omega, hb, ?_, ?_⟩
  · intro y hy
    rw [mlk_mpu] at hy
    by_cases c : y = x
    · subst c; exact ⟨j, g, (g, true), h1, h2, r1.2.1, Int.le_refl _⟩
    · rw [if_neg c] at hy
      obtain ⟨i, g', s, m1, m2, m3, m4⟩ := h.m y hy
      by_cases c2 : i = j
      · subst c2
        rcases h4 with ⟨h4, _⟩ | h4
        · rw [h4] at m1; cases m1
        · rw [h4] at m1; injection m1 with m1; subst m1
          exact ⟨i, g', _, h1, m2, m3, by simp only at m4 ⊢; omega⟩
      · exact ⟨i, g', s, by rw [h3 i c2]; exact m1, m2, m3, m4⟩
  · intro i
    rw [mlk_mpu]
    by_cases c : i = j
    · subst c
      rw [if_pos rfl]
      refine ⟨by simp only [Option.getD_some]; omega, fun s hs => ?_, fun hn => ?_⟩
      · rw [h1] at hs; injection hs with hs; subst hs; simp only [Option.getD_some]; omega
      · rw [h1] at hn; cases hn
    · rw [if_neg (by omega), h3 i c]; exact h.u i
theorem LV.give {a : Al} {met : List (Int × Bool)} {used : List (Int × Int)} {l : List Int} (h : LV a met used) (hb : Rt (giveR a l)) : LV (giveR a l) met used := by
  have hsl : ∀ (i : Nat), (giveR a l).2.1[i]? = (a.2.1[i]?).map (fun t => if gvP l i t then (t.1, false) else t) := by
    intro i
    show (gvS l a.2.1 0)[i]? = _
    rw [gvS_get, Nat.zero_add]
  have h1 : ∀ {i : Nat} {s : Sl2}, a.2.1[i]? = some s → ∃ s', (giveR a l).2.1[i]? = some s' ∧ s'.1 = s.1 := by
    intro i s hs
    rw [hsl, hs]
    refine ⟨_, rfl, ?_⟩
    by_cases c : gvP l i s = true
    · simp only [c, if_true]
    · simp only [c, Bool.false_eq_true, if_false]
  refine ⟨hb, ?_, ?_⟩
  · intro y hy
    obtain ⟨i, g', s, m1, m2, m3, m4⟩ := h.m y hy
    obtain ⟨s', k1, k2⟩ := h1 m1
    exact ⟨i, g', s', k1, m2, m3, by omega⟩
  · intro i
    obtain ⟨u1, u2, u3⟩ := h.u i
    refine ⟨u1, fun s' hs' => ?_, fun hn => ?_⟩
    · cases e : a.2.1[i]? with
      | none => rw [hsl, e] at hs'; cases hs'
      | some s =>
        obtain ⟨s2, k1, k2⟩ := h1 e
        rw [k1] at hs'; injection hs' with hs'; subst hs'
        have := u2 s e; omega
    · cases e : a.2.1[i]? with
      | none => exact u3 e
      | some s =>
        obtain ⟨s2, k1, k2⟩ := h1 e
        rw [k1] at hn; cases hn
theorem give_one {a : Al} (h : Rt a) {x : Int} (hx : x ∈ allL (a.2.1.drop 2) 2) : giveP a [x] = (giveR a [x], 0) ∧ Rt (giveR a [x]) ∧ alloc_alive_m (giveR a [x]) x = false ∧ (allL (giveR a [x]).2.1 0).length + 1 = (allL a.2.1 0).length := by
  obtain ⟨h1, h2⟩ := all_rest h hx
  have c1 : ∀ y ∈ [x], alloc_alive_m a y = true := fun y hy => by rw [List.mem_singleton.1 hy]; exact h2
  have c2 : ∀ y ∈ [x], 2 < y := fun y hy => by rw [List.mem_singleton.1 hy]; exact h1
  have hb := giveR_rt h c1 c2
  have hmem : x ∈ allL a.2.1 0 := by rw [all_two h]; exact List.mem_cons_of_mem _ (List.mem_cons_of_mem _ hx)
  refine ⟨?_, hb, ?_, ?_⟩
  · unfold giveP
    rw [if_pos c1, if_pos ⟨c2, by simp⟩]
  · cases e : alloc_alive_m (giveR a [x]) x with
    | false => rfl
    | true =>
      have := (all_mem (a := giveR a [x]) x).2 ((alive_iff hb x).1 e)
      rw [allL_giveR, List.mem_filter] at this
      simp at this
  · rw [allL_giveR]
    have e1 : (allL a.2.1 0).filter (fun y => decide (y ∉ [x])) = (allL a.2.1 0).erase x := by
      rw [(all_nodup h).erase_eq_filter]
      refine List.filter_congr (fun y _ => ?_)
      simp [bne, BEq.beq]
    rw [e1, List.length_erase_of_mem hmem]
    have := List.length_pos_of_mem hmem
    omega
theorem new_rt (n : Int) (h0 : (alloc_New_m n).2 = 0) : Rt (alloc_New_m n).1 := by
  unfold alloc_New_m at h0 ⊢
  rw [LR.seq_go] at h0 ⊢
  by_cases h1 : n < 1
  · rw [if_pos h1, if_pos rfl] at h0; cases h0
  · rw [if_neg h1] at h0 ⊢
    by_cases h2 : 1048576 < n
    · rw [decide_eq_true h2, if_pos rfl] at h0; cases h0
    · rw [decide_eq_false h2, if_neg Bool.false_ne_true]
      refine ⟨by show 1 ≤ n; omega, by show n ≤ 1048576; omega, by show 2 ≤ 2; omega, by show ((2 : Nat) : Int) ≤ n + 2; omega, by show ((aliveN [(0, true), (0, true)] : Nat) : Int) - 2 ≤ n; simp [aliveN]; omega, ?_, by simp [sortI, useL, useB]⟩
      intro i s h
      match i, h with
      | 0, h => simp at h; subst h; exact ⟨by decide, by decide, fun _ => rfl⟩
      | 1, h => simp at h; subst h; exact ⟨by decide, by decide, fun _ => rfl⟩
      | n + 2, h => simp at h
theorem take_m_rt {a : Al} (h : Rt a) (h0 : (alloc_Take_m a).2.2 = 0) : Rt (alloc_Take_m a).1 := by
  rw [take_rt h] at h0 ⊢; exact take_keeps h h0
theorem give_m_rt {a : Al} (h : Rt a) {l : List Int} (h0 : (alloc_Give_m a l).2 = 0) : Rt (alloc_Give_m a l).1 := by
  rw [give_rt h] at h0 ⊢
  obtain ⟨e, c1, c2, _⟩ := giveP_rt h h0
  rw [e]; exact giveR_rt h c1 c2
theorem all_ge2 {a : Al} (h : Rt a) : 2 ≤ (alloc_All_m a).length := by
  rw [all_rt h, all_two h]; simp
theorem Rt.lens {a : Al} (h : Rt a) : a.2.1.length ≤ 1048578 ∧ a.2.2.length ≤ 1048578 := by
  have h1 := h.n2
  have h2 := h.m2
  have h3 := h.flen
  omega
theorem pick_rng (y : Int) {n : Nat} (h : 2 < n) (h2 : n ≤ 2000000) : IntKind.u64.wrap ((n : Int) - 2) = (n : Int) - 2 ∧ 2 ≤ IntKind.i64.wrap (2 + IntKind.i64.wrap (Int.tmod (IntKind.u64.wrap y) (IntKind.u64.wrap ((n : Int) - 2)))) ∧ IntKind.i64.wrap (2 + IntKind.i64.wrap (Int.tmod (IntKind.u64.wrap y) (IntKind.u64.wrap ((n : Int) - 2)))) < (n : Int) := by
  have e : IntKind.u64.wrap ((n : Int) - 2) = (n : Int) - 2 := wrap_u64 ⟨by omega, by omega⟩
  have hy : 0 ≤ IntKind.u64.wrap y := by show 0 ≤ y % 2 ^ 64; omega
  rw [e]
  have h3 : 0 ≤ Int.tmod (IntKind.u64.wrap y) ((n : Int) - 2) := Int.tmod_nonneg _ hy
  have h4 : Int.tmod (IntKind.u64.wrap y) ((n : Int) - 2) < (n : Int) - 2 := Int.tmod_lt_of_pos _ (by omega)
  rw [wrap_i64 (x := Int.tmod (IntKind.u64.wrap y) ((n : Int) - 2)) (by omega) (by omega), wrap_i64 (by omega) (by omega)]
  exact ⟨rfl, by omega, by omega⟩
end Go.SX

set_option linter.unusedVariables false
set_option linter.unusedSimpArgs false
namespace Go.SX
open Go Go.Proofs

def windroselaw02_AllocLives_l2  : List Int → Nat → ((List (Int × Int)) × (List (Int × Bool)) × Int × (List (Int × Bool)) × (List Int)) → LR (LR (Bool) (Int × (List (Int × Bool)) × (List Int))) (Int × (List (Int × Bool)) × (List Int))
  | [], kl2, sl2 => .go ((sl2.2.2.1, sl2.2.2.2.1, sl2.2.2.2.2))
  | yl2 :: ysl2, kl2, sl2 => if (kl2 : Int) = 120 then (.go ((sl2.2.2.1, sl2.2.2.2.1, sl2.2.2.2.2))) else (LR.seq (alloc_All_m ((sl2.2.2.1, sl2.2.2.2.1, sl2.2.2.2.2))) (fun r45 => if (0 : Int) ≤ yl2 then (LR.seq (alloc_Take_m ((sl2.2.2.1, sl2.2.2.2.1, sl2.2.2.2.2))) (fun r52 => LR.seq (if ((decide (r52.2.2 = 0)) != (decide ((0 : Int) < (alloc_Room_m ((sl2.2.2.1, sl2.2.2.2.1, sl2.2.2.2.2)))))) = true then true else (if r52.2.2 ≠ 0 then (if r52.2.2 ≠ 6 then ((decide (r52.2.2 ≠ 121))) else false) else false) : Bool) (fun sc3 => if sc3 = true then (.ret (.ret false)) else (if r52.2.2 ≠ 0 then (windroselaw02_AllocLives_l2 ysl2 (kl2 + 1) ((sl2.1, sl2.2.1, sl2.2.2.1, sl2.2.2.2.1, sl2.2.2.2.2))) else (LR.seq (if ((mlk sl2.2.1 r52.2.1).getD false) = true then true else (if (8 : Int) < ((mlk ((mpu sl2.1 ((Int.tmod r52.2.1 4294967296)) ((IntKind.i64.wrap (((mlk sl2.1 ((Int.tmod r52.2.1 4294967296))).getD (0 : Int)) + 1))))) ((Int.tmod r52.2.1 4294967296))).getD (0 : Int)) then true else (if (alloc_Alive_m ((sl2.2.2.1, sl2.2.2.2.1, sl2.2.2.2.2)) r52.2.1) = true then true else (if (!(alloc_Alive_m r52.1 r52.2.1)) = true then true else (LR.seq (alloc_All_m r52.1) (fun r103 => if (r103.length : Int) ≠ ((r45.length : Int) + 1) then true else (if ((alloc_Room_m r52.1) : Int) ≠ (IntKind.i64.wrap ((alloc_Room_m ((sl2.2.2.1, sl2.2.2.2.1, sl2.2.2.2.2))) - 1)) then true else ((decide (((alloc_Check_m r52.1) : Int) ≠ 0))))))))) : Bool) (fun sc4 => if sc4 = true then (.ret (.ret false)) else (windroselaw02_AllocLives_l2 ysl2 (kl2 + 1) (((mpu sl2.1 ((Int.tmod r52.2.1 4294967296)) ((IntKind.i64.wrap (((mlk sl2.1 ((Int.tmod r52.2.1 4294967296))).getD (0 : Int)) + 1)))), (mpu sl2.2.1 r52.2.1 true), r52.1.1, r52.1.2.1, r52.1.2.2))))))))) else (if (r45.length : Int) = 2 then (windroselaw02_AllocLives_l2 ysl2 (kl2 + 1) ((sl2.1, sl2.2.1, sl2.2.2.1, sl2.2.2.2.1, sl2.2.2.2.2))) else (LR.seq (alloc_Give_m ((sl2.2.2.1, sl2.2.2.2.1, sl2.2.2.2.2)) [(r45.getD (((IntKind.i64.wrap (2 + (IntKind.i64.wrap (Int.tmod (IntKind.u64.wrap yl2) (IntKind.u64.wrap ((r45.length : Int) - 2))))))).toNat) (0 : Int))]) (fun r144 => LR.seq (if r144.2 ≠ 0 then true else (if (alloc_Alive_m r144.1 (r45.getD (((IntKind.i64.wrap (2 + (IntKind.i64.wrap (Int.tmod (IntKind.u64.wrap yl2) (IntKind.u64.wrap ((r45.length : Int) - 2))))))).toNat) (0 : Int))) = true then true else (LR.seq (alloc_All_m r144.1) (fun r156 => if (r156.length : Int) ≠ ((r45.length : Int) - 1) then true else ((decide (((alloc_Check_m r144.1) : Int) ≠ 0)))))) : Bool) (fun sc5 => if sc5 = true then (.ret (.ret false)) else (windroselaw02_AllocLives_l2 ysl2 (kl2 + 1) ((sl2.1, sl2.2.1, r144.1.1, r144.1.2.1, r144.1.2.2)))))))))
def windroselaw02_AllocLives_m (a0 : Int) (a1 : List Int) : Bool :=
  if (!windroselaw02_wakes_m) = true then false else (LR.seq (alloc_New_m ((IntKind.i64.wrap (1 + (IntKind.i64.wrap (Int.tmod (IntKind.u64.wrap a0) 5)))))) (fun r28 => if r28.2 ≠ 0 then false else (LR.on (LR.on (windroselaw02_AllocLives_l2 a1 0 ((([] : List (Int × Int)), ([] : List (Int × Bool)), r28.1.1, r28.1.2.1, r28.1.2.2))) (fun r => r) (fun ol2 => .go ol2) : LR (Bool) (Int × (List (Int × Bool)) × (List Int))) (fun r => r) (fun sc1 => if (alloc_Alive_m ((sc1.1, sc1.2.1, sc1.2.2)) 1) = true then ((alloc_Alive_m ((sc1.1, sc1.2.1, sc1.2.2)) 2)) else false))))
set_option maxHeartbeats 3200000 in
theorem windroselaw02_AllocLives_c (H : Heap) {tG0 : TypeId} (hG0 : H 0 = some (.cells #[.int .i64 0, .bool true] tG0)) (a0 : Int) (va1 : Value) (a1 : List Int) (ha1 : RdS (intE .i64) H va1 a1) : Fv Tryd.prog (fnv 5) [.int .i64 a0, va1] H (.bool (windroselaw02_AllocLives_m a0 a1)) := by
  refine Fc.of_body (N := 176) Tryd.func5 rfl (by kernel_rfl) rfl rfl ?_
  intro w0
  obtain ⟨Aa1, ca1, rfl, hca1, hda1, ha1⟩ := ha1.shape
  refine T.seq ?_
  refine T.region ?_
  refine R.asE rfl (by conv => lhs; whnf) ?_
  refine TL.nil (Post.thnN ?_)
  refine T.seq ?_
  refine T.seq ?_
  refine T.region ?_
  refine R.callv rfl rfl rfl (windroselaw02_wakes_c _ hG0) ?_
  refine R.not rfl rfl ?_
  refine TL.nil (Post.thnN ?_)
  refine T.cond rfl (fun c21 => ?_) (fun c21 => ?_)
  · refine T.set 21 (.bool true) (congrArg Value.bool c21) ?_
    refine T.seq ?_
    refine T.region ?_
    refine R.asE rfl (by conv => lhs; whnf) ?_
    refine TL.nil (Post.thnN ?_)
    refine T.has Has.nil ?_
    refine T.ret (Post.thnR ?_)
    have hM : windroselaw02_AllocLives_m a0 a1 = false := by rw [windroselaw02_AllocLives_m, if_t c21]
    exact fin1L (v := .bool false) [] rfl rfl (List.Sublist.refl _) ⟨rfl, by first | rw [hM] | rfl⟩
  · refine T.set 21 (.bool false) (congrArg Value.bool c21) ?_
    refine T.skip (Post.thnN ?_)
    refine T.seq ?_
    refine T.region ?_
    refine R.mvE rfl (by conv => lhs; whnf) ?_
    refine R.conv Tryd.underlying3 Tryd.underlying47 rfl rfl ?_
    refine R.rem rfl rfl rfl (by omega) ?_
    refine R.conv Tryd.underlying47 Tryd.underlying3 rfl rfl ?_
    refine R.add rfl rfl rfl ?_
    obtain ⟨r28, er28⟩ : ∃ r, r = (alloc_New_m ((IntKind.i64.wrap (1 + (IntKind.i64.wrap (Int.tmod (IntKind.u64.wrap a0) 5)))))) := ⟨_, rfl⟩
    refine TL.call [] rfl rfl rfl (alloc_New_c _ hG0 ((IntKind.i64.wrap (1 + (IntKind.i64.wrap (Int.tmod (IntKind.u64.wrap a0) 5)))))) ?_
    intro v28 H28 L28 s28 q28
    rw [← er28] at q28
    obtain ⟨u28_0_1, u28_0_2, c28_0_1, c28_0_2, rfl, rfl, w28_0_1, w28_0_2⟩ := q28
    obtain ⟨A28_0_1, p28_0_1, rfl, m28_0_1, n28_0_1⟩ := OwnS.shape w28_0_1
    obtain ⟨A28_0_2, p28_0_2, rfl, m28_0_2, n28_0_2⟩ := OwnS.shape w28_0_2
    have tn28 : r28.1.2.1.length ≤ 2 ∧ r28.1.2.2.length ≤ 0 := by rw [er28]; exact new_len _
    refine R.mvE rfl (by conv => lhs; whnf) ?_
    refine R.ext rfl rfl rfl ?_
    refine R.ext rfl rfl rfl ?_
    refine R.alloc Tryd.zeroValue25 rfl ?_
    intro b5
    refine R.stX (old := [.int .i64 0, .slice none 0 0, .slice none 0 0]) (l := [.int .i64 (r28.1.1), .slice A28_0_1 r28.1.2.1.length p28_0_1, .slice A28_0_2 r28.1.2.2.length p28_0_2]) (new := [.int .i64 (r28.1.1), .slice A28_0_1 r28.1.2.1.length p28_0_1, .slice A28_0_2 r28.1.2.2.length p28_0_2]) (et := 25) Tryd.sizeOf25 rfl rfl rfl rfl rfl (by show 0 + 3 ≤ 3; decide) rfl (all_one rfl) .hd ?_
    refine R.asE rfl (by conv => lhs; whnf) ?_
    refine TL.nil (Post.thnN ?_)
    refine T.seq ?_
    refine T.seq ?_
    refine T.region ?_
    refine R.mvE rfl (by conv => lhs; whnf) ?_
    refine R.neq rfl rfl rfl ?_
    refine TL.nil (Post.thnN ?_)
    refine T.condD rfl (fun c32 => ?_) (fun c32 => ?_)
    · refine T.set 32 (.bool true) (congrArg Value.bool (decide_eq_true c32)) ?_
      refine T.seq ?_
      refine T.region ?_
      refine R.asE rfl (by conv => lhs; whnf) ?_
      refine TL.nil (Post.thnN ?_)
      refine T.has Has.nil ?_
      refine T.ret (Post.thnR ?_)
      have hM : windroselaw02_AllocLives_m a0 a1 = false := by subst er28; rw [windroselaw02_AllocLives_m, if_f c21, LR.seq_go, if_pos c32]
      exact fin1L (v := .bool false) [] rfl rfl (List.Sublist.refl _) ⟨rfl, by first | rw [hM] | rfl⟩
    · refine T.set 32 (.bool false) (congrArg Value.bool (decide_eq_false c32)) ?_
      have hnew : Rt r28.1 := by rw [er28] at c32 ⊢; exact new_rt _ (by omega)
      refine T.skip (Post.thnN ?_)
      refine T.seq ?_
      refine T.region ?_
      refine R.mkmV .u64 (fun z : Bool => Value.bool z) rfl ?_
      intro b33 w33
      refine R.mkmV .u64 (fun z : Int => Value.int .i64 z) rfl ?_
      intro b34 w34
      refine R.asE rfl (by conv => lhs; whnf) ?_
      refine R.asE rfl (by conv => lhs; whnf) ?_
      refine TL.nil (Post.thnN ?_)
      refine T.seq ?_
      refine T.seq ?_
      refine T.region ?_
      refine R.mvE rfl (by conv => lhs; whnf) ?_
      refine R.len Tryd.underlying23 rfl rfl ?_
      refine R.mvE rfl (by conv => lhs; whnf) ?_
      refine TL.nil (Post.thnN ?_)
      refine T.shut (.tl (.tl (.tl .hd))) ?_
      intro HF28_0_1_1 sF28_0_1_1 qF28_0_1_1
      have fF28_0_1_1 := OwnS.read w28_0_1 sF28_0_1_1 qF28_0_1_1
      refine T.shut (.tl (.tl (.tl .hd))) ?_
      intro HF28_0_2_2 sF28_0_2_2 qF28_0_2_2
      have fF28_0_2_2 := OwnS.read (OwnS.mono w28_0_2 sF28_0_1_1) sF28_0_2_2 qF28_0_2_2
      refine T.cutK (ι := Int × Value × (List (Int × Bool)) × Value × (List Int)) (fun ⟨nb5c1_0, vb5c1_1, xb5c1_1, vb5c1_2, xb5c1_2⟩ H' L' ds' => Has L' [[(b5, .cells #[.int .i64 nb5c1_0, vb5c1_1, vb5c1_2] 25)]] ∧ RdS slotE H' vb5c1_1 xb5c1_1 ∧ RdS (intE .i64) H' vb5c1_2 xb5c1_2 ∧ Rt (nb5c1_0, xb5c1_1, xb5c1_2) ∧ (LR.on (windroselaw02_AllocLives_l2 a1 0 ((([] : List (Int × Int)), ([] : List (Int × Bool)), r28.1.1, r28.1.2.1, r28.1.2.2))) (fun r => r) (fun ol2 => .go ol2) : LR (Bool) (Int × (List (Int × Bool)) × (List Int))) = .go (nb5c1_0, xb5c1_1, xb5c1_2)) (fun ⟨nb5c1_0, vb5c1_1, xb5c1_1, vb5c1_2, xb5c1_2⟩ => [(5, .pointer (some ⟨b5, 0, none⟩))]) ?_ ?_
      · refine T.block ?_
        refine T.loop (ι := Nat × (List (Int × Int)) × (Array MapEntry) × Nat × (List (Int × Bool)) × (Array MapEntry) × Nat × Int × Value × (List (Int × Bool)) × Value × (List Int)) (fun ⟨kl2, xM34l2, esM34l2, clM34l2, xM33l2, esM33l2, clM33l2, nb5l2_0, vb5l2_1, xb5l2_1, vb5l2_2, xb5l2_2⟩ H' L' ds' => kl2 ≤ a1.length ∧ Has L' [[(b34, .map esM34l2 clM34l2)], [(b33, .map esM33l2 clM33l2)], [(b5, .cells #[.int .i64 nb5l2_0, vb5l2_1, vb5l2_2] 25)]] ∧ MapV .u64 (fun z : Int => Value.int .i64 z) esM34l2 xM34l2 ∧ MapV .u64 (fun z : Bool => Value.bool z) esM33l2 xM33l2 ∧ RdS slotE H' vb5l2_1 xb5l2_1 ∧ RdS (intE .i64) H' vb5l2_2 xb5l2_2 ∧ Rt (nb5l2_0, xb5l2_1, xb5l2_2) ∧ windroselaw02_AllocLives_l2 (a1.drop kl2) kl2 ((xM34l2, xM33l2, nb5l2_0, xb5l2_1, xb5l2_2)) = windroselaw02_AllocLives_l2 a1 0 ((([] : List (Int × Int)), ([] : List (Int × Bool)), r28.1.1, r28.1.2.1, r28.1.2.2))) (fun ⟨kl2, xM34l2, esM34l2, clM34l2, xM33l2, esM33l2, clM33l2, nb5l2_0, vb5l2_1, xb5l2_1, vb5l2_2, xb5l2_2⟩ => [(37, .int .i64 (kl2 : Int)), (5, .pointer (some ⟨b5, 0, none⟩)), (7, .map (some b33)), (8, .map (some b34)), (35, .slice Aa1 a1.length ca1), (36, .int .i64 (a1.length : Int))]) (fun ⟨kl2, xM34l2, esM34l2, clM34l2, xM33l2, esM33l2, clM33l2, nb5l2_0, vb5l2_1, xb5l2_1, vb5l2_2, xb5l2_2⟩ => a1.length - kl2) (0, ([] : List (Int × Int)), #[], 0, ([] : List (Int × Bool)), #[], 0, r28.1.1, .slice A28_0_1 r28.1.2.1.length p28_0_1, r28.1.2.1, .slice A28_0_2 r28.1.2.2.length p28_0_2, r28.1.2.2) ?_ ?_ ?_
        · exact ⟨(by omega), (Has.cons .hd (Has.cons .hd (Has.cons .hd Has.nil))), w34, w33, (fF28_0_1_1.mono sF28_0_2_2), fF28_0_2_2, (by exact hnew), (by rfl)⟩
        · exact ⟨rfl, rfl, rfl, rfl, rfl, rfl, trivial⟩
        · intro ⟨kl2, xM34l2, esM34l2, clM34l2, xM33l2, esM33l2, clM33l2, nb5l2_0, vb5l2_1, xb5l2_1, vb5l2_2, xb5l2_2⟩ σ_l2 H_l2 L_l2 ds_l2 s_l2 hI_l2
          obtain ⟨hkl2, hI_l2⟩ := hI_l2
          obtain ⟨hLl2, wM34l2, wM33l2, wb5l2_1, wb5l2_2, hBl2_0, hQl2⟩ := hI_l2
          obtain ⟨Ab5l2_1, pb5l2_1, rfl, mb5l2_1, nb5l2_1_, wb5l2_1⟩ := RdS.shape wb5l2_1
          obtain ⟨Ab5l2_2, pb5l2_2, rfl, mb5l2_2, nb5l2_2_, wb5l2_2⟩ := RdS.shape wb5l2_2
          refine T.has hLl2 ?_
          refine T.seq ?_
          refine T.region ?_
          refine R.lss rfl rfl rfl ?_
          refine TL.nil (Post.thnN ?_)
          refine T.seq ?_
          refine T.condD rfl (fun c38 => ?_) (fun c38 => ?_)
          · have hltl2 : kl2 < a1.length := by omega
            obtain ⟨yl2, hyl2⟩ := getk (xs := a1) (k := kl2) (by omega)
            have hR := hBl2_0
            have hln := hR.lens
            simp only at hln
            refine T.skip (Post.thnN ?_)
            refine T.seq ?_
            refine T.block ?_
            refine T.seq ?_
            refine T.region ?_
            refine R.mvE rfl (by conv => lhs; whnf) ?_
            obtain ⟨b40, o40, i40, k40⟩ := RdS.elem (ha1.mono (s28.trans (sF28_0_1_1.trans (sF28_0_2_2.trans s_l2)))) hyl2
            obtain ⟨l40, g40, k40⟩ := k40
            obtain rfl : l40 = [.int .i64 yl2] := g40
            refine R.ixp Tryd.underlying23 Tryd.sizeOf3 rfl rfl rfl (by omega) i40 ?_
            refine R.ldC Tryd.isAgg3 rfl rfl (k40 0 _ rfl) ?_
            refine R.asE rfl (by conv => lhs; whnf) ?_
            refine R.asE rfl (by conv => lhs; whnf) ?_
            refine TL.nil (Post.thnN ?_)
            refine T.seq ?_
            refine T.seq ?_
            refine T.region ?_
            refine R.mvE rfl (by conv => lhs; whnf) ?_
            refine R.eql rfl rfl rfl ?_
            refine TL.nil (Post.thnN ?_)
            refine T.condD rfl (fun c43 => ?_) (fun c43 => ?_)
            · refine T.set 43 (.bool true) (congrArg Value.bool (decide_eq_true c43)) ?_
              refine T.exit (Post.thnE (Post.blkE rfl (Post.thnE (Post.thnE (Post.blkX ?_)))))
              have hEl2 : windroselaw02_AllocLives_l2 a1 0 ((([] : List (Int × Int)), ([] : List (Int × Bool)), r28.1.1, r28.1.2.1, r28.1.2.2)) = .go ((nb5l2_0, xb5l2_1, xb5l2_2)) := (by rw [← hQl2, drop_cons hyl2, windroselaw02_AllocLives_l2]; rw [if_pos c43])
              refine id (Post.thnN ?_)
              exact ⟨(nb5l2_0, .slice Ab5l2_1 xb5l2_1.length pb5l2_1, xb5l2_1, .slice Ab5l2_2 xb5l2_2.length pb5l2_2, xb5l2_2), s_l2, ⟨(Has.cons (.tl (.tl .hd)) Has.nil), wb5l2_1, wb5l2_2, (by exact hBl2_0), (by rw [hEl2, LR.on_go])⟩, rfl, trivial⟩
            · refine T.set 43 (.bool false) (congrArg Value.bool (decide_eq_false c43)) ?_
              refine T.skip (Post.thnN ?_)
              refine T.seq ?_
              refine T.region ?_
              refine R.ldX (cs := [.int .i64 nb5l2_0, .slice Ab5l2_1 xb5l2_1.length pb5l2_1, .slice Ab5l2_2 xb5l2_2.length pb5l2_2]) (l := [.int .i64 nb5l2_0, .slice Ab5l2_1 xb5l2_1.length pb5l2_1, .slice Ab5l2_2 xb5l2_2.length pb5l2_2]) Tryd.isAgg25 Tryd.sizeOf25 rfl rfl (.tl (.tl .hd)) rfl rfl ?_
              obtain ⟨r45, er45⟩ : ∃ r, r = (alloc_All_m ((nb5l2_0, xb5l2_1, xb5l2_2))) := ⟨_, rfl⟩
              refine TL.call [] rfl rfl rfl (alloc_All_c _ ((s28.trans (sF28_0_1_1.trans (sF28_0_2_2.trans s_l2))) _ _ hG0) ((nb5l2_0, xb5l2_1, xb5l2_2)) _ wb5l2_1 _ wb5l2_2 (by first | omega | (simp; done) | (simp; omega) | (simp at *; omega)) (by first | omega | (simp; done) | (simp; omega) | (simp at *; omega))) ?_
              intro v45 H45 L45 s45 q45
              rw [← er45] at q45
              obtain ⟨u45_0_0, c45_0_0, rfl, rfl, w45_0_0⟩ := q45
              obtain ⟨A45_0_0, p45_0_0, rfl, m45_0_0, n45_0_0⟩ := OwnS.shape w45_0_0
              have ta45 : r45.length ≤ 2000000 := by rw [er45]; exact all_len (by first | omega | (simp; done) | (simp; omega) | (simp at *; omega))
              have hge : 2 ≤ r45.length := by rw [er45]; exact all_ge2 hR
              refine R.asE rfl (by conv => lhs; whnf) ?_
              refine TL.nil (Post.thnN ?_)
              refine T.seq ?_
              refine T.region ?_
              refine R.ldX (cs := [.int .i64 nb5l2_0, .slice Ab5l2_1 xb5l2_1.length pb5l2_1, .slice Ab5l2_2 xb5l2_2.length pb5l2_2]) (l := [.int .i64 nb5l2_0, .slice Ab5l2_1 xb5l2_1.length pb5l2_1, .slice Ab5l2_2 xb5l2_2.length pb5l2_2]) Tryd.isAgg25 Tryd.sizeOf25 rfl rfl (.tl (.tl (.tl .hd))) rfl rfl ?_
              refine R.callv rfl rfl rfl (alloc_Room_c _ ((s28.trans (sF28_0_1_1.trans (sF28_0_2_2.trans (s_l2.trans s45)))) _ _ hG0) ((nb5l2_0, xb5l2_1, xb5l2_2)) _ (wb5l2_1.mono s45) _ (wb5l2_2.mono s45) (by first | omega | (simp; done) | (simp; omega) | (simp at *; omega)) (by first | omega | (simp; done) | (simp; omega) | (simp at *; omega))) ?_
              refine R.asE rfl (by conv => lhs; whnf) ?_
              refine TL.nil (Post.thnN ?_)
              refine T.seq ?_
              refine T.seq ?_
              refine T.region ?_
              refine R.mvE rfl (by conv => lhs; whnf) ?_
              refine R.geq rfl rfl rfl ?_
              refine TL.nil (Post.thnN ?_)
              refine T.condD rfl (fun c49 => ?_) (fun c49 => ?_)
              · refine T.set 49 (.bool true) (congrArg Value.bool (decide_eq_true c49)) ?_
                refine T.seq ?_
                refine T.region ?_
                refine R.ldX (cs := [.int .i64 nb5l2_0, .slice Ab5l2_1 xb5l2_1.length pb5l2_1, .slice Ab5l2_2 xb5l2_2.length pb5l2_2]) (l := [.int .i64 nb5l2_0, .slice Ab5l2_1 xb5l2_1.length pb5l2_1, .slice Ab5l2_2 xb5l2_2.length pb5l2_2]) Tryd.isAgg25 Tryd.sizeOf25 rfl rfl (.tl (.tl (.tl .hd))) rfl rfl ?_
                obtain ⟨r52, er52⟩ : ∃ r, r = (alloc_Take_m ((nb5l2_0, xb5l2_1, xb5l2_2))) := ⟨_, rfl⟩
                refine TL.call [] rfl rfl rfl (alloc_Take_c _ ((s28.trans (sF28_0_1_1.trans (sF28_0_2_2.trans (s_l2.trans s45)))) _ _ hG0) ((nb5l2_0, xb5l2_1, xb5l2_2)) _ (wb5l2_1.mono s45) _ (wb5l2_2.mono s45) (by first | omega | (simp; done) | (simp; omega) | (simp at *; omega)) (by first | omega | (simp; done) | (simp; omega) | (simp at *; omega))) ?_
                intro v52 H52 L52 s52 q52
                rw [← er52] at q52
                obtain ⟨u52_0_1, u52_0_2, c52_0_1, c52_0_2, rfl, rfl, w52_0_1, w52_0_2⟩ := q52
                obtain ⟨A52_0_1, p52_0_1, rfl, m52_0_1, n52_0_1⟩ := OwnS.shape w52_0_1
                obtain ⟨A52_0_2, p52_0_2, rfl, m52_0_2, n52_0_2⟩ := OwnS.shape w52_0_2
                have tt52 : r52.1.2.1.length ≤ 1100000 ∧ r52.1.2.2.length ≤ 1100000 := by rw [er52]; exact take_len (by first | omega | (simp; done) | (simp; omega) | (simp at *; omega))
                refine R.mvE rfl (by conv => lhs; whnf) ?_
                refine R.ext rfl rfl rfl ?_
                refine R.ext rfl rfl rfl ?_
                refine R.ext rfl rfl rfl ?_
                refine R.alloc Tryd.zeroValue25 rfl ?_
                intro b13
                refine R.stX (old := [.int .i64 0, .slice none 0 0, .slice none 0 0]) (l := [.int .i64 (r52.1.1), .slice A52_0_1 r52.1.2.1.length p52_0_1, .slice A52_0_2 r52.1.2.2.length p52_0_2]) (new := [.int .i64 (r52.1.1), .slice A52_0_1 r52.1.2.1.length p52_0_1, .slice A52_0_2 r52.1.2.2.length p52_0_2]) (et := 25) Tryd.sizeOf25 rfl rfl rfl rfl rfl (by show 0 + 3 ≤ 3; decide) rfl (all_one rfl) .hd ?_
                refine R.asE rfl (by conv => lhs; whnf) ?_
                refine R.asE rfl (by conv => lhs; whnf) ?_
                refine TL.shut (.tl .hd) ?_
                intro HF52_0_1_3 sF52_0_1_3 qF52_0_1_3
                have fF52_0_1_3 := OwnS.read w52_0_1 sF52_0_1_3 qF52_0_1_3
                refine TL.shut (.tl .hd) ?_
                intro HF52_0_2_4 sF52_0_2_4 qF52_0_2_4
                have fF52_0_2_4 := OwnS.read (OwnS.mono w52_0_2 sF52_0_1_3) sF52_0_2_4 qF52_0_2_4
                refine TL.shut .hd ?_
                intro Hb13_5 sb13_5 qb13_5
                have hb13_5 : Hb13_5 b13 = some (.cells #[.int .i64 (r52.1.1), .slice A52_0_1 r52.1.2.1.length p52_0_1, .slice A52_0_2 r52.1.2.2.length p52_0_2] 25) := shut1 qb13_5
                refine TL.nil (Post.thnN ?_)
                refine T.seq ?_
                refine T.seq ?_
                refine T.cutK (ι := Bool) (fun b72c3 H' L' ds' => Has L' [c45_0_0, [(b34, .map esM34l2 clM34l2)], [(b33, .map esM33l2 clM33l2)], [(b5, .cells #[.int .i64 nb5l2_0, .slice Ab5l2_1 xb5l2_1.length pb5l2_1, .slice Ab5l2_2 xb5l2_2.length pb5l2_2] 25)]] ∧ (if ((decide (r52.2.2 = 0)) != (decide ((0 : Int) < (alloc_Room_m ((nb5l2_0, xb5l2_1, xb5l2_2)))))) = true then true else (if r52.2.2 ≠ 0 then (if r52.2.2 ≠ 6 then ((decide (r52.2.2 ≠ 121))) else false) else false) : Bool) = b72c3) (fun b72c3 => [(5, .pointer (some ⟨b5, 0, none⟩)), (7, .map (some b33)), (8, .map (some b34)), (11, .slice A45_0_0 r45.length p45_0_0), (12, .int .i64 (alloc_Room_m ((nb5l2_0, xb5l2_1, xb5l2_2)))), (13, .pointer (some ⟨b13, 0, none⟩)), (14, .int .u64 (r52.2.1)), (15, .int .i64 (r52.2.2)), (35, .slice Aa1 a1.length ca1), (36, .int .i64 (a1.length : Int)), (37, .int .i64 (kl2 : Int)), (72, .bool (b72c3))]) ?_ ?_
                · refine T.region ?_
                  refine R.mvE rfl (by conv => lhs; whnf) ?_
                  refine R.eql rfl rfl rfl ?_
                  refine R.mvE rfl (by conv => lhs; whnf) ?_
                  refine R.gtr rfl rfl rfl ?_
                  refine R.neqB Tryd.underlying4 rfl rfl rfl ?_
                  refine R.mvE rfl (by conv => lhs; whnf) ?_
                  refine TL.gsplit 61 rfl (fun g61 => ?_) (fun g61 => ?_)
                  · refine TL.off rfl rfl rfl ?_
                    refine TL.off rfl rfl rfl ?_
                    refine TL.off rfl rfl rfl ?_
                    refine TL.offU rfl rfl ?_
                    refine TL.offU rfl rfl ?_
                    refine TL.off rfl rfl rfl ?_
                    refine TL.off rfl rfl rfl ?_
                    refine TL.offU rfl rfl ?_
                    refine TL.offU rfl rfl ?_
                    refine TL.off rfl rfl rfl ?_
                    refine R.pkTE rfl rfl (by conv => lhs; whnf) ?_
                    refine TL.nil (Post.thnN ?_)
                    exact ⟨true, HLe.refl _, ⟨(Has.cons .hd (Has.cons .hd (Has.cons .hd (Has.cons .hd Has.nil)))), (by rw [if_t g61])⟩, rfl, rfl, rfl, rfl, rfl, rfl, rfl, rfl, rfl, rfl, rfl, rfl, trivial⟩
                  · refine R.mvE rfl (by conv => lhs; whnf) ?_
                    refine R.neq rfl rfl rfl ?_
                    refine R.mvE rfl (by conv => lhs; whnf) ?_
                    refine TL.gsplitD 64 rfl (fun g64 => ?_) (fun g64 => ?_)
                    · refine R.mvE rfl (by conv => lhs; whnf) ?_
                      refine R.neq rfl rfl rfl ?_
                      refine R.pkTE rfl rfl (by conv => lhs; whnf) ?_
                      refine R.mvE rfl (by conv => lhs; whnf) ?_
                      refine TL.gsplitD 68 rfl (fun g68 => ?_) (fun g68 => ?_)
                      · refine R.mvE rfl (by conv => lhs; whnf) ?_
                        refine R.neq rfl rfl rfl ?_
                        refine R.pkTE rfl rfl (by conv => lhs; whnf) ?_
                        refine R.pkFE rfl rfl (by conv => lhs; whnf) ?_
                        refine TL.nil (Post.thnN ?_)
                        exact ⟨(decide (r52.2.2 ≠ 121)), HLe.refl _, ⟨(Has.cons .hd (Has.cons .hd (Has.cons .hd (Has.cons .hd Has.nil)))), (by rw [if_f g61, if_pos g64, if_pos g68])⟩, rfl, rfl, rfl, rfl, rfl, rfl, rfl, rfl, rfl, rfl, rfl, rfl, trivial⟩
                      · refine TL.off rfl rfl rfl ?_
                        refine TL.off rfl rfl rfl ?_
                        refine R.pkFE rfl rfl (by conv => lhs; whnf) ?_
                        refine R.pkFE rfl rfl (by conv => lhs; whnf) ?_
                        refine TL.nil (Post.thnN ?_)
                        exact ⟨false, HLe.refl _, ⟨(Has.cons .hd (Has.cons .hd (Has.cons .hd (Has.cons .hd Has.nil)))), (by rw [if_f g61, if_pos g64, if_neg g68])⟩, rfl, rfl, rfl, rfl, rfl, rfl, rfl, rfl, rfl, rfl, rfl, rfl, trivial⟩
                    · refine TL.off rfl rfl rfl ?_
                      refine TL.off rfl rfl rfl ?_
                      refine R.pkFE rfl rfl (by conv => lhs; whnf) ?_
                      refine R.mvE rfl (by conv => lhs; whnf) ?_
                      refine TL.off rfl rfl rfl ?_
                      refine TL.off rfl rfl rfl ?_
                      refine R.pkFE rfl rfl (by conv => lhs; whnf) ?_
                      refine R.pkFE rfl rfl (by conv => lhs; whnf) ?_
                      refine TL.nil (Post.thnN ?_)
                      exact ⟨false, HLe.refl _, ⟨(Has.cons .hd (Has.cons .hd (Has.cons .hd (Has.cons .hd Has.nil)))), (by rw [if_f g61, if_neg g64])⟩, rfl, rfl, rfl, rfl, rfl, rfl, rfl, rfl, rfl, rfl, rfl, rfl, trivial⟩
                · intro b72c3 σ_c3 H_c3 L_c3 ds_c3 s_c3 hI_c3
                  obtain ⟨hLc3, hTc3⟩ := hI_c3
                  refine T.has hLc3 ?_
                  refine T.cond rfl (fun c72 => ?_) (fun c72 => ?_)
                  · refine T.set 72 (.bool true) (congrArg Value.bool c72) ?_
                    have hZ72 := hTc3.trans c72
                    try simp only [or_f, or_t, and_f, and_t, decide_eq_true_eq, decide_eq_false_iff_not, Bool.not_eq_true'] at hZ72
                    refine T.seq ?_
                    refine T.region ?_
                    refine R.asE rfl (by conv => lhs; whnf) ?_
                    refine TL.nil (Post.thnN ?_)
                    refine T.has Has.nil ?_
                    refine T.ret (Post.thnR (Post.thnR (Post.blkR (Post.thnR (Post.thnR (Post.blkR (Post.thnR ?_)))))))
                    have hXl2 : windroselaw02_AllocLives_l2 a1 0 ((([] : List (Int × Int)), ([] : List (Int × Bool)), r28.1.1, r28.1.2.1, r28.1.2.2)) = .ret (.ret false) := by subst er52; subst er45; rw [← hQl2, drop_cons hyl2, windroselaw02_AllocLives_l2]; rw [if_neg c43, LR.seq_go, if_pos c49, LR.seq_go, hTc3, LR.seq_go, if_t c72]
                    have hM : windroselaw02_AllocLives_m a0 a1 = false := by subst er28; rw [windroselaw02_AllocLives_m, if_f c21, LR.seq_go, if_neg c32, hXl2, LR.on_ret, LR.on_ret]
                    exact fin1L (v := .bool false) [] rfl rfl (List.Sublist.refl _) ⟨rfl, by first | rw [hM] | rfl⟩
                  · refine T.set 72 (.bool false) (congrArg Value.bool c72) ?_
                    have hZ72 := hTc3.trans c72
                    try simp only [or_f, or_t, and_f, and_t, decide_eq_true_eq, decide_eq_false_iff_not, Bool.not_eq_true'] at hZ72
                    refine T.skip (Post.thnN ?_)
                    refine T.seq ?_
                    refine T.seq ?_
                    refine T.region ?_
                    refine R.mvE rfl (by conv => lhs; whnf) ?_
                    refine R.neq rfl rfl rfl ?_
                    refine TL.nil (Post.thnN ?_)
                    refine T.condD rfl (fun c74 => ?_) (fun c74 => ?_)
                    · refine T.set 74 (.bool true) (congrArg Value.bool (decide_eq_true c74)) ?_
                      refine T.exit (Post.thnE (Post.thnE (Post.blkX ?_)))
                      refine id (Post.thnN ?_)
                      refine T.region ?_
                      refine R.addI rfl rfl rfl (by omega) ?_
                      refine R.mvE rfl (by conv => lhs; whnf) ?_
                      refine TL.nil (Post.thnN ?_)
                      exact ⟨(kl2 + 1, xM34l2, esM34l2, clM34l2, xM33l2, esM33l2, clM33l2, nb5l2_0, .slice Ab5l2_1 xb5l2_1.length pb5l2_1, xb5l2_1, .slice Ab5l2_2 xb5l2_2.length pb5l2_2, xb5l2_2), (s_l2.trans (s45.trans (s52.trans (sF52_0_1_3.trans (sF52_0_2_4.trans (sb13_5.trans s_c3)))))), ⟨(by omega), (Has.cons (.tl .hd) (Has.cons (.tl .hd) (Has.cons (.tl .hd) Has.nil))), wM34l2, wM33l2, (wb5l2_1.mono (s45.trans (s52.trans (sF52_0_1_3.trans (sF52_0_2_4.trans (sb13_5.trans s_c3)))))), (wb5l2_2.mono (s45.trans (s52.trans (sF52_0_1_3.trans (sF52_0_2_4.trans (sb13_5.trans s_c3)))))), (by first | exact hBl2_0 | (show Rt r52.1; rw [er52]; exact take_m_rt hBl2_0 (by rw [← er52]; omega)) | (show Rt r144.1; rw [er144]; exact give_m_rt hBl2_0 (by rw [← er144]; have := hZ167.1; omega))), (by subst er52; subst er45; rw [← hQl2, drop_cons hyl2, windroselaw02_AllocLives_l2]; rw [if_neg c43, LR.seq_go, if_pos c49, LR.seq_go, hTc3, LR.seq_go, if_f c72, if_pos c74])⟩, by show a1.length - (kl2 + 1) < a1.length - kl2; omega, rfl, rfl, rfl, rfl, rfl, rfl, trivial⟩
                    · refine T.set 74 (.bool false) (congrArg Value.bool (decide_eq_false c74)) ?_
                      refine T.skip (Post.thnN ?_)
                      refine T.seq ?_
                      refine T.region ?_
                      refine R.mvE rfl (by conv => lhs; whnf) ?_
                      refine R.rem rfl rfl rfl (by omega) ?_
                      refine R.asE rfl (by conv => lhs; whnf) ?_
                      refine TL.nil (Post.thnN ?_)
                      refine T.seq ?_
                      refine T.seq ?_
                      refine T.region ?_
                      refine R.mvE rfl (by conv => lhs; whnf) ?_
                      refine R.mvE rfl (by conv => lhs; whnf) ?_
                      refine R.lkuV (f := (fun z : Int => Value.int .i64 z)) (z0 := (0 : Int)) Tryd.underlying49 Tryd.underlying32 Tryd.zeroValue3 rfl rfl rfl rfl (.tl .hd) wM34l2 ?_
                      refine R.add rfl rfl rfl ?_
                      refine R.mupV (f := (fun z : Int => Value.int .i64 z)) (v := ((IntKind.i64.wrap (((mlk xM34l2 ((Int.tmod r52.2.1 4294967296))).getD (0 : Int)) + 1)))) Tryd.underlying49 Tryd.underlying32 rfl rfl rfl rfl (.tl .hd) wM34l2 ?_
                      intro esu34_16 clu34_16 wu34_16
                      refine TL.nil (Post.thnN ?_)
                      refine T.seq ?_
                      refine T.cutK (ι := Bool) (fun b121c4 H' L' ds' => Has L' [[(b34, .map esu34_16 clu34_16)], [(b33, .map esM33l2 clM33l2)], [(b5, .cells #[.int .i64 nb5l2_0, .slice Ab5l2_1 xb5l2_1.length pb5l2_1, .slice Ab5l2_2 xb5l2_2.length pb5l2_2] 25)]] ∧ (if ((mlk xM33l2 r52.2.1).getD false) = true then true else (if (8 : Int) < ((mlk ((mpu xM34l2 ((Int.tmod r52.2.1 4294967296)) ((IntKind.i64.wrap (((mlk xM34l2 ((Int.tmod r52.2.1 4294967296))).getD (0 : Int)) + 1))))) ((Int.tmod r52.2.1 4294967296))).getD (0 : Int)) then true else (if (alloc_Alive_m ((nb5l2_0, xb5l2_1, xb5l2_2)) r52.2.1) = true then true else (if (!(alloc_Alive_m r52.1 r52.2.1)) = true then true else (LR.seq (alloc_All_m r52.1) (fun r103 => if (r103.length : Int) ≠ ((r45.length : Int) + 1) then true else (if ((alloc_Room_m r52.1) : Int) ≠ (IntKind.i64.wrap ((alloc_Room_m ((nb5l2_0, xb5l2_1, xb5l2_2))) - 1)) then true else ((decide (((alloc_Check_m r52.1) : Int) ≠ 0))))))))) : Bool) = b121c4) (fun b121c4 => [(5, .pointer (some ⟨b5, 0, none⟩)), (7, .map (some b33)), (8, .map (some b34)), (13, .pointer (some ⟨b13, 0, none⟩)), (14, .int .u64 (r52.2.1)), (35, .slice Aa1 a1.length ca1), (36, .int .i64 (a1.length : Int)), (37, .int .i64 (kl2 : Int)), (121, .bool (b121c4))]) ?_ ?_
                      · refine T.region ?_
                        refine R.mvE rfl (by conv => lhs; whnf) ?_
                        refine R.mvE rfl (by conv => lhs; whnf) ?_
                        refine R.lkuV (f := (fun z : Bool => Value.bool z)) (z0 := false) Tryd.underlying48 Tryd.underlying32 Tryd.zeroValue4 rfl rfl rfl rfl (.tl (.tl .hd)) wM33l2 ?_
                        refine R.mvE rfl (by conv => lhs; whnf) ?_
                        refine TL.gsplit 84 rfl (fun g84 => ?_) (fun g84 => ?_)
                        · refine TL.off rfl rfl rfl ?_
                          refine TL.off rfl rfl rfl ?_
                          refine TL.off rfl rfl rfl ?_
                          refine TL.off rfl rfl rfl ?_
                          refine R.pkTE rfl rfl (by conv => lhs; whnf) ?_
                          refine R.mvE rfl (by conv => lhs; whnf) ?_
                          refine TL.off rfl rfl rfl ?_
                          refine TL.off rfl rfl rfl ?_
                          refine TL.off rfl rfl rfl ?_
                          refine R.pkTE rfl rfl (by conv => lhs; whnf) ?_
                          refine R.mvE rfl (by conv => lhs; whnf) ?_
                          refine TL.off rfl rfl rfl ?_
                          refine TL.off rfl rfl rfl ?_
                          refine TL.off rfl rfl rfl ?_
                          refine TL.off rfl rfl rfl ?_
                          refine R.pkTE rfl rfl (by conv => lhs; whnf) ?_
                          refine R.mvE rfl (by conv => lhs; whnf) ?_
                          refine TL.off rfl rfl rfl ?_
                          refine TL.off rfl rfl rfl ?_
                          refine TL.off rfl rfl rfl ?_
                          refine TL.off rfl rfl rfl ?_
                          refine TL.off rfl rfl rfl ?_
                          refine TL.off rfl rfl rfl ?_
                          refine TL.off rfl rfl rfl ?_
                          refine R.pkTE rfl rfl (by conv => lhs; whnf) ?_
                          refine R.mvE rfl (by conv => lhs; whnf) ?_
                          refine TL.off rfl rfl rfl ?_
                          refine TL.off rfl rfl rfl ?_
                          refine TL.off rfl rfl rfl ?_
                          refine TL.off rfl rfl rfl ?_
                          refine TL.off rfl rfl rfl ?_
                          refine R.pkTE rfl rfl (by conv => lhs; whnf) ?_
                          refine R.mvE rfl (by conv => lhs; whnf) ?_
                          refine TL.off rfl rfl rfl ?_
                          refine TL.off rfl rfl rfl ?_
                          refine TL.off rfl rfl rfl ?_
                          refine R.pkTE rfl rfl (by conv => lhs; whnf) ?_
                          refine TL.nil (Post.thnN ?_)
                          exact ⟨true, HLe.refl _, ⟨(Has.cons .hd (Has.cons (.tl .hd) (Has.cons (.tl .hd) Has.nil))), (by rw [if_t g84])⟩, rfl, rfl, rfl, rfl, rfl, rfl, rfl, rfl, rfl, trivial⟩
                        · refine R.mvE rfl (by conv => lhs; whnf) ?_
                          refine R.mvE rfl (by conv => lhs; whnf) ?_
                          refine R.lkuV (f := (fun z : Int => Value.int .i64 z)) (z0 := (0 : Int)) Tryd.underlying49 Tryd.underlying32 Tryd.zeroValue3 rfl rfl rfl rfl .hd wu34_16 ?_
                          refine R.gtr rfl rfl rfl ?_
                          refine R.pkFE rfl rfl (by conv => lhs; whnf) ?_
                          refine R.mvE rfl (by conv => lhs; whnf) ?_
                          refine TL.gsplitD 90 rfl (fun g90 => ?_) (fun g90 => ?_)
                          · refine TL.off rfl rfl rfl ?_
                            refine TL.off rfl rfl rfl ?_
                            refine TL.off rfl rfl rfl ?_
                            refine R.pkTE rfl rfl (by conv => lhs; whnf) ?_
                            refine R.mvE rfl (by conv => lhs; whnf) ?_
                            refine TL.off rfl rfl rfl ?_
                            refine TL.off rfl rfl rfl ?_
                            refine TL.off rfl rfl rfl ?_
                            refine TL.off rfl rfl rfl ?_
                            refine R.pkTE rfl rfl (by conv => lhs; whnf) ?_
                            refine R.mvE rfl (by conv => lhs; whnf) ?_
                            refine TL.off rfl rfl rfl ?_
                            refine TL.off rfl rfl rfl ?_
                            refine TL.off rfl rfl rfl ?_
                            refine TL.off rfl rfl rfl ?_
                            refine TL.off rfl rfl rfl ?_
                            refine TL.off rfl rfl rfl ?_
                            refine TL.off rfl rfl rfl ?_
                            refine R.pkTE rfl rfl (by conv => lhs; whnf) ?_
                            refine R.mvE rfl (by conv => lhs; whnf) ?_
                            refine TL.off rfl rfl rfl ?_
                            refine TL.off rfl rfl rfl ?_
                            refine TL.off rfl rfl rfl ?_
                            refine TL.off rfl rfl rfl ?_
                            refine TL.off rfl rfl rfl ?_
                            refine R.pkTE rfl rfl (by conv => lhs; whnf) ?_
                            refine R.mvE rfl (by conv => lhs; whnf) ?_
                            refine TL.off rfl rfl rfl ?_
                            refine TL.off rfl rfl rfl ?_
                            refine TL.off rfl rfl rfl ?_
                            refine R.pkTE rfl rfl (by conv => lhs; whnf) ?_
                            refine TL.nil (Post.thnN ?_)
                            exact ⟨true, HLe.refl _, ⟨(Has.cons .hd (Has.cons (.tl .hd) (Has.cons (.tl .hd) Has.nil))), (by rw [if_f g84, if_pos g90])⟩, rfl, rfl, rfl, rfl, rfl, rfl, rfl, rfl, rfl, trivial⟩
                          · refine R.ldX (cs := [.int .i64 nb5l2_0, .slice Ab5l2_1 xb5l2_1.length pb5l2_1, .slice Ab5l2_2 xb5l2_2.length pb5l2_2]) (l := [.int .i64 nb5l2_0, .slice Ab5l2_1 xb5l2_1.length pb5l2_1, .slice Ab5l2_2 xb5l2_2.length pb5l2_2]) Tryd.isAgg25 Tryd.sizeOf25 rfl rfl (.tl (.tl (.tl .hd))) rfl rfl ?_
                            refine R.mvE rfl (by conv => lhs; whnf) ?_
                            refine R.callv rfl rfl rfl (alloc_Alive_c _ ((s28.trans (sF28_0_1_1.trans (sF28_0_2_2.trans (s_l2.trans (s45.trans (s52.trans (sF52_0_1_3.trans (sF52_0_2_4.trans (sb13_5.trans s_c3))))))))) _ _ hG0) ((nb5l2_0, xb5l2_1, xb5l2_2)) _ (wb5l2_1.mono (s45.trans (s52.trans (sF52_0_1_3.trans (sF52_0_2_4.trans (sb13_5.trans s_c3)))))) _ (wb5l2_2.mono (s45.trans (s52.trans (sF52_0_1_3.trans (sF52_0_2_4.trans (sb13_5.trans s_c3)))))) (r52.2.1) (by first | omega | (simp; done) | (simp; omega) | (simp at *; omega)) (by first | omega | (simp; done) | (simp; omega) | (simp at *; omega))) ?_
                            refine R.pkFE rfl rfl (by conv => lhs; whnf) ?_
                            refine R.mvE rfl (by conv => lhs; whnf) ?_
                            refine TL.gsplit 95 rfl (fun g95 => ?_) (fun g95 => ?_)
                            · refine TL.off rfl rfl rfl ?_
                              refine TL.off rfl rfl rfl ?_
                              refine TL.off rfl rfl rfl ?_
                              refine TL.off rfl rfl rfl ?_
                              refine R.pkTE rfl rfl (by conv => lhs; whnf) ?_
                              refine R.mvE rfl (by conv => lhs; whnf) ?_
                              refine TL.off rfl rfl rfl ?_
                              refine TL.off rfl rfl rfl ?_
                              refine TL.off rfl rfl rfl ?_
                              refine TL.off rfl rfl rfl ?_
                              refine TL.off rfl rfl rfl ?_
                              refine TL.off rfl rfl rfl ?_
                              refine TL.off rfl rfl rfl ?_
                              refine R.pkTE rfl rfl (by conv => lhs; whnf) ?_
                              refine R.mvE rfl (by conv => lhs; whnf) ?_
                              refine TL.off rfl rfl rfl ?_
                              refine TL.off rfl rfl rfl ?_
                              refine TL.off rfl rfl rfl ?_
                              refine TL.off rfl rfl rfl ?_
                              refine TL.off rfl rfl rfl ?_
                              refine R.pkTE rfl rfl (by conv => lhs; whnf) ?_
                              refine R.mvE rfl (by conv => lhs; whnf) ?_
                              refine TL.off rfl rfl rfl ?_
                              refine TL.off rfl rfl rfl ?_
                              refine TL.off rfl rfl rfl ?_
                              refine R.pkTE rfl rfl (by conv => lhs; whnf) ?_
                              refine TL.nil (Post.thnN ?_)
                              exact ⟨true, HLe.refl _, ⟨(Has.cons .hd (Has.cons (.tl .hd) (Has.cons (.tl .hd) Has.nil))), (by rw [if_f g84, if_neg g90, if_t g95])⟩, rfl, rfl, rfl, rfl, rfl, rfl, rfl, rfl, rfl, trivial⟩
                            · refine R.ldXH (cs := [.int .i64 (r52.1.1), .slice A52_0_1 r52.1.2.1.length p52_0_1, .slice A52_0_2 r52.1.2.2.length p52_0_2]) (l := [.int .i64 (r52.1.1), .slice A52_0_1 r52.1.2.1.length p52_0_1, .slice A52_0_2 r52.1.2.2.length p52_0_2]) Tryd.isAgg25 Tryd.sizeOf25 rfl rfl (s_c3 _ _ hb13_5) rfl rfl ?_
                              refine R.mvE rfl (by conv => lhs; whnf) ?_
                              refine R.callv rfl rfl rfl (alloc_Alive_c _ ((s28.trans (sF28_0_1_1.trans (sF28_0_2_2.trans (s_l2.trans (s45.trans (s52.trans (sF52_0_1_3.trans (sF52_0_2_4.trans (sb13_5.trans s_c3))))))))) _ _ hG0) r52.1 _ (fF52_0_1_3.mono (sF52_0_2_4.trans (sb13_5.trans s_c3))) _ (fF52_0_2_4.mono (sb13_5.trans s_c3)) (r52.2.1) (by first | omega | (simp; done) | (simp; omega) | (simp at *; omega)) (by first | omega | (simp; done) | (simp; omega) | (simp at *; omega))) ?_
                              refine R.not rfl rfl ?_
                              refine R.pkFE rfl rfl (by conv => lhs; whnf) ?_
                              refine R.mvE rfl (by conv => lhs; whnf) ?_
                              refine TL.gsplit 101 rfl (fun g101 => ?_) (fun g101 => ?_)
                              · refine TL.off rfl rfl rfl ?_
                                refine TL.off rfl rfl rfl ?_
                                refine TL.off rfl rfl rfl ?_
                                refine TL.off rfl rfl rfl ?_
                                refine TL.off rfl rfl rfl ?_
                                refine TL.off rfl rfl rfl ?_
                                refine TL.off rfl rfl rfl ?_
                                refine R.pkTE rfl rfl (by conv => lhs; whnf) ?_
                                refine R.mvE rfl (by conv => lhs; whnf) ?_
                                refine TL.off rfl rfl rfl ?_
                                refine TL.off rfl rfl rfl ?_
                                refine TL.off rfl rfl rfl ?_
                                refine TL.off rfl rfl rfl ?_
                                refine TL.off rfl rfl rfl ?_
                                refine R.pkTE rfl rfl (by conv => lhs; whnf) ?_
                                refine R.mvE rfl (by conv => lhs; whnf) ?_
                                refine TL.off rfl rfl rfl ?_
                                refine TL.off rfl rfl rfl ?_
                                refine TL.off rfl rfl rfl ?_
                                refine R.pkTE rfl rfl (by conv => lhs; whnf) ?_
                                refine TL.nil (Post.thnN ?_)
                                exact ⟨true, HLe.refl _, ⟨(Has.cons .hd (Has.cons (.tl .hd) (Has.cons (.tl .hd) Has.nil))), (by rw [if_f g84, if_neg g90, if_f g95, if_t g101])⟩, rfl, rfl, rfl, rfl, rfl, rfl, rfl, rfl, rfl, trivial⟩
                              · refine R.ldXH (cs := [.int .i64 (r52.1.1), .slice A52_0_1 r52.1.2.1.length p52_0_1, .slice A52_0_2 r52.1.2.2.length p52_0_2]) (l := [.int .i64 (r52.1.1), .slice A52_0_1 r52.1.2.1.length p52_0_1, .slice A52_0_2 r52.1.2.2.length p52_0_2]) Tryd.isAgg25 Tryd.sizeOf25 rfl rfl (s_c3 _ _ hb13_5) rfl rfl ?_
                                obtain ⟨r103, er103⟩ : ∃ r, r = (alloc_All_m r52.1) := ⟨_, rfl⟩
                                refine TL.call [] rfl rfl rfl (alloc_All_c _ ((s28.trans (sF28_0_1_1.trans (sF28_0_2_2.trans (s_l2.trans (s45.trans (s52.trans (sF52_0_1_3.trans (sF52_0_2_4.trans (sb13_5.trans s_c3))))))))) _ _ hG0) r52.1 _ (fF52_0_1_3.mono (sF52_0_2_4.trans (sb13_5.trans s_c3))) _ (fF52_0_2_4.mono (sb13_5.trans s_c3)) (by first | omega | (simp; done) | (simp; omega) | (simp at *; omega)) (by first | omega | (simp; done) | (simp; omega) | (simp at *; omega))) ?_
                                intro v103 H103 L103 s103 q103
                                rw [← er103] at q103
                                obtain ⟨u103_0_0, c103_0_0, rfl, rfl, w103_0_0⟩ := q103
                                obtain ⟨A103_0_0, p103_0_0, rfl, m103_0_0, n103_0_0⟩ := OwnS.shape w103_0_0
                                have ta103 : r103.length ≤ 2000000 := by rw [er103]; exact all_len (by first | omega | (simp; done) | (simp; omega) | (simp at *; omega))
                                refine R.len Tryd.underlying29 rfl rfl ?_
                                refine R.mvE rfl (by conv => lhs; whnf) ?_
                                refine R.len Tryd.underlying29 rfl rfl ?_
                                refine R.addI rfl rfl rfl (by omega) ?_
                                refine R.neq rfl rfl rfl ?_
                                refine R.pkFE rfl rfl (by conv => lhs; whnf) ?_
                                refine R.mvE rfl (by conv => lhs; whnf) ?_
                                refine TL.gsplitD 110 rfl (fun g110 => ?_) (fun g110 => ?_)
                                · refine TL.off rfl rfl rfl ?_
                                  refine TL.off rfl rfl rfl ?_
                                  refine TL.off rfl rfl rfl ?_
                                  refine TL.off rfl rfl rfl ?_
                                  refine TL.off rfl rfl rfl ?_
                                  refine R.pkTE rfl rfl (by conv => lhs; whnf) ?_
                                  refine R.mvE rfl (by conv => lhs; whnf) ?_
                                  refine TL.off rfl rfl rfl ?_
                                  refine TL.off rfl rfl rfl ?_
                                  refine TL.off rfl rfl rfl ?_
                                  refine R.pkTE rfl rfl (by conv => lhs; whnf) ?_
                                  refine TL.nil (Post.thnN ?_)
                                  exact ⟨true, s103, ⟨(Has.cons (.tl .hd) (Has.cons (.tl (.tl .hd)) (Has.cons (.tl (.tl .hd)) Has.nil))), (by subst er103; rw [if_f g84, if_neg g90, if_f g95, if_f g101, LR.seq_go, if_pos g110])⟩, rfl, rfl, rfl, rfl, rfl, rfl, rfl, rfl, rfl, trivial⟩
                                · refine R.ldXH (cs := [.int .i64 (r52.1.1), .slice A52_0_1 r52.1.2.1.length p52_0_1, .slice A52_0_2 r52.1.2.2.length p52_0_2]) (l := [.int .i64 (r52.1.1), .slice A52_0_1 r52.1.2.1.length p52_0_1, .slice A52_0_2 r52.1.2.2.length p52_0_2]) Tryd.isAgg25 Tryd.sizeOf25 rfl rfl ((s_c3.trans s103) _ _ hb13_5) rfl rfl ?_
                                  refine R.callv rfl rfl rfl (alloc_Room_c _ ((s28.trans (sF28_0_1_1.trans (sF28_0_2_2.trans (s_l2.trans (s45.trans (s52.trans (sF52_0_1_3.trans (sF52_0_2_4.trans (sb13_5.trans (s_c3.trans s103)))))))))) _ _ hG0) r52.1 _ (fF52_0_1_3.mono (sF52_0_2_4.trans (sb13_5.trans (s_c3.trans s103)))) _ (fF52_0_2_4.mono (sb13_5.trans (s_c3.trans s103))) (by first | omega | (simp; done) | (simp; omega) | (simp at *; omega)) (by first | omega | (simp; done) | (simp; omega) | (simp at *; omega))) ?_
                                  refine R.mvE rfl (by conv => lhs; whnf) ?_
                                  refine R.sub rfl rfl rfl ?_
                                  refine R.neq rfl rfl rfl ?_
                                  refine R.pkFE rfl rfl (by conv => lhs; whnf) ?_
                                  refine R.mvE rfl (by conv => lhs; whnf) ?_
                                  refine TL.gsplitD 117 rfl (fun g117 => ?_) (fun g117 => ?_)
                                  · refine TL.off rfl rfl rfl ?_
                                    refine TL.off rfl rfl rfl ?_
                                    refine TL.off rfl rfl rfl ?_
                                    refine R.pkTE rfl rfl (by conv => lhs; whnf) ?_
                                    refine TL.nil (Post.thnN ?_)
                                    exact ⟨true, s103, ⟨(Has.cons (.tl .hd) (Has.cons (.tl (.tl .hd)) (Has.cons (.tl (.tl .hd)) Has.nil))), (by subst er103; rw [if_f g84, if_neg g90, if_f g95, if_f g101, LR.seq_go, if_neg g110, if_pos g117])⟩, rfl, rfl, rfl, rfl, rfl, rfl, rfl, rfl, rfl, trivial⟩
                                  · refine R.ldXH (cs := [.int .i64 (r52.1.1), .slice A52_0_1 r52.1.2.1.length p52_0_1, .slice A52_0_2 r52.1.2.2.length p52_0_2]) (l := [.int .i64 (r52.1.1), .slice A52_0_1 r52.1.2.1.length p52_0_1, .slice A52_0_2 r52.1.2.2.length p52_0_2]) Tryd.isAgg25 Tryd.sizeOf25 rfl rfl ((s_c3.trans s103) _ _ hb13_5) rfl rfl ?_
                                    refine R.callv rfl rfl rfl (alloc_Check_c _ ((s28.trans (sF28_0_1_1.trans (sF28_0_2_2.trans (s_l2.trans (s45.trans (s52.trans (sF52_0_1_3.trans (sF52_0_2_4.trans (sb13_5.trans (s_c3.trans s103)))))))))) _ _ hG0) r52.1 _ (fF52_0_1_3.mono (sF52_0_2_4.trans (sb13_5.trans (s_c3.trans s103)))) _ (fF52_0_2_4.mono (sb13_5.trans (s_c3.trans s103))) (by first | omega | (simp; done) | (simp; omega) | (simp at *; omega)) (by first | omega | (simp; done) | (simp; omega) | (simp at *; omega))) ?_
                                    refine R.neq rfl rfl rfl ?_
                                    refine R.pkFE rfl rfl (by conv => lhs; whnf) ?_
                                    refine TL.nil (Post.thnN ?_)
                                    exact ⟨(decide (((alloc_Check_m r52.1) : Int) ≠ 0)), s103, ⟨(Has.cons (.tl .hd) (Has.cons (.tl (.tl .hd)) (Has.cons (.tl (.tl .hd)) Has.nil))), (by subst er103; rw [if_f g84, if_neg g90, if_f g95, if_f g101, LR.seq_go, if_neg g110, if_neg g117])⟩, rfl, rfl, rfl, rfl, rfl, rfl, rfl, rfl, rfl, trivial⟩
                      · intro b121c4 σ_c4 H_c4 L_c4 ds_c4 s_c4 hI_c4
                        obtain ⟨hLc4, hTc4⟩ := hI_c4
                        refine T.has hLc4 ?_
                        refine T.cond rfl (fun c121 => ?_) (fun c121 => ?_)
                        · refine T.set 121 (.bool true) (congrArg Value.bool c121) ?_
                          have hZ121 := hTc4.trans c121
                          try simp only [or_f, or_t, and_f, and_t, decide_eq_true_eq, decide_eq_false_iff_not, Bool.not_eq_true'] at hZ121
                          refine T.seq ?_
                          refine T.region ?_
                          refine R.asE rfl (by conv => lhs; whnf) ?_
                          refine TL.nil (Post.thnN ?_)
                          refine T.has Has.nil ?_
                          refine T.ret (Post.thnR (Post.thnR (Post.blkR (Post.thnR (Post.thnR (Post.blkR (Post.thnR ?_)))))))
                          have hXl2 : windroselaw02_AllocLives_l2 a1 0 ((([] : List (Int × Int)), ([] : List (Int × Bool)), r28.1.1, r28.1.2.1, r28.1.2.2)) = .ret (.ret false) := by subst er52; subst er45; rw [← hQl2, drop_cons hyl2, windroselaw02_AllocLives_l2]; rw [if_neg c43, LR.seq_go, if_pos c49, LR.seq_go, hTc3, LR.seq_go, if_f c72, if_neg c74, hTc4, LR.seq_go, if_t c121]
                          have hM : windroselaw02_AllocLives_m a0 a1 = false := by subst er28; rw [windroselaw02_AllocLives_m, if_f c21, LR.seq_go, if_neg c32, hXl2, LR.on_ret, LR.on_ret]
                          exact fin1L (v := .bool false) [] rfl rfl (List.Sublist.refl _) ⟨rfl, by first | rw [hM] | rfl⟩
                        · refine T.set 121 (.bool false) (congrArg Value.bool c121) ?_
                          have hZ121 := hTc4.trans c121
                          try simp only [or_f, or_t, and_f, and_t, decide_eq_true_eq, decide_eq_false_iff_not, Bool.not_eq_true'] at hZ121
                          refine T.skip (Post.thnN ?_)
                          refine T.seq ?_
                          refine T.region ?_
                          refine R.mvE rfl (by conv => lhs; whnf) ?_
                          refine R.mvE rfl (by conv => lhs; whnf) ?_
                          refine R.mupV (f := (fun z : Bool => Value.bool z)) (v := true) Tryd.underlying48 Tryd.underlying32 rfl rfl rfl rfl (.tl .hd) wM33l2 ?_
                          intro esu33_17 clu33_17 wu33_17
                          refine TL.nil (Post.thnN ?_)
                          refine T.seq ?_
                          refine T.region ?_
                          refine R.ldXH (cs := [.int .i64 (r52.1.1), .slice A52_0_1 r52.1.2.1.length p52_0_1, .slice A52_0_2 r52.1.2.2.length p52_0_2]) (l := [.int .i64 (r52.1.1), .slice A52_0_1 r52.1.2.1.length p52_0_1, .slice A52_0_2 r52.1.2.2.length p52_0_2]) Tryd.isAgg25 Tryd.sizeOf25 rfl rfl ((s_c3.trans s_c4) _ _ hb13_5) rfl rfl ?_
                          refine R.stX (old := [.int .i64 nb5l2_0, .slice Ab5l2_1 xb5l2_1.length pb5l2_1, .slice Ab5l2_2 xb5l2_2.length pb5l2_2]) (l := [.int .i64 (r52.1.1), .slice A52_0_1 r52.1.2.1.length p52_0_1, .slice A52_0_2 r52.1.2.2.length p52_0_2]) (new := [.int .i64 (r52.1.1), .slice A52_0_1 r52.1.2.1.length p52_0_1, .slice A52_0_2 r52.1.2.2.length p52_0_2]) (et := 25) Tryd.sizeOf25 rfl rfl rfl rfl rfl (by show 0 + 3 ≤ 3; decide) rfl (all_one rfl) (.tl (.tl .hd)) ?_
                          refine TL.nil (Post.thnN ?_)
                          refine T.exit (Post.thnE (Post.blkX ?_))
                          refine id (Post.thnN ?_)
                          refine T.region ?_
                          refine R.addI rfl rfl rfl (by omega) ?_
                          refine R.mvE rfl (by conv => lhs; whnf) ?_
                          refine TL.nil (Post.thnN ?_)
                          exact ⟨(kl2 + 1, (mpu xM34l2 ((Int.tmod r52.2.1 4294967296)) ((IntKind.i64.wrap (((mlk xM34l2 ((Int.tmod r52.2.1 4294967296))).getD (0 : Int)) + 1)))), esu34_16, clu34_16, (mpu xM33l2 r52.2.1 true), esu33_17, clu33_17, r52.1.1, .slice A52_0_1 r52.1.2.1.length p52_0_1, r52.1.2.1, .slice A52_0_2 r52.1.2.2.length p52_0_2, r52.1.2.2), (s_l2.trans (s45.trans (s52.trans (sF52_0_1_3.trans (sF52_0_2_4.trans (sb13_5.trans (s_c3.trans s_c4))))))), ⟨(by omega), (Has.cons (.tl .hd) (Has.cons .hd (Has.cons .hd Has.nil))), wu34_16, wu33_17, (fF52_0_1_3.mono (sF52_0_2_4.trans (sb13_5.trans (s_c3.trans s_c4)))), (fF52_0_2_4.mono (sb13_5.trans (s_c3.trans s_c4))), (by first | exact hBl2_0 | (show Rt r52.1; rw [er52]; exact take_m_rt hBl2_0 (by rw [← er52]; omega)) | (show Rt r144.1; rw [er144]; exact give_m_rt hBl2_0 (by rw [← er144]; have := hZ167.1; omega))), (by subst er52; subst er45; rw [← hQl2, drop_cons hyl2, windroselaw02_AllocLives_l2]; rw [if_neg c43, LR.seq_go, if_pos c49, LR.seq_go, hTc3, LR.seq_go, if_f c72, if_neg c74, hTc4, LR.seq_go, if_f c121])⟩, by show a1.length - (kl2 + 1) < a1.length - kl2; omega, rfl, rfl, rfl, rfl, rfl, rfl, trivial⟩
              · refine T.set 49 (.bool false) (congrArg Value.bool (decide_eq_false c49)) ?_
                refine T.skip (Post.thnN ?_)
                refine T.seq ?_
                refine T.seq ?_
                refine T.region ?_
                refine R.mvE rfl (by conv => lhs; whnf) ?_
                refine R.len Tryd.underlying29 rfl rfl ?_
                refine R.eql rfl rfl rfl ?_
                refine TL.nil (Post.thnN ?_)
                refine T.condD rfl (fun c127 => ?_) (fun c127 => ?_)
                · refine T.set 127 (.bool true) (congrArg Value.bool (decide_eq_true c127)) ?_
                  refine T.exit (Post.thnE (Post.blkX ?_))
                  refine id (Post.thnN ?_)
                  refine T.region ?_
                  refine R.addI rfl rfl rfl (by omega) ?_
                  refine R.mvE rfl (by conv => lhs; whnf) ?_
                  refine TL.nil (Post.thnN ?_)
                  exact ⟨(kl2 + 1, xM34l2, esM34l2, clM34l2, xM33l2, esM33l2, clM33l2, nb5l2_0, .slice Ab5l2_1 xb5l2_1.length pb5l2_1, xb5l2_1, .slice Ab5l2_2 xb5l2_2.length pb5l2_2, xb5l2_2), (s_l2.trans s45), ⟨(by omega), (Has.cons (.tl .hd) (Has.cons (.tl .hd) (Has.cons (.tl .hd) Has.nil))), wM34l2, wM33l2, (wb5l2_1.mono s45), (wb5l2_2.mono s45), (by first | exact hBl2_0 | (show Rt r52.1; rw [er52]; exact take_m_rt hBl2_0 (by rw [← er52]; omega)) | (show Rt r144.1; rw [er144]; exact give_m_rt hBl2_0 (by rw [← er144]; have := hZ167.1; omega))), (by subst er45; rw [← hQl2, drop_cons hyl2, windroselaw02_AllocLives_l2]; rw [if_neg c43, LR.seq_go, if_neg c49, if_pos c127])⟩, by show a1.length - (kl2 + 1) < a1.length - kl2; omega, rfl, rfl, rfl, rfl, rfl, rfl, trivial⟩
                · refine T.set 127 (.bool false) (congrArg Value.bool (decide_eq_false c127)) ?_
                  refine T.skip (Post.thnN ?_)
                  refine T.seq ?_
                  have hpk := pick_rng yl2 (n := r45.length) (by omega) (by omega)
                  refine T.region ?_
                  refine R.mvE rfl (by conv => lhs; whnf) ?_
                  refine R.mvE rfl (by conv => lhs; whnf) ?_
                  refine R.conv Tryd.underlying3 Tryd.underlying47 rfl rfl ?_
                  refine R.mvE rfl (by conv => lhs; whnf) ?_
                  refine R.len Tryd.underlying29 rfl rfl ?_
                  refine R.subI rfl rfl rfl (by omega) ?_
                  refine R.conv Tryd.underlying3 Tryd.underlying47 rfl rfl ?_
                  refine R.rem rfl rfl rfl (by omega) ?_
                  refine R.conv Tryd.underlying47 Tryd.underlying3 rfl rfl ?_
                  refine R.add rfl rfl rfl ?_
                  refine TL.shut .hd ?_
                  intro HF45_0_0_6 sF45_0_0_6 qF45_0_0_6
                  have fF45_0_0_6 := OwnS.read w45_0_0 sF45_0_0_6 qF45_0_0_6
                  have hl138 : ((IntKind.i64.wrap (2 + (IntKind.i64.wrap (Int.tmod (IntKind.u64.wrap yl2) (IntKind.u64.wrap ((r45.length : Int) - 2))))))).toNat < r45.length := by first | omega | (simp; done) | (simp; omega) | (simp at *; omega)
                  obtain ⟨y138, e138, h138⟩ : ∃ y, y = (r45.getD (((IntKind.i64.wrap (2 + (IntKind.i64.wrap (Int.tmod (IntKind.u64.wrap yl2) (IntKind.u64.wrap ((r45.length : Int) - 2))))))).toNat) (0 : Int)) ∧ r45[((IntKind.i64.wrap (2 + (IntKind.i64.wrap (Int.tmod (IntKind.u64.wrap yl2) (IntKind.u64.wrap ((r45.length : Int) - 2))))))).toNat]? = some y := ⟨_, rfl, getD_get (by first | exact hl138 | simpa using hl138 | (rw [(sortI_perm _).length_eq]; exact hl138))⟩
                  obtain ⟨b138, o138, i138, k138⟩ := RdS.elem fF45_0_0_6 h138
                  obtain ⟨l138, g138, k138⟩ := k138
                  obtain rfl : l138 = [.int .u64 y138] := g138
                  refine R.ixp Tryd.underlying29 Tryd.sizeOf32 rfl rfl rfl (by first | omega | (simp; done) | (simp; omega) | (simp at *; omega)) i138 ?_
                  refine R.ldC Tryd.isAgg32 rfl rfl (k138 0 _ rfl) ?_
                  refine R.asE rfl (by conv => lhs; whnf) ?_
                  refine TL.nil (Post.thnN ?_)
                  refine T.seq ?_
                  refine T.region ?_
                  refine R.ldX (cs := [.int .i64 nb5l2_0, .slice Ab5l2_1 xb5l2_1.length pb5l2_1, .slice Ab5l2_2 xb5l2_2.length pb5l2_2]) (l := [.int .i64 nb5l2_0, .slice Ab5l2_1 xb5l2_1.length pb5l2_1, .slice Ab5l2_2 xb5l2_2.length pb5l2_2]) Tryd.isAgg25 Tryd.sizeOf25 rfl rfl (.tl (.tl .hd)) rfl rfl ?_
                  refine R.mvE rfl (by conv => lhs; whnf) ?_
                  refine R.bs rfl (run_buildSlice1 Tryd.underlying29 Tryd.sizeOf32 Tryd.zeroValue32 rfl rfl) ?_
                  intro b143
                  have w143 : OwnS (intE .u64) 32 HF45_0_0_6 (.slice (some ⟨b143, 0, none⟩) 1 1) [y138] [(b143, .cells #[.int .u64 y138] 32)] := OwnS.lit (xs := [y138]) (cellsOf_cons (a := [.int .u64 y138]) rfl cellsOf_nil) (by show 1 ≤ maxLen; decide)
                  refine TL.shut .hd ?_
                  intro HF143_7 sF143_7 qF143_7
                  have fF143_7 := OwnS.read w143 sF143_7 qF143_7
                  obtain ⟨r144, er144⟩ : ∃ r, r = (alloc_Give_m ((nb5l2_0, xb5l2_1, xb5l2_2)) [y138]) := ⟨_, rfl⟩
                  refine TL.call [] rfl rfl rfl (alloc_Give_c _ ((s28.trans (sF28_0_1_1.trans (sF28_0_2_2.trans (s_l2.trans (s45.trans (sF45_0_0_6.trans sF143_7)))))) _ _ hG0) ((nb5l2_0, xb5l2_1, xb5l2_2)) _ (wb5l2_1.mono (s45.trans (sF45_0_0_6.trans sF143_7))) _ (wb5l2_2.mono (s45.trans (sF45_0_0_6.trans sF143_7))) _ [y138] fF143_7 (by first | omega | (simp; done) | (simp; omega) | (simp at *; omega)) (by first | omega | (simp; done) | (simp; omega) | (simp at *; omega)) (by first | omega | (simp; done) | (simp; omega) | (simp at *; omega))) ?_
                  intro v144 H144 L144 s144 q144
                  rw [← er144] at q144
                  obtain ⟨u144_0_1, u144_0_2, c144_0_1, c144_0_2, rfl, rfl, w144_0_1, w144_0_2⟩ := q144
                  obtain ⟨A144_0_1, p144_0_1, rfl, m144_0_1, n144_0_1⟩ := OwnS.shape w144_0_1
                  obtain ⟨A144_0_2, p144_0_2, rfl, m144_0_2, n144_0_2⟩ := OwnS.shape w144_0_2
                  have tt144 : r144.1.2.1.length ≤ 1100000 ∧ r144.1.2.2.length ≤ 1100000 := by rw [er144]; exact give_len (by first | omega | (simp; done) | (simp; omega) | (simp at *; omega)) (by first | omega | (simp; done) | (simp; omega) | (simp at *; omega)) (by first | omega | (simp; done) | (simp; omega) | (simp at *; omega))
                  refine R.mvE rfl (by conv => lhs; whnf) ?_
                  refine R.ext rfl rfl rfl ?_
                  refine R.ext rfl rfl rfl ?_
                  refine R.alloc Tryd.zeroValue25 rfl ?_
                  intro b18
                  refine R.stX (old := [.int .i64 0, .slice none 0 0, .slice none 0 0]) (l := [.int .i64 (r144.1.1), .slice A144_0_1 r144.1.2.1.length p144_0_1, .slice A144_0_2 r144.1.2.2.length p144_0_2]) (new := [.int .i64 (r144.1.1), .slice A144_0_1 r144.1.2.1.length p144_0_1, .slice A144_0_2 r144.1.2.2.length p144_0_2]) (et := 25) Tryd.sizeOf25 rfl rfl rfl rfl rfl (by show 0 + 3 ≤ 3; decide) rfl (all_one rfl) .hd ?_
                  refine R.asE rfl (by conv => lhs; whnf) ?_
                  refine TL.shut (.tl .hd) ?_
                  intro HF144_0_1_8 sF144_0_1_8 qF144_0_1_8
                  have fF144_0_1_8 := OwnS.read w144_0_1 sF144_0_1_8 qF144_0_1_8
                  refine TL.shut (.tl .hd) ?_
                  intro HF144_0_2_9 sF144_0_2_9 qF144_0_2_9
                  have fF144_0_2_9 := OwnS.read (OwnS.mono w144_0_2 sF144_0_1_8) sF144_0_2_9 qF144_0_2_9
                  refine TL.shut .hd ?_
                  intro Hb18_10 sb18_10 qb18_10
                  have hb18_10 : Hb18_10 b18 = some (.cells #[.int .i64 (r144.1.1), .slice A144_0_1 r144.1.2.1.length p144_0_1, .slice A144_0_2 r144.1.2.2.length p144_0_2] 25) := shut1 qb18_10
                  refine TL.nil (Post.thnN ?_)
                  refine T.seq ?_
                  refine T.seq ?_
                  refine T.cutK (ι := Bool) (fun b167c5 H' L' ds' => Has L' [[(b34, .map esM34l2 clM34l2)], [(b33, .map esM33l2 clM33l2)], [(b5, .cells #[.int .i64 nb5l2_0, .slice Ab5l2_1 xb5l2_1.length pb5l2_1, .slice Ab5l2_2 xb5l2_2.length pb5l2_2] 25)]] ∧ (if r144.2 ≠ 0 then true else (if (alloc_Alive_m r144.1 y138) = true then true else (LR.seq (alloc_All_m r144.1) (fun r156 => if (r156.length : Int) ≠ ((r45.length : Int) - 1) then true else ((decide (((alloc_Check_m r144.1) : Int) ≠ 0)))))) : Bool) = b167c5) (fun b167c5 => [(5, .pointer (some ⟨b5, 0, none⟩)), (7, .map (some b33)), (8, .map (some b34)), (18, .pointer (some ⟨b18, 0, none⟩)), (35, .slice Aa1 a1.length ca1), (36, .int .i64 (a1.length : Int)), (37, .int .i64 (kl2 : Int)), (167, .bool (b167c5))]) ?_ ?_
                  · refine T.region ?_
                    refine R.mvE rfl (by conv => lhs; whnf) ?_
                    refine R.neq rfl rfl rfl ?_
                    refine R.mvE rfl (by conv => lhs; whnf) ?_
                    refine TL.gsplitD 149 rfl (fun g149 => ?_) (fun g149 => ?_)
                    · refine TL.off rfl rfl rfl ?_
                      refine TL.off rfl rfl rfl ?_
                      refine TL.off rfl rfl rfl ?_
                      refine R.pkTE rfl rfl (by conv => lhs; whnf) ?_
                      refine R.mvE rfl (by conv => lhs; whnf) ?_
                      refine TL.off rfl rfl rfl ?_
                      refine TL.off rfl rfl rfl ?_
                      refine TL.off rfl rfl rfl ?_
                      refine TL.off rfl rfl rfl ?_
                      refine TL.off rfl rfl rfl ?_
                      refine TL.off rfl rfl rfl ?_
                      refine TL.off rfl rfl rfl ?_
                      refine R.pkTE rfl rfl (by conv => lhs; whnf) ?_
                      refine R.mvE rfl (by conv => lhs; whnf) ?_
                      refine TL.off rfl rfl rfl ?_
                      refine TL.off rfl rfl rfl ?_
                      refine TL.off rfl rfl rfl ?_
                      refine R.pkTE rfl rfl (by conv => lhs; whnf) ?_
                      refine TL.nil (Post.thnN ?_)
                      exact ⟨true, HLe.refl _, ⟨(Has.cons .hd (Has.cons .hd (Has.cons .hd Has.nil))), (by rw [if_pos g149])⟩, rfl, rfl, rfl, rfl, rfl, rfl, rfl, rfl, trivial⟩
                    · refine R.ldXH (cs := [.int .i64 (r144.1.1), .slice A144_0_1 r144.1.2.1.length p144_0_1, .slice A144_0_2 r144.1.2.2.length p144_0_2]) (l := [.int .i64 (r144.1.1), .slice A144_0_1 r144.1.2.1.length p144_0_1, .slice A144_0_2 r144.1.2.2.length p144_0_2]) Tryd.isAgg25 Tryd.sizeOf25 rfl rfl hb18_10 rfl rfl ?_
                      refine R.mvE rfl (by conv => lhs; whnf) ?_
                      refine R.callv rfl rfl rfl (alloc_Alive_c _ ((s28.trans (sF28_0_1_1.trans (sF28_0_2_2.trans (s_l2.trans (s45.trans (sF45_0_0_6.trans (sF143_7.trans (s144.trans (sF144_0_1_8.trans (sF144_0_2_9.trans sb18_10)))))))))) _ _ hG0) r144.1 _ (fF144_0_1_8.mono (sF144_0_2_9.trans sb18_10)) _ (fF144_0_2_9.mono sb18_10) (y138) (by first | omega | (simp; done) | (simp; omega) | (simp at *; omega)) (by first | omega | (simp; done) | (simp; omega) | (simp at *; omega))) ?_
                      refine R.pkFE rfl rfl (by conv => lhs; whnf) ?_
                      refine R.mvE rfl (by conv => lhs; whnf) ?_
                      refine TL.gsplit 154 rfl (fun g154 => ?_) (fun g154 => ?_)
                      · refine TL.off rfl rfl rfl ?_
                        refine TL.off rfl rfl rfl ?_
                        refine TL.off rfl rfl rfl ?_
                        refine TL.off rfl rfl rfl ?_
                        refine TL.off rfl rfl rfl ?_
                        refine TL.off rfl rfl rfl ?_
                        refine TL.off rfl rfl rfl ?_
                        refine R.pkTE rfl rfl (by conv => lhs; whnf) ?_
                        refine R.mvE rfl (by conv => lhs; whnf) ?_
                        refine TL.off rfl rfl rfl ?_
                        refine TL.off rfl rfl rfl ?_
                        refine TL.off rfl rfl rfl ?_
                        refine R.pkTE rfl rfl (by conv => lhs; whnf) ?_
                        refine TL.nil (Post.thnN ?_)
                        exact ⟨true, HLe.refl _, ⟨(Has.cons .hd (Has.cons .hd (Has.cons .hd Has.nil))), (by rw [if_neg g149, if_t g154])⟩, rfl, rfl, rfl, rfl, rfl, rfl, rfl, rfl, trivial⟩
                      · refine R.ldXH (cs := [.int .i64 (r144.1.1), .slice A144_0_1 r144.1.2.1.length p144_0_1, .slice A144_0_2 r144.1.2.2.length p144_0_2]) (l := [.int .i64 (r144.1.1), .slice A144_0_1 r144.1.2.1.length p144_0_1, .slice A144_0_2 r144.1.2.2.length p144_0_2]) Tryd.isAgg25 Tryd.sizeOf25 rfl rfl hb18_10 rfl rfl ?_
                        obtain ⟨r156, er156⟩ : ∃ r, r = (alloc_All_m r144.1) := ⟨_, rfl⟩
                        refine TL.call [] rfl rfl rfl (alloc_All_c _ ((s28.trans (sF28_0_1_1.trans (sF28_0_2_2.trans (s_l2.trans (s45.trans (sF45_0_0_6.trans (sF143_7.trans (s144.trans (sF144_0_1_8.trans (sF144_0_2_9.trans sb18_10)))))))))) _ _ hG0) r144.1 _ (fF144_0_1_8.mono (sF144_0_2_9.trans sb18_10)) _ (fF144_0_2_9.mono sb18_10) (by first | omega | (simp; done) | (simp; omega) | (simp at *; omega)) (by first | omega | (simp; done) | (simp; omega) | (simp at *; omega))) ?_
                        intro v156 H156 L156 s156 q156
                        rw [← er156] at q156
                        obtain ⟨u156_0_0, c156_0_0, rfl, rfl, w156_0_0⟩ := q156
                        obtain ⟨A156_0_0, p156_0_0, rfl, m156_0_0, n156_0_0⟩ := OwnS.shape w156_0_0
                        have ta156 : r156.length ≤ 2000000 := by rw [er156]; exact all_len (by first | omega | (simp; done) | (simp; omega) | (simp at *; omega))
                        refine R.len Tryd.underlying29 rfl rfl ?_
                        refine R.mvE rfl (by conv => lhs; whnf) ?_
                        refine R.len Tryd.underlying29 rfl rfl ?_
                        refine R.subI rfl rfl rfl (by omega) ?_
                        refine R.neq rfl rfl rfl ?_
                        refine R.pkFE rfl rfl (by conv => lhs; whnf) ?_
                        refine R.mvE rfl (by conv => lhs; whnf) ?_
                        refine TL.gsplitD 163 rfl (fun g163 => ?_) (fun g163 => ?_)
                        · refine TL.off rfl rfl rfl ?_
                          refine TL.off rfl rfl rfl ?_
                          refine TL.off rfl rfl rfl ?_
                          refine R.pkTE rfl rfl (by conv => lhs; whnf) ?_
                          refine TL.nil (Post.thnN ?_)
                          exact ⟨true, s156, ⟨(Has.cons (.tl .hd) (Has.cons (.tl .hd) (Has.cons (.tl .hd) Has.nil))), (by subst er156; rw [if_neg g149, if_f g154, LR.seq_go, if_pos g163])⟩, rfl, rfl, rfl, rfl, rfl, rfl, rfl, rfl, trivial⟩
                        · refine R.ldXH (cs := [.int .i64 (r144.1.1), .slice A144_0_1 r144.1.2.1.length p144_0_1, .slice A144_0_2 r144.1.2.2.length p144_0_2]) (l := [.int .i64 (r144.1.1), .slice A144_0_1 r144.1.2.1.length p144_0_1, .slice A144_0_2 r144.1.2.2.length p144_0_2]) Tryd.isAgg25 Tryd.sizeOf25 rfl rfl (s156 _ _ hb18_10) rfl rfl ?_
                          refine R.callv rfl rfl rfl (alloc_Check_c _ ((s28.trans (sF28_0_1_1.trans (sF28_0_2_2.trans (s_l2.trans (s45.trans (sF45_0_0_6.trans (sF143_7.trans (s144.trans (sF144_0_1_8.trans (sF144_0_2_9.trans (sb18_10.trans s156))))))))))) _ _ hG0) r144.1 _ (fF144_0_1_8.mono (sF144_0_2_9.trans (sb18_10.trans s156))) _ (fF144_0_2_9.mono (sb18_10.trans s156)) (by first | omega | (simp; done) | (simp; omega) | (simp at *; omega)) (by first | omega | (simp; done) | (simp; omega) | (simp at *; omega))) ?_
                          refine R.neq rfl rfl rfl ?_
                          refine R.pkFE rfl rfl (by conv => lhs; whnf) ?_
                          refine TL.nil (Post.thnN ?_)
                          exact ⟨(decide (((alloc_Check_m r144.1) : Int) ≠ 0)), s156, ⟨(Has.cons (.tl .hd) (Has.cons (.tl .hd) (Has.cons (.tl .hd) Has.nil))), (by subst er156; rw [if_neg g149, if_f g154, LR.seq_go, if_neg g163])⟩, rfl, rfl, rfl, rfl, rfl, rfl, rfl, rfl, trivial⟩
                  · intro b167c5 σ_c5 H_c5 L_c5 ds_c5 s_c5 hI_c5
                    obtain ⟨hLc5, hTc5⟩ := hI_c5
                    refine T.has hLc5 ?_
                    refine T.cond rfl (fun c167 => ?_) (fun c167 => ?_)
                    · refine T.set 167 (.bool true) (congrArg Value.bool c167) ?_
                      have hZ167 := hTc5.trans c167
                      try simp only [or_f, or_t, and_f, and_t, decide_eq_true_eq, decide_eq_false_iff_not, Bool.not_eq_true'] at hZ167
                      refine T.seq ?_
                      refine T.region ?_
                      refine R.asE rfl (by conv => lhs; whnf) ?_
                      refine TL.nil (Post.thnN ?_)
                      refine T.has Has.nil ?_
                      refine T.ret (Post.thnR (Post.blkR (Post.thnR (Post.thnR (Post.blkR (Post.thnR ?_))))))
                      have hXl2 : windroselaw02_AllocLives_l2 a1 0 ((([] : List (Int × Int)), ([] : List (Int × Bool)), r28.1.1, r28.1.2.1, r28.1.2.2)) = .ret (.ret false) := by subst er144; subst e138; subst er45; rw [← hQl2, drop_cons hyl2, windroselaw02_AllocLives_l2]; rw [if_neg c43, LR.seq_go, if_neg c49, if_neg c127, LR.seq_go, hTc5, LR.seq_go, if_t c167]
                      have hM : windroselaw02_AllocLives_m a0 a1 = false := by subst er28; rw [windroselaw02_AllocLives_m, if_f c21, LR.seq_go, if_neg c32, hXl2, LR.on_ret, LR.on_ret]
                      exact fin1L (v := .bool false) [] rfl rfl (List.Sublist.refl _) ⟨rfl, by first | rw [hM] | rfl⟩
                    · refine T.set 167 (.bool false) (congrArg Value.bool c167) ?_
                      have hZ167 := hTc5.trans c167
                      try simp only [or_f, or_t, and_f, and_t, decide_eq_true_eq, decide_eq_false_iff_not, Bool.not_eq_true'] at hZ167
                      refine T.skip (Post.thnN ?_)
                      refine T.region ?_
                      refine R.ldXH (cs := [.int .i64 (r144.1.1), .slice A144_0_1 r144.1.2.1.length p144_0_1, .slice A144_0_2 r144.1.2.2.length p144_0_2]) (l := [.int .i64 (r144.1.1), .slice A144_0_1 r144.1.2.1.length p144_0_1, .slice A144_0_2 r144.1.2.2.length p144_0_2]) Tryd.isAgg25 Tryd.sizeOf25 rfl rfl (s_c5 _ _ hb18_10) rfl rfl ?_
                      refine R.stX (old := [.int .i64 nb5l2_0, .slice Ab5l2_1 xb5l2_1.length pb5l2_1, .slice Ab5l2_2 xb5l2_2.length pb5l2_2]) (l := [.int .i64 (r144.1.1), .slice A144_0_1 r144.1.2.1.length p144_0_1, .slice A144_0_2 r144.1.2.2.length p144_0_2]) (new := [.int .i64 (r144.1.1), .slice A144_0_1 r144.1.2.1.length p144_0_1, .slice A144_0_2 r144.1.2.2.length p144_0_2]) (et := 25) Tryd.sizeOf25 rfl rfl rfl rfl rfl (by show 0 + 3 ≤ 3; decide) rfl (all_one rfl) (.tl (.tl .hd)) ?_
                      refine TL.nil (Post.blkN ?_)
                      refine id (Post.thnN ?_)
                      refine T.region ?_
                      refine R.addI rfl rfl rfl (by omega) ?_
                      refine R.mvE rfl (by conv => lhs; whnf) ?_
                      refine TL.nil (Post.thnN ?_)
                      exact ⟨(kl2 + 1, xM34l2, esM34l2, clM34l2, xM33l2, esM33l2, clM33l2, r144.1.1, .slice A144_0_1 r144.1.2.1.length p144_0_1, r144.1.2.1, .slice A144_0_2 r144.1.2.2.length p144_0_2, r144.1.2.2), (s_l2.trans (s45.trans (sF45_0_0_6.trans (sF143_7.trans (s144.trans (sF144_0_1_8.trans (sF144_0_2_9.trans (sb18_10.trans s_c5)))))))), ⟨(by omega), (Has.cons .hd (Has.cons .hd (Has.cons .hd Has.nil))), wM34l2, wM33l2, (fF144_0_1_8.mono (sF144_0_2_9.trans (sb18_10.trans s_c5))), (fF144_0_2_9.mono (sb18_10.trans s_c5)), (by first | exact hBl2_0 | (show Rt r52.1; rw [er52]; exact take_m_rt hBl2_0 (by rw [← er52]; omega)) | (show Rt r144.1; rw [er144]; exact give_m_rt hBl2_0 (by rw [← er144]; have := hZ167.1; omega))), (by subst er144; subst e138; subst er45; rw [← hQl2, drop_cons hyl2, windroselaw02_AllocLives_l2]; rw [if_neg c43, LR.seq_go, if_neg c49, if_neg c127, LR.seq_go, hTc5, LR.seq_go, if_f c167])⟩, by show a1.length - (kl2 + 1) < a1.length - kl2; omega, rfl, rfl, rfl, rfl, rfl, rfl, trivial⟩
          · refine T.exit (Post.thnE (Post.thnE (Post.blkX ?_)))
            have hEl2 : windroselaw02_AllocLives_l2 a1 0 ((([] : List (Int × Int)), ([] : List (Int × Bool)), r28.1.1, r28.1.2.1, r28.1.2.2)) = .go ((nb5l2_0, xb5l2_1, xb5l2_2)) := (hQl2.symm.trans (by rw [show kl2 = a1.length by omega, List.drop_length, windroselaw02_AllocLives_l2]))
            refine id (Post.thnN ?_)
            exact ⟨(nb5l2_0, .slice Ab5l2_1 xb5l2_1.length pb5l2_1, xb5l2_1, .slice Ab5l2_2 xb5l2_2.length pb5l2_2, xb5l2_2), s_l2, ⟨(Has.cons (.tl (.tl .hd)) Has.nil), wb5l2_1, wb5l2_2, (by exact hBl2_0), (by rw [hEl2, LR.on_go])⟩, rfl, trivial⟩
      · intro ⟨nb5c1_0, vb5c1_1, xb5c1_1, vb5c1_2, xb5c1_2⟩ σ_c1 H_c1 L_c1 ds_c1 s_c1 hI_c1
        obtain ⟨hLc1, wb5c1_1, wb5c1_2, hBc1_0, hTc1⟩ := hI_c1
        obtain ⟨Ab5c1_1, pb5c1_1, rfl, mb5c1_1, nb5c1_1_, wb5c1_1⟩ := RdS.shape wb5c1_1
        obtain ⟨Ab5c1_2, pb5c1_2, rfl, mb5c1_2, nb5c1_2_, wb5c1_2⟩ := RdS.shape wb5c1_2
        refine T.has hLc1 ?_
        have hln := hBc1_0.lens
        simp only at hln
        refine T.seq ?_
        refine T.region ?_
        refine R.ldX (cs := [.int .i64 nb5c1_0, .slice Ab5c1_1 xb5c1_1.length pb5c1_1, .slice Ab5c1_2 xb5c1_2.length pb5c1_2]) (l := [.int .i64 nb5c1_0, .slice Ab5c1_1 xb5c1_1.length pb5c1_1, .slice Ab5c1_2 xb5c1_2.length pb5c1_2]) Tryd.isAgg25 Tryd.sizeOf25 rfl rfl .hd rfl rfl ?_
        refine R.callv rfl rfl rfl (alloc_Alive_c _ ((s28.trans (sF28_0_1_1.trans (sF28_0_2_2.trans s_c1))) _ _ hG0) ((nb5c1_0, xb5c1_1, xb5c1_2)) _ wb5c1_1 _ wb5c1_2 (1) (by first | omega | (simp; done) | (simp; omega) | (simp at *; omega)) (by first | omega | (simp; done) | (simp; omega) | (simp at *; omega))) ?_
        refine R.mvE rfl (by conv => lhs; whnf) ?_
        refine TL.gsplit 172 rfl (fun g172 => ?_) (fun g172 => ?_)
        · refine R.ldX (cs := [.int .i64 nb5c1_0, .slice Ab5c1_1 xb5c1_1.length pb5c1_1, .slice Ab5c1_2 xb5c1_2.length pb5c1_2]) (l := [.int .i64 nb5c1_0, .slice Ab5c1_1 xb5c1_1.length pb5c1_1, .slice Ab5c1_2 xb5c1_2.length pb5c1_2]) Tryd.isAgg25 Tryd.sizeOf25 rfl rfl .hd rfl rfl ?_
          refine R.callv rfl rfl rfl (alloc_Alive_c _ ((s28.trans (sF28_0_1_1.trans (sF28_0_2_2.trans s_c1))) _ _ hG0) ((nb5c1_0, xb5c1_1, xb5c1_2)) _ wb5c1_1 _ wb5c1_2 (2) (by first | omega | (simp; done) | (simp; omega) | (simp at *; omega)) (by first | omega | (simp; done) | (simp; omega) | (simp at *; omega))) ?_
          refine R.pkTE rfl rfl (by conv => lhs; whnf) ?_
          refine R.asE rfl (by conv => lhs; whnf) ?_
          refine TL.nil (Post.thnN ?_)
          refine T.has Has.nil ?_
          refine T.ret ?_
          have hM : windroselaw02_AllocLives_m a0 a1 = (alloc_Alive_m ((nb5c1_0, xb5c1_1, xb5c1_2)) 2) := by subst er28; rw [windroselaw02_AllocLives_m, if_f c21, LR.seq_go, if_neg c32, hTc1, LR.on_go, if_t g172]
          exact fin1L (v := .bool ((alloc_Alive_m ((nb5c1_0, xb5c1_1, xb5c1_2)) 2))) [] rfl rfl (List.Sublist.refl _) ⟨rfl, by first | rw [hM] | rfl⟩
        · refine TL.off rfl rfl rfl ?_
          refine TL.off rfl rfl rfl ?_
          refine R.pkFE rfl rfl (by conv => lhs; whnf) ?_
          refine R.asE rfl (by conv => lhs; whnf) ?_
          refine TL.nil (Post.thnN ?_)
          refine T.has Has.nil ?_
          refine T.ret ?_
          have hM : windroselaw02_AllocLives_m a0 a1 = false := by subst er28; rw [windroselaw02_AllocLives_m, if_f c21, LR.seq_go, if_neg c32, hTc1, LR.on_go, if_f g172]
          exact fin1L (v := .bool false) [] rfl rfl (List.Sublist.refl _) ⟨rfl, by first | rw [hM] | rfl⟩

end Go.SX
