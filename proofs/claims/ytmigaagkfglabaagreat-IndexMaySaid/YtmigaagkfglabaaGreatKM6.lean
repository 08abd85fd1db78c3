/- 'IndexMay' answers true, whatever it is handed, and what it is handed reads behind it as it did. -/
import Derived.RangeFuncNested
import Derived.RangeFuncBound
import Derived.RangeFuncCalls
import Derived.RangeFuncLeaves
import Derived.Shelf.Abstract
import Derived.Laws.AppendOwn
import Derived.Laws.OwnMore
import Derived.KernelRfl
import Derived.IntWalk
import Derived.Laws.Append
import Derived.WideLaws
import Derived.Laws.Slices
import Derived.Laws.MakeOwn
import Derived.OrdersIn
import Derived.Laws.Cover3
import Derived.Test.YtmigaagkfglabaaGreatProg
import Derived.Laws.StructEq
import Derived.Shelf.Sort.Plain
import Derived.Sort.OwnSortedInts
import Derived.Shelf.Slices.In.SortNone
import Derived.Maps.RangeRun
import Derived.Lib.AppendZeros
import Derived.Sort.AssemblyPlain
import Derived.Shelf.Small.Bits
import Derived.Sort.Walk7a
import Derived.Laws.Bits64
import Derived.Laws.Bits64b
import Derived.Shelf.Spec.SlicesInsert
import Derived.Shelf.Spec.SlicesInsertGrow
import Derived.ProofKit
import Derived.ChangeSlices
import Derived.Carry
import Derived.Deep.Slices
import Derived.OpenShut
import Derived.Test.YtmigaagkfglabaaGreatRows
import Derived.Test.YtmigaagkfglabaaGreatKM5
set_option linter.unusedVariables false
set_option linter.unusedSimpArgs false
namespace Go.SX
open Go Go.Proofs

def windroseref14_Table_m (a0 : Int) : Bool :=
  if (1 : Int) ≤ a0 then ((decide (a0 ≤ 1048576))) else false
set_option maxHeartbeats 3200000 in
theorem windroseref14_Table_c (H : Heap) (a0 : Int) : Fv Tryz.prog (fnv 12) [.int .i64 a0] H (.bool (windroseref14_Table_m a0)) := by
  refine Fc.of_body (N := 9) Tryz.func12 rfl kA rfl rfl ?_
  intro w0
  refine T.seq ?_
  refine T.region ?_
  refine R.asE rfl cA ?_
  refine TL.nil (Post.thnN ?_)
  refine T.seq ?_
  refine T.region ?_
  refine R.mvE rfl cA ?_
  refine R.geq rfl rfl rfl ?_
  refine R.mvE rfl cA ?_
  refine TL.gsplitD 5 rfl (fun g5 => ?_) (fun g5 => ?_)
  · refine R.mvE rfl cA ?_
    refine R.leq rfl rfl rfl ?_
    refine R.pkTE rfl rfl cA ?_
    refine R.asE rfl cA ?_
    refine TL.nil (Post.thnN ?_)
    refine T.has Has.nil ?_
    refine T.ret ?_
    have hM : windroseref14_Table_m a0 = (decide (a0 ≤ 1048576)) := by rw [windroseref14_Table_m, if_pos g5]
    exact fin1L (v := .bool (decide (a0 ≤ 1048576))) [] rfl rfl (List.Sublist.refl _) ⟨rfl, by first | rw [hM] | rfl⟩
  refine TL.off rfl rfl rfl ?_
  refine TL.off rfl rfl rfl ?_
  refine R.pkFE rfl rfl cA ?_
  refine R.asE rfl cA ?_
  refine TL.nil (Post.thnN ?_)
  refine T.has Has.nil ?_
  refine T.ret ?_
  have hM : windroseref14_Table_m a0 = false := by rw [windroseref14_Table_m, if_neg g5]
  exact fin1L (v := .bool false) [] rfl rfl (List.Sublist.refl _) ⟨rfl, by first | rw [hM] | rfl⟩
def windroseref14_row_l1 (a0 : Int × (List Int)) : List Int → Nat → Unit → LR (Bool) (Unit)
  | [], kl1, sl1 => .go ()
  | yl1 :: ysl1, kl1, sl1 => LR.seq (if (!(windroseref14_Table_m yl1)) = true then true else (if (0 : Int) < (kl1 : Int) then ((decide (yl1 ≤ (a0.2.getD ((((kl1 : Int) - 1)).toNat) (0 : Int))))) else false) : Bool) (fun sc2 => if sc2 = true then (.ret false) else (windroseref14_row_l1 a0 ysl1 (kl1 + 1) ()))
def windroseref14_row_m (a0 : Int × (List Int)) : Bool :=
  LR.on (windroseref14_row_l1 a0 a0.2 0 ()) (fun r => r) (fun ol1 => if (0 : Int) < (a0.2.length : Int) then (if ((windroseref01_Kind_m a0.1) : Int) = 2 then true else (if ((windroseref01_Kind_m a0.1) : Int) = 3 then true else ((decide (((windroseref01_Kind_m a0.1) : Int) = 4))))) else false)
set_option maxHeartbeats 3200000 in
theorem windroseref14_row_c (H : Heap) (a0 : Int × (List Int)) (va0_1 : Value) (ha0_1 : RdS (intE .i64) H va0_1 a0.2) : Fv Tryz.prog (fnv 27) [.agg #[.int .u64 a0.1, va0_1]] H (.bool (windroseref14_row_m a0)) := by
  refine Fc.of_body (N := 51) Tryz.func27 rfl kA rfl rfl ?_
  intro w0
  obtain ⟨Aa0_1, ca0_1, rfl, hca0_1, hda0_1, ha0_1⟩ := ha0_1.shape
  refine T.seq ?_
  refine T.region ?_
  refine R.box rfl cA ?_
  intro b1
  refine R.asE rfl cA ?_
  refine TL.shut .hd ?_
  intro Hb1_1 sb1_1 qb1_1
  have hb1_1 : Hb1_1 b1 = some (.cells #[.int .u64 (a0.1), .slice Aa0_1 a0.2.length ca0_1] 45) := shut1 qb1_1
  refine TL.nil (Post.thnN ?_)
  refine T.seq ?_
  refine T.region ?_
  refine R.fldA Tryz.underlying45 rfl Tryz.sizeOf43 (by decide) rfl rfl ?_
  refine R.ldH Tryz.isAgg43 rfl rfl hb1_1 rfl ?_
  refine R.callv rfl rfl rfl (windroseref01_Kind_c _ (a0.1)) ?_
  refine R.asE rfl cA ?_
  refine TL.nil (Post.thnN ?_)
  refine T.seq ?_
  refine T.seq ?_
  refine T.region ?_
  refine R.fldA Tryz.underlying45 rfl Tryz.sizeOf25 (by decide) rfl rfl ?_
  refine R.ldH Tryz.isAgg25 rfl rfl hb1_1 rfl ?_
  refine R.len Tryz.underlying25 rfl rfl ?_
  refine R.mvE rfl cA ?_
  refine TL.nil (Post.thnN ?_)
  refine T.block ?_
  refine T.loop (ι := Nat) (fun kl1 H' L' ds' => kl1 ≤ a0.2.length ∧ Has L' [] ∧ windroseref14_row_l1 a0 (a0.2.drop kl1) kl1 () = windroseref14_row_l1 a0 a0.2 0 ()) (fun kl1 => [(12, .int .i64 (kl1 : Int)), (1, .pointer (some ⟨b1, 0, none⟩)), (3, .int .i64 (windroseref01_Kind_m a0.1)), (10, .slice Aa0_1 a0.2.length ca0_1), (11, .int .i64 (a0.2.length : Int))]) (fun kl1 => a0.2.length - kl1) 0 ?_ ?_ ?_
  · exact ⟨oA, Has.nil, (by rfl)⟩
  · exact ⟨rfl, rfl, rfl, rfl, rfl, trivial⟩
  intro kl1 σ_l1 H_l1 L_l1 ds_l1 s_l1 hI_l1
  obtain ⟨hkl1, hI_l1⟩ := hI_l1
  obtain ⟨hLl1, hQl1⟩ := hI_l1
  refine T.has hLl1 ?_
  refine T.seq ?_
  refine T.region ?_
  refine R.lss rfl rfl rfl ?_
  refine TL.nil (Post.thnN ?_)
  refine T.seq ?_
  refine T.condD rfl (fun c13 => ?_) (fun c13 => ?_)
  · have hltl1 : kl1 < a0.2.length := by omega
    obtain ⟨yl1, hyl1⟩ := getk (xs := a0.2) (k := kl1) oA
    refine T.skip (Post.thnN ?_)
    refine T.seq ?_
    refine T.block ?_
    refine T.seq ?_
    refine T.region ?_
    refine R.mvE rfl cA ?_
    obtain ⟨b15, o15, i15, k15⟩ := RdS.elem (ha0_1.mono (sb1_1.trans s_l1)) hyl1
    obtain ⟨l15, g15, k15⟩ := k15
    obtain rfl : l15 = [.int .i64 yl1] := g15
    refine R.ixp Tryz.underlying25 Tryz.sizeOf3 rfl rfl rfl oA i15 ?_
    refine R.ldC Tryz.isAgg3 rfl rfl (k15 0 _ rfl) ?_
    refine R.asE rfl cA ?_
    refine R.asE rfl cA ?_
    refine TL.nil (Post.thnN ?_)
    refine T.seq ?_
    refine T.cutK (ι := Bool) (fun b33c2 H' L' ds' => Has L' [] ∧ (if (!(windroseref14_Table_m yl1)) = true then true else (if (0 : Int) < (kl1 : Int) then ((decide (yl1 ≤ (a0.2.getD ((((kl1 : Int) - 1)).toNat) (0 : Int))))) else false) : Bool) = b33c2) (fun b33c2 => [(1, .pointer (some ⟨b1, 0, none⟩)), (3, .int .i64 (windroseref01_Kind_m a0.1)), (10, .slice Aa0_1 a0.2.length ca0_1), (11, .int .i64 (a0.2.length : Int)), (12, .int .i64 (kl1 : Int)), (33, .bool (b33c2))]) ?_ ?_
    · refine T.region ?_
      refine R.mvE rfl cA ?_
      refine R.callv rfl rfl rfl (windroseref14_Table_c _ (yl1)) ?_
      refine R.not rfl rfl ?_
      refine R.mvE rfl cA ?_
      refine TL.gsplit 20 rfl (fun g20 => ?_) (fun g20 => ?_)
      · refine TL.off rfl rfl rfl ?_
        refine TL.off rfl rfl rfl ?_
        refine TL.off rfl rfl rfl ?_
        refine TL.offU rfl rfl ?_
        refine TL.offU rfl rfl ?_
        refine TL.offU rfl rfl ?_
        refine TL.offU rfl rfl ?_
        refine TL.offU rfl rfl ?_
        refine TL.offU rfl rfl ?_
        refine TL.offU rfl rfl ?_
        refine TL.offU rfl rfl ?_
        refine TL.off rfl rfl rfl ?_
        refine R.pkTE rfl rfl cA ?_
        refine TL.nil (Post.thnN ?_)
        exact ⟨true, HLe.refl _, ⟨Has.nil, (by rw [if_t g20])⟩, rfl, rfl, rfl, rfl, rfl, rfl, trivial⟩
      refine R.mvE rfl cA ?_
      refine R.gtr rfl rfl rfl ?_
      refine R.mvE rfl cA ?_
      refine TL.gsplitD 23 rfl (fun g23 => ?_) (fun g23 => ?_)
      · refine R.fldA Tryz.underlying45 rfl Tryz.sizeOf25 (by decide) rfl rfl ?_
        refine R.ldH Tryz.isAgg25 rfl rfl (s_l1 _ _ hb1_1) rfl ?_
        refine R.mvE rfl cA ?_
        refine R.subI rfl rfl rfl oA ?_
        have hl28 : (((kl1 : Int) - 1)).toNat < a0.2.length := bA
        obtain ⟨y28, e28, h28⟩ : ∃ y, y = (a0.2.getD ((((kl1 : Int) - 1)).toNat) (0 : Int)) ∧ a0.2[(((kl1 : Int) - 1)).toNat]? = some y := ⟨_, rfl, getD_get (by first | exact hl28 | simpa using hl28 | (simp only [List.length_set]; omega) | omega | (rw [(sortI_perm _).length_eq]; exact hl28))⟩
        obtain ⟨b28, o28, i28, k28⟩ := RdS.elem (ha0_1.mono (sb1_1.trans s_l1)) h28
        obtain ⟨l28, g28, k28⟩ := k28
        obtain rfl : l28 = [.int .i64 y28] := g28
        refine R.ixp Tryz.underlying25 Tryz.sizeOf3 rfl rfl rfl bA i28 ?_
        refine R.ldC Tryz.isAgg3 rfl rfl (k28 0 _ rfl) ?_
        refine R.mvE rfl cA ?_
        refine R.geq rfl rfl rfl ?_
        refine R.pkTE rfl rfl cA ?_
        refine R.pkFE rfl rfl cA ?_
        refine TL.nil (Post.thnN ?_)
        exact ⟨(decide (yl1 ≤ y28)), HLe.refl _, ⟨Has.nil, (by subst e28; rw [if_f g20, if_pos g23])⟩, rfl, rfl, rfl, rfl, rfl, rfl, trivial⟩
      refine TL.off rfl rfl rfl ?_
      refine TL.off rfl rfl rfl ?_
      refine TL.off rfl rfl rfl ?_
      refine TL.off rfl rfl rfl ?_
      refine TL.off rfl rfl rfl ?_
      refine TL.off rfl rfl rfl ?_
      refine TL.off rfl rfl rfl ?_
      refine TL.off rfl rfl rfl ?_
      refine R.pkFE rfl rfl cA ?_
      refine R.pkFE rfl rfl cA ?_
      refine TL.nil (Post.thnN ?_)
      exact ⟨false, HLe.refl _, ⟨Has.nil, (by rw [if_f g20, if_neg g23])⟩, rfl, rfl, rfl, rfl, rfl, rfl, trivial⟩
    intro b33c2 σ_c2 H_c2 L_c2 ds_c2 s_c2 hI_c2
    obtain ⟨hLc2, hTc2⟩ := hI_c2
    refine T.has hLc2 ?_
    refine T.cond rfl (fun c33 => ?_) (fun c33 => ?_)
    · refine T.set 33 (.bool true) (congrArg Value.bool c33) ?_
      have hZ33 := hTc2.trans c33
      try simp only [or_f, or_t, and_f, and_t, decide_eq_true_eq, decide_eq_false_iff_not, Bool.not_eq_true'] at hZ33
      refine T.seq ?_
      refine T.region ?_
      refine R.asE rfl cA ?_
      refine TL.nil (Post.thnN ?_)
      refine T.has Has.nil ?_
      refine T.ret (Post.blkR (Post.thnR (Post.thnR (Post.blkR (Post.thnR ?_)))))
      have hXl1 : windroseref14_row_l1 a0 a0.2 0 () = .ret false := by rw [← hQl1, drop_cons hyl1, windroseref14_row_l1]; rw [hTc2, LR.seq_go, if_t c33]
      have hM : windroseref14_row_m a0 = false := by rw [windroseref14_row_m, hXl1, LR.on_ret]
      exact fin1L (v := .bool false) [] rfl rfl (List.Sublist.refl _) ⟨rfl, by first | rw [hM] | rfl⟩
    refine T.set 33 (.bool false) (congrArg Value.bool c33) ?_
    have hZ33 := hTc2.trans c33
    try simp only [or_f, or_t, and_f, and_t, decide_eq_true_eq, decide_eq_false_iff_not, Bool.not_eq_true'] at hZ33
    refine T.skip (Post.blkN ?_)
    refine id (Post.thnN ?_)
    refine T.region ?_
    refine R.addI rfl rfl rfl oA ?_
    refine R.mvE rfl cA ?_
    refine TL.nil (Post.thnN ?_)
    exact ⟨kl1 + 1, (s_l1.trans s_c2), ⟨oA, Has.nil, (by rw [← hQl1, drop_cons hyl1, windroseref14_row_l1]; rw [hTc2, LR.seq_go, if_f c33])⟩, by show a0.2.length - (kl1 + 1) < a0.2.length - kl1; omega, rfl, rfl, rfl, rfl, rfl, trivial⟩
  refine T.exit (Post.thnE (Post.thnE (Post.blkX ?_)))
  have hEl1 : windroseref14_row_l1 a0 a0.2 0 () = .go () := (hQl1.symm.trans (by rw [show kl1 = a0.2.length by omega, List.drop_length, windroseref14_row_l1]))
  refine id (Post.thnN ?_)
  refine T.seq ?_
  refine T.region ?_
  refine R.fldA Tryz.underlying45 rfl Tryz.sizeOf25 (by decide) rfl rfl ?_
  refine R.ldH Tryz.isAgg25 rfl rfl (s_l1 _ _ hb1_1) rfl ?_
  refine R.len Tryz.underlying25 rfl rfl ?_
  refine R.gtr rfl rfl rfl ?_
  refine R.mvE rfl cA ?_
  refine TL.gsplitD 39 rfl (fun g39 => ?_) (fun g39 => ?_)
  · refine R.mvE rfl cA ?_
    refine R.eql rfl rfl rfl ?_
    refine R.mvE rfl cA ?_
    refine TL.gsplitD 42 rfl (fun g42 => ?_) (fun g42 => ?_)
    · refine TL.off rfl rfl rfl ?_
      refine TL.off rfl rfl rfl ?_
      refine R.pkTE rfl rfl cA ?_
      refine R.mvE rfl cA ?_
      refine TL.off rfl rfl rfl ?_
      refine TL.off rfl rfl rfl ?_
      refine R.pkTE rfl rfl cA ?_
      refine R.pkTE rfl rfl cA ?_
      refine R.asE rfl cA ?_
      refine TL.nil (Post.thnN ?_)
      refine T.has Has.nil ?_
      refine T.ret ?_
      have hM : windroseref14_row_m a0 = true := by rw [windroseref14_row_m, hEl1, LR.on_go, if_pos g39, if_pos g42]
      exact fin1L (v := .bool true) [] rfl rfl (List.Sublist.refl _) ⟨rfl, by first | rw [hM] | rfl⟩
    refine R.mvE rfl cA ?_
    refine R.eql rfl rfl rfl ?_
    refine R.pkFE rfl rfl cA ?_
    refine R.mvE rfl cA ?_
    refine TL.gsplitD 46 rfl (fun g46 => ?_) (fun g46 => ?_)
    · refine TL.off rfl rfl rfl ?_
      refine TL.off rfl rfl rfl ?_
      refine R.pkTE rfl rfl cA ?_
      refine R.pkTE rfl rfl cA ?_
      refine R.asE rfl cA ?_
      refine TL.nil (Post.thnN ?_)
      refine T.has Has.nil ?_
      refine T.ret ?_
      have hM : windroseref14_row_m a0 = true := by rw [windroseref14_row_m, hEl1, LR.on_go, if_pos g39, if_neg g42, if_pos g46]
      exact fin1L (v := .bool true) [] rfl rfl (List.Sublist.refl _) ⟨rfl, by first | rw [hM] | rfl⟩
    refine R.mvE rfl cA ?_
    refine R.eql rfl rfl rfl ?_
    refine R.pkFE rfl rfl cA ?_
    refine R.pkTE rfl rfl cA ?_
    refine R.asE rfl cA ?_
    refine TL.nil (Post.thnN ?_)
    refine T.has Has.nil ?_
    refine T.ret ?_
    have hM : windroseref14_row_m a0 = (decide (((windroseref01_Kind_m a0.1) : Int) = 4)) := by rw [windroseref14_row_m, hEl1, LR.on_go, if_pos g39, if_neg g42, if_neg g46]
    exact fin1L (v := .bool (decide (((windroseref01_Kind_m a0.1) : Int) = 4))) [] rfl rfl (List.Sublist.refl _) ⟨rfl, by first | rw [hM] | rfl⟩
  refine TL.off rfl rfl rfl ?_
  refine TL.off rfl rfl rfl ?_
  refine TL.off rfl rfl rfl ?_
  refine TL.offU rfl rfl ?_
  refine TL.offU rfl rfl ?_
  refine TL.off rfl rfl rfl ?_
  refine TL.off rfl rfl rfl ?_
  refine TL.offU rfl rfl ?_
  refine TL.offU rfl rfl ?_
  refine TL.off rfl rfl rfl ?_
  refine R.pkFE rfl rfl cA ?_
  refine R.asE rfl cA ?_
  refine TL.nil (Post.thnN ?_)
  refine T.has Has.nil ?_
  refine T.ret ?_
  have hM : windroseref14_row_m a0 = false := by rw [windroseref14_row_m, hEl1, LR.on_go, if_neg g39]
  exact fin1L (v := .bool false) [] rfl rfl (List.Sublist.refl _) ⟨rfl, by first | rw [hM] | rfl⟩
def windroseref14_has_l1 (a1 : Int) : List Int → Unit → LR (Bool) (Unit)
  | [], sl1 => .go ()
  | yl1 :: ysl1, sl1 => if yl1 = a1 then (.ret true) else (windroseref14_has_l1 a1 ysl1 ())
def windroseref14_has_m (a0 : List Int) (a1 : Int) : Bool :=
  LR.on (windroseref14_has_l1 a1 a0 ()) (fun r => r) (fun ol1 => false)
set_option maxHeartbeats 3200000 in
theorem windroseref14_has_c (H : Heap) (va0 : Value) (a0 : List Int) (ha0 : RdS (intE .i64) H va0 a0) (a1 : Int) : Fv Tryz.prog (fnv 30) [va0, .int .i64 a1] H (.bool (windroseref14_has_m a0 a1)) := by
  refine Fc.of_body (N := 17) Tryz.func30 rfl kA rfl rfl ?_
  intro w0
  obtain ⟨Aa0, ca0, rfl, hca0, hda0, ha0⟩ := ha0.shape
  refine T.seq ?_
  refine T.region ?_
  refine R.asE rfl cA ?_
  refine TL.nil (Post.thnN ?_)
  refine T.seq ?_
  refine T.seq ?_
  refine T.region ?_
  refine R.mvE rfl cA ?_
  refine R.len Tryz.underlying25 rfl rfl ?_
  refine R.mvE rfl cA ?_
  refine TL.nil (Post.thnN ?_)
  refine T.block ?_
  refine T.loop (ι := Nat) (fun kl1 H' L' ds' => kl1 ≤ a0.length ∧ Has L' [] ∧ windroseref14_has_l1 a1 (a0.drop kl1) () = windroseref14_has_l1 a1 a0 ()) (fun kl1 => [(9, .int .i64 (kl1 : Int)), (1, .int .i64 a1), (7, .slice Aa0 a0.length ca0), (8, .int .i64 (a0.length : Int))]) (fun kl1 => a0.length - kl1) 0 ?_ ?_ ?_
  · exact ⟨oA, Has.nil, (by rfl)⟩
  · exact ⟨rfl, rfl, rfl, rfl, trivial⟩
  intro kl1 σ_l1 H_l1 L_l1 ds_l1 s_l1 hI_l1
  obtain ⟨hkl1, hI_l1⟩ := hI_l1
  obtain ⟨hLl1, hQl1⟩ := hI_l1
  refine T.has hLl1 ?_
  refine T.seq ?_
  refine T.region ?_
  refine R.lss rfl rfl rfl ?_
  refine TL.nil (Post.thnN ?_)
  refine T.seq ?_
  refine T.condD rfl (fun c10 => ?_) (fun c10 => ?_)
  · have hltl1 : kl1 < a0.length := by omega
    obtain ⟨yl1, hyl1⟩ := getk (xs := a0) (k := kl1) oA
    refine T.skip (Post.thnN ?_)
    refine T.seq ?_
    refine T.block ?_
    refine T.seq ?_
    refine T.region ?_
    obtain ⟨b11, o11, i11, k11⟩ := RdS.elem (ha0.mono s_l1) hyl1
    obtain ⟨l11, g11, k11⟩ := k11
    obtain rfl : l11 = [.int .i64 yl1] := g11
    refine R.ixp Tryz.underlying25 Tryz.sizeOf3 rfl rfl rfl oA i11 ?_
    refine R.ldC Tryz.isAgg3 rfl rfl (k11 0 _ rfl) ?_
    refine R.asE rfl cA ?_
    refine TL.nil (Post.thnN ?_)
    refine T.seq ?_
    refine T.region ?_
    refine R.mvE rfl cA ?_
    refine R.mvE rfl cA ?_
    refine R.eql rfl rfl rfl ?_
    refine TL.nil (Post.thnN ?_)
    refine T.condD rfl (fun c15 => ?_) (fun c15 => ?_)
    · refine T.set 15 (.bool true) (congrArg Value.bool (decide_eq_true c15)) ?_
      refine T.seq ?_
      refine T.region ?_
      refine R.asE rfl cA ?_
      refine TL.nil (Post.thnN ?_)
      refine T.has Has.nil ?_
      refine T.ret (Post.blkR (Post.thnR (Post.thnR (Post.blkR (Post.thnR ?_)))))
      have hXl1 : windroseref14_has_l1 a1 a0 () = .ret true := by rw [← hQl1, drop_cons hyl1, windroseref14_has_l1]; rw [if_pos c15]
      have hM : windroseref14_has_m a0 a1 = true := by rw [windroseref14_has_m, hXl1, LR.on_ret]
      exact fin1L (v := .bool true) [] rfl rfl (List.Sublist.refl _) ⟨rfl, by first | rw [hM] | rfl⟩
    refine T.set 15 (.bool false) (congrArg Value.bool (decide_eq_false c15)) ?_
    refine T.skip (Post.blkN ?_)
    refine id (Post.thnN ?_)
    refine T.region ?_
    refine R.addI rfl rfl rfl oA ?_
    refine R.mvE rfl cA ?_
    refine TL.nil (Post.thnN ?_)
    exact ⟨kl1 + 1, s_l1, ⟨oA, Has.nil, (by rw [← hQl1, drop_cons hyl1, windroseref14_has_l1]; rw [if_neg c15])⟩, by show a0.length - (kl1 + 1) < a0.length - kl1; omega, rfl, rfl, rfl, rfl, trivial⟩
  refine T.exit (Post.thnE (Post.thnE (Post.blkX ?_)))
  have hEl1 : windroseref14_has_l1 a1 a0 () = .go () := (hQl1.symm.trans (by rw [show kl1 = a0.length by omega, List.drop_length, windroseref14_has_l1]))
  refine id (Post.thnN ?_)
  refine T.seq ?_
  refine T.region ?_
  refine R.asE rfl cA ?_
  refine TL.nil (Post.thnN ?_)
  refine T.has Has.nil ?_
  refine T.ret ?_
  have hM : windroseref14_has_m a0 a1 = false := by rw [windroseref14_has_m, hEl1, LR.on_go]
  exact fin1L (v := .bool false) [] rfl rfl (List.Sublist.refl _) ⟨rfl, by first | rw [hM] | rfl⟩
def windroseref14_Type_l1 (a1 : Int) : List (Int × (List Int)) → ((List Int)) → (List Int)
  | [], sl1 => sl1
  | yl1 :: ysl1, sl1 => LR.seq (if (windroseref14_has_m yl1.2 a1) = true then ((decide (((windroseref01_Kind_m yl1.1) : Int) ≠ 4))) else false : Bool) (fun sc2 => if sc2 = true then (windroseref14_Type_l1 a1 ysl1 ((sl1 ++ [yl1.1]))) else (windroseref14_Type_l1 a1 ysl1 sl1))
def windroseref14_Type_m (a0 : (List (Int × (List Int)))) (a1 : Int) : (List Int) :=
  LR.seq (windroseref14_Type_l1 a1 a0 []) (fun ol1 => ol1)
set_option maxHeartbeats 3200000 in
theorem windroseref14_Type_c (H : Heap) (a0 : (List (Int × (List Int)))) (va0_0 : Value) (ha0_0 : RdS listedE H va0_0 a0) (a1 : Int) (hl : a0.length ≤ 100000) : Fc Tryz.prog (fnv 28) [.agg #[va0_0], .int .i64 a1] H [] (fun v' H' L' => ∃ u0_0 c0_0, v' = u0_0 ∧ L' = [c0_0] ∧ OwnS (intE .u64) 43 H' u0_0 (windroseref14_Type_m a0 a1) c0_0) := by
  refine Fc.of_body (N := 32) Tryz.func28 rfl kA rfl rfl ?_
  intro w0
  obtain ⟨Aa0_0, ca0_0, rfl, hca0_0, hda0_0, ha0_0⟩ := ha0_0.shape
  refine T.seq ?_
  refine T.region ?_
  refine R.box rfl cA ?_
  intro b2
  refine R.asE rfl cA ?_
  refine TL.shut .hd ?_
  intro Hb2_1 sb2_1 qb2_1
  have hb2_1 : Hb2_1 b2 = some (.cells #[.slice Aa0_0 a0.length ca0_0] 24) := shut1 qb2_1
  refine TL.nil (Post.thnN ?_)
  refine T.seq ?_
  refine T.region ?_
  refine R.asE rfl cA ?_
  refine TL.nil (Post.thnN ?_)
  refine T.seq ?_
  refine T.seq ?_
  refine T.region ?_
  refine R.fldA Tryz.underlying24 rfl Tryz.sizeOf22 (by decide) rfl rfl ?_
  refine R.ldH Tryz.isAgg22 rfl rfl hb2_1 rfl ?_
  refine R.len Tryz.underlying22 rfl rfl ?_
  refine R.mvE rfl cA ?_
  refine TL.nil (Post.thnN ?_)
  refine T.block ?_
  refine T.loop (ι := Nat × Value × (List Int) × Chunk) (fun ⟨kl1, v5l1, x5l1, c5l1⟩ H' L' ds' => kl1 ≤ a0.length ∧ Has L' [c5l1] ∧ OwnS (intE .u64) 43 H' v5l1 x5l1 c5l1 ∧ x5l1.length ≤ kl1 ∧ windroseref14_Type_l1 a1 (a0.drop kl1) x5l1 = windroseref14_Type_l1 a1 a0 []) (fun ⟨kl1, v5l1, x5l1, c5l1⟩ => [(11, .int .i64 (kl1 : Int)), (1, .int .i64 a1), (5, v5l1), (9, .slice Aa0_0 a0.length ca0_0), (10, .int .i64 (a0.length : Int))]) (fun ⟨kl1, v5l1, x5l1, c5l1⟩ => a0.length - kl1) (0, .slice none 0 0, [], []) ?_ ?_ ?_
  · exact ⟨oA, (Has.none Has.nil), OwnS.nil, bA, (by rfl)⟩
  · exact ⟨rfl, rfl, rfl, rfl, rfl, trivial⟩
  intro ⟨kl1, v5l1, x5l1, c5l1⟩ σ_l1 H_l1 L_l1 ds_l1 s_l1 hI_l1
  obtain ⟨hkl1, hI_l1⟩ := hI_l1
  obtain ⟨hLl1, w5l1, hBl1_0, hQl1⟩ := hI_l1
  obtain ⟨A5l1, p5l1, rfl, m5l1, n5l1_⟩ := OwnS.shape w5l1
  refine T.has hLl1 ?_
  refine T.seq ?_
  refine T.region ?_
  refine R.lss rfl rfl rfl ?_
  refine TL.nil (Post.thnN ?_)
  refine T.seq ?_
  refine T.condD rfl (fun c12 => ?_) (fun c12 => ?_)
  · have hltl1 : kl1 < a0.length := by omega
    obtain ⟨yl1, hyl1⟩ := getk (xs := a0) (k := kl1) oA
    refine T.skip (Post.thnN ?_)
    refine T.seq ?_
    refine T.block ?_
    refine T.seq ?_
    refine T.region ?_
    obtain ⟨b13, o13, i13, k13⟩ := RdS.elem (ha0_0.mono (sb2_1.trans s_l1)) hyl1
    obtain ⟨l13, g13, k13⟩ := k13
    obtain ⟨z13_1, rfl, r13_1⟩ := g13
    obtain ⟨A13_1, p13_1, rfl, m13_1, n13_1, r13_1⟩ := r13_1.shape
    refine R.ixp Tryz.underlying22 Tryz.sizeOf45 rfl rfl rfl oA i13 ?_
    refine R.ldK (l := [.int .u64 (yl1.1), .slice A13_1 yl1.2.length p13_1]) Tryz.isAgg45 Tryz.sizeOf45 rfl rfl k13 rfl ?_
    refine R.alloc Tryz.zeroValue45 rfl ?_
    intro b7
    refine R.stX (old := [.int .u64 0, .slice none 0 0]) (l := [.int .u64 (yl1.1), .slice A13_1 yl1.2.length p13_1]) (new := [.int .u64 (yl1.1), .slice A13_1 yl1.2.length p13_1]) (et := 45) Tryz.sizeOf45 rfl rfl rfl rfl rfl (by show 0 + 2 ≤ 2; decide) rfl (all_one rfl) .hd ?_
    refine TL.shut .hd ?_
    intro Hb7_2 sb7_2 qb7_2
    have hb7_2 : Hb7_2 b7 = some (.cells #[.int .u64 (yl1.1), .slice A13_1 yl1.2.length p13_1] 45) := shut1 qb7_2
    refine TL.nil (Post.thnN ?_)
    refine T.seq ?_
    refine T.cutK (ι := Bool) (fun b24c2 H' L' ds' => Has L' [c5l1] ∧ (if (windroseref14_has_m yl1.2 a1) = true then ((decide (((windroseref01_Kind_m yl1.1) : Int) ≠ 4))) else false : Bool) = b24c2) (fun b24c2 => [(1, .int .i64 a1), (5, .slice A5l1 x5l1.length p5l1), (7, .pointer (some ⟨b7, 0, none⟩)), (9, .slice Aa0_0 a0.length ca0_0), (10, .int .i64 (a0.length : Int)), (11, .int .i64 (kl1 : Int)), (24, .bool (b24c2))]) ?_ ?_
    · refine T.region ?_
      refine R.fldA Tryz.underlying45 rfl Tryz.sizeOf25 (by decide) rfl rfl ?_
      refine R.ldH Tryz.isAgg25 rfl rfl hb7_2 rfl ?_
      refine R.mvE rfl cA ?_
      refine R.callv rfl rfl rfl (windroseref14_has_c _ _ yl1.2 (r13_1.mono sb7_2) (a1)) ?_
      refine R.mvE rfl cA ?_
      refine TL.gsplit 19 rfl (fun g19 => ?_) (fun g19 => ?_)
      · refine R.fldA Tryz.underlying45 rfl Tryz.sizeOf43 (by decide) rfl rfl ?_
        refine R.ldH Tryz.isAgg43 rfl rfl hb7_2 rfl ?_
        refine R.callv rfl rfl rfl (windroseref01_Kind_c _ (yl1.1)) ?_
        refine R.neq rfl rfl rfl ?_
        refine R.pkTE rfl rfl cA ?_
        refine TL.nil (Post.thnN ?_)
        exact ⟨(decide (((windroseref01_Kind_m yl1.1) : Int) ≠ 4)), HLe.refl _, ⟨(Has.cons .hd Has.nil), (by rw [if_t g19])⟩, rfl, rfl, rfl, rfl, rfl, rfl, rfl, trivial⟩
      refine TL.off rfl rfl rfl ?_
      refine TL.off rfl rfl rfl ?_
      refine TL.off rfl rfl rfl ?_
      refine TL.off rfl rfl rfl ?_
      refine R.pkFE rfl rfl cA ?_
      refine TL.nil (Post.thnN ?_)
      exact ⟨false, HLe.refl _, ⟨(Has.cons .hd Has.nil), (by rw [if_f g19])⟩, rfl, rfl, rfl, rfl, rfl, rfl, rfl, trivial⟩
    intro b24c2 σ_c2 H_c2 L_c2 ds_c2 s_c2 hI_c2
    obtain ⟨hLc2, hTc2⟩ := hI_c2
    refine T.has hLc2 ?_
    refine T.cond rfl (fun c24 => ?_) (fun c24 => ?_)
    · refine T.set 24 (.bool true) (congrArg Value.bool c24) ?_
      have hZ24 := hTc2.trans c24
      try simp only [or_f, or_t, and_f, and_t, decide_eq_true_eq, decide_eq_false_iff_not, Bool.not_eq_true'] at hZ24
      refine T.region ?_
      refine R.mvE rfl cA ?_
      refine R.fldA Tryz.underlying45 rfl Tryz.sizeOf43 (by decide) rfl rfl ?_
      refine R.ldH Tryz.isAgg43 rfl rfl (s_c2 _ _ hb7_2) rfl ?_
      refine R.bs rfl (run_buildSlice1 Tryz.underlying30 Tryz.sizeOf43 Tryz.zeroValue43 rfl rfl) ?_
      intro b28
      have w28 : OwnS (intE .u64) 43 H_c2 (.slice (some ⟨b28, 0, none⟩) 1 1) [yl1.1] [(b28, .cells #[.int .u64 (yl1.1)] 43)] := OwnS.lit (xs := [yl1.1]) (cellsOf_cons (a := [.int .u64 (yl1.1)]) rfl cellsOf_nil) (by show 1 ≤ maxLen; decide)
      obtain ⟨k29, y29, r29⟩ := Src.ownA w28
      refine R.app (E := (intE .u64)) (e := 43) (xs := x5l1) (ys := [yl1.1]) Tryz_ty30 rfl rfl rfl (OwnS.mono w5l1 (sb7_2.trans s_c2)) (.tl .hd) (r29 _ .hd) y29 (by (try simp only [List.length_append, List.length_cons, List.length_nil, List.length_replicate, List.length_take, List.length_drop]); omega) (by (try simp only [List.length_append, List.length_cons, List.length_nil, List.length_replicate, List.length_take, List.length_drop]); omega) ?_
      intro v29 c29 w29
      obtain ⟨A29, p29, rfl, m29, n29⟩ := OwnS.shape w29
      refine TL.del (.tl .hd) ?_
      refine R.asE rfl cA ?_
      refine TL.nil (Post.blkN ?_)
      refine id (Post.thnN ?_)
      refine T.region ?_
      refine R.addI rfl rfl rfl oA ?_
      refine R.mvE rfl cA ?_
      refine TL.nil (Post.thnN ?_)
      exact ⟨(kl1 + 1, .slice A29 (x5l1 ++ [yl1.1]).length p29, (x5l1 ++ [yl1.1]), c29), (s_l1.trans (sb7_2.trans s_c2)), ⟨oA, (Has.cons .hd Has.nil), w29, bA, (by rw [← hQl1, drop_cons hyl1, windroseref14_Type_l1]; rw [hTc2, LR.seq_go, if_t c24])⟩, by show a0.length - (kl1 + 1) < a0.length - kl1; omega, rfl, rfl, rfl, rfl, rfl, trivial⟩
    refine T.set 24 (.bool false) (congrArg Value.bool c24) ?_
    have hZ24 := hTc2.trans c24
    try simp only [or_f, or_t, and_f, and_t, decide_eq_true_eq, decide_eq_false_iff_not, Bool.not_eq_true'] at hZ24
    refine T.skip (Post.blkN ?_)
    refine id (Post.thnN ?_)
    refine T.region ?_
    refine R.addI rfl rfl rfl oA ?_
    refine R.mvE rfl cA ?_
    refine TL.nil (Post.thnN ?_)
    exact ⟨(kl1 + 1, .slice A5l1 x5l1.length p5l1, x5l1, c5l1), (s_l1.trans (sb7_2.trans s_c2)), ⟨oA, (Has.cons .hd Has.nil), (OwnS.mono w5l1 (sb7_2.trans s_c2)), bA, (by rw [← hQl1, drop_cons hyl1, windroseref14_Type_l1]; rw [hTc2, LR.seq_go, if_f c24])⟩, by show a0.length - (kl1 + 1) < a0.length - kl1; omega, rfl, rfl, rfl, rfl, rfl, trivial⟩
  refine T.exit (Post.thnE (Post.thnE (Post.blkX ?_)))
  have hEl1 : windroseref14_Type_l1 a1 a0 [] = x5l1 := (hQl1.symm.trans (by rw [show kl1 = a0.length by omega, List.drop_length, windroseref14_Type_l1]))
  refine id (Post.thnN ?_)
  refine T.seq ?_
  refine T.region ?_
  refine R.mvE rfl cA ?_
  refine R.asE rfl cA ?_
  refine TL.nil (Post.thnN ?_)
  refine T.has (Has.cons .hd Has.nil) ?_
  refine T.ret ?_
  have hM : windroseref14_Type_m a0 a1 = x5l1 := by rw [windroseref14_Type_m, hEl1, LR.seq_go]
  exact fin1L (v := .slice A5l1 x5l1.length p5l1) [c5l1] rfl rfl (List.Sublist.refl _) ⟨.slice A5l1 x5l1.length p5l1, c5l1, by first | rw [hM] | rfl, rfl, by rw [hM]; exact w5l1⟩
theorem rtype_l1 (n : Int) : ∀ (l : List (Int × List Int)) (a : List Int), (windroseref14_Type_l1 n l a).length ≤ a.length + l.length
  | [], a => Nat.le_refl _
  | y :: ys, a => by
    rw [windroseref14_Type_l1]
    simp only [LR.seq_go]
    rw [List.length_cons]
    generalize (if windroseref14_has_m y.2 n = true then decide (windroseref01_Kind_m y.1 ≠ 4) else false) = b
    cases b with
    | true => have := rtype_l1 n ys (a ++ [y.1]); rw [List.length_append, List.length_cons, List.length_nil] at this; rw [if_pos rfl]; omega
    | false => have := rtype_l1 n ys a; rw [if_neg (by decide)]; omega
theorem rtype_len (a : List (Int × List Int)) (n : Int) (r : List Int) (e : r = windroseref14_Type_m a n) : r.length ≤ a.length := by
  have := rtype_l1 n a []
  rw [e]; unfold windroseref14_Type_m; rw [LR.seq_go]; rw [List.length_nil] at this; omega
def windroseref14_put_l1 (a0 : List Int) (a1 : Int) : Nat → Int → Int
  | 0, _ => default
  | ml1 + 1, sl1 => LR.seq (if sl1 < (a0.length : Int) then ((decide ((a0.getD sl1.toNat (0 : Int)) < a1))) else false : Bool) (fun sc2 => if sc2 = true then (windroseref14_put_l1 a0 a1 ml1 ((sl1 + 1))) else sl1)
def windroseref14_put_m (a0 : List Int) (a1 : Int) : (List Int) :=
  LR.seq (windroseref14_put_l1 a0 a1 (((a0.length : Int) - 0).toNat + 1) 0) (fun ol1 => LR.seq (if ol1 < (a0.length : Int) then ((decide ((a0.getD ol1.toNat (0 : Int)) = a1))) else false : Bool) (fun sc3 => if sc3 = true then a0 else ((((a0.take ol1.toNat) ++ [a1]) ++ (a0.drop ol1.toNat)))))
set_option maxHeartbeats 3200000 in
theorem windroseref14_put_c (H : Heap) (va0 : Value) (a0 : List Int) (ha0 : RdS (intE .u64) H va0 a0) (a1 : Int) (hl : a0.length ≤ 2000000) : Fp Tryz.prog (fnv 43) [va0, .int .u64 a1] H (fun v' H' => ∃ u0_0, v' = u0_0 ∧ RdS (intE .u64) H' u0_0 (windroseref14_put_m a0 a1)) := by
  refine Fc.of_body (N := 45) Tryz.func43 rfl kA rfl rfl ?_
  intro w0
  obtain ⟨Aa0, ca0, rfl, hca0, hda0, ha0⟩ := ha0.shape
  refine T.seq ?_
  refine T.region ?_
  refine R.asE rfl cA ?_
  refine TL.nil (Post.thnN ?_)
  refine T.seq ?_
  refine T.region ?_
  refine R.asE rfl cA ?_
  refine TL.nil (Post.thnN ?_)
  refine T.seq ?_
  refine T.block ?_
  refine T.loop (ι := Nat × Int) (fun ⟨kl1, n5l1⟩ H' L' ds' => ((a0.length : Int) - n5l1).toNat < kl1 ∧ Has L' [] ∧ 0 ≤ n5l1 ∧ n5l1 ≤ (a0.length : Int) ∧ windroseref14_put_l1 a0 a1 kl1 n5l1 = windroseref14_put_l1 a0 a1 (((a0.length : Int) - 0).toNat + 1) 0) (fun ⟨kl1, n5l1⟩ => [(0, .slice Aa0 a0.length ca0), (1, .int .u64 a1), (5, .int .i64 n5l1)]) (fun ⟨kl1, n5l1⟩ => kl1) ((((a0.length : Int) - 0).toNat + 1), 0) ?_ ?_ ?_
  · exact ⟨oA, Has.nil, bA, bA, (by rfl)⟩
  · exact ⟨rfl, rfl, rfl, trivial⟩
  intro ⟨kl1, n5l1⟩ σ_l1 H_l1 L_l1 ds_l1 s_l1 hI_l1
  obtain ⟨hkl1, hI_l1⟩ := hI_l1
  obtain ⟨ml1, rfl⟩ : ∃ m, kl1 = m + 1 := ⟨kl1 - 1, by omega⟩
  obtain ⟨hLl1, hBl1_0, hBl1_1, hQl1⟩ := hI_l1
  refine T.has hLl1 ?_
  refine T.seq ?_
  refine T.seq ?_
  refine T.cutK (ι := Bool) (fun b17c2 H' L' ds' => Has L' [] ∧ (if n5l1 < (a0.length : Int) then ((decide ((a0.getD n5l1.toNat (0 : Int)) < a1))) else false : Bool) = b17c2) (fun b17c2 => [(0, .slice Aa0 a0.length ca0), (1, .int .u64 a1), (5, .int .i64 n5l1), (17, .bool (b17c2))]) ?_ ?_
  · refine T.region ?_
    refine R.mvE rfl cA ?_
    refine R.mvE rfl cA ?_
    refine R.len Tryz.underlying30 rfl rfl ?_
    refine R.lss rfl rfl rfl ?_
    refine R.mvE rfl cA ?_
    refine TL.gsplitD 10 rfl (fun g10 => ?_) (fun g10 => ?_)
    · refine R.mvE rfl cA ?_
      refine R.mvE rfl cA ?_
      have hl13 : n5l1.toNat < a0.length := bA
      obtain ⟨y13, e13, h13⟩ : ∃ y, y = (a0.getD n5l1.toNat (0 : Int)) ∧ a0[n5l1.toNat]? = some y := ⟨_, rfl, getD_get (by first | exact hl13 | simpa using hl13 | (simp only [List.length_set]; omega) | omega | (rw [(sortI_perm _).length_eq]; exact hl13))⟩
      obtain ⟨b13, o13, i13, k13⟩ := RdS.elem (ha0.mono s_l1) h13
      obtain ⟨l13, g13, k13⟩ := k13
      obtain rfl : l13 = [.int .u64 y13] := g13
      refine R.ixp Tryz.underlying30 Tryz.sizeOf43 rfl rfl rfl bA i13 ?_
      refine R.ldC Tryz.isAgg43 rfl rfl (k13 0 _ rfl) ?_
      refine R.mvE rfl cA ?_
      refine R.lss rfl rfl rfl ?_
      refine R.pkTE rfl rfl cA ?_
      refine TL.nil (Post.thnN ?_)
      exact ⟨(decide (y13 < a1)), HLe.refl _, ⟨Has.nil, (by subst e13; rw [if_pos g10])⟩, rfl, rfl, rfl, rfl, trivial⟩
    refine TL.off rfl rfl rfl ?_
    refine TL.off rfl rfl rfl ?_
    refine TL.off rfl rfl rfl ?_
    refine TL.off rfl rfl rfl ?_
    refine TL.off rfl rfl rfl ?_
    refine TL.off rfl rfl rfl ?_
    refine R.pkFE rfl rfl cA ?_
    refine TL.nil (Post.thnN ?_)
    exact ⟨false, HLe.refl _, ⟨Has.nil, (by rw [if_neg g10])⟩, rfl, rfl, rfl, rfl, trivial⟩
  intro b17c2 σ_c2 H_c2 L_c2 ds_c2 s_c2 hI_c2
  obtain ⟨hLc2, hTc2⟩ := hI_c2
  refine T.has hLc2 ?_
  refine T.cond rfl (fun c17 => ?_) (fun c17 => ?_)
  · refine T.set 17 (.bool true) (congrArg Value.bool c17) ?_
    have hZ17 := hTc2.trans c17
    try simp only [or_f, or_t, and_f, and_t, decide_eq_true_eq, decide_eq_false_iff_not, Bool.not_eq_true'] at hZ17
    refine T.skip (Post.thnN ?_)
    refine T.block ?_
    refine T.region ?_
    refine R.mvE rfl cA ?_
    refine R.addI rfl rfl rfl oA ?_
    refine R.asE rfl cA ?_
    refine TL.nil (Post.blkN ?_)
    refine id (Post.thnN ?_)
    exact ⟨(ml1, (n5l1 + 1)), (s_l1.trans s_c2), ⟨(by first | omega | (simp; omega) | (simp at *; omega)), Has.nil, bA, bA, (by rw [← hQl1, windroseref14_put_l1]; rw [hTc2, LR.seq_go, if_t c17])⟩, by show ml1 < ml1 + 1; omega, rfl, rfl, rfl, trivial⟩
  refine T.set 17 (.bool false) (congrArg Value.bool c17) ?_
  have hZ17 := hTc2.trans c17
  try simp only [or_f, or_t, and_f, and_t, decide_eq_true_eq, decide_eq_false_iff_not, Bool.not_eq_true'] at hZ17
  refine T.exit (Post.thnE (Post.thnE (Post.blkX ?_)))
  have hEl1 : windroseref14_put_l1 a0 a1 (((a0.length : Int) - 0).toNat + 1) 0 = n5l1 := (by rw [← hQl1, windroseref14_put_l1]; rw [hTc2, LR.seq_go, if_f c17])
  refine id (Post.thnN ?_)
  refine T.seq ?_
  refine T.seq ?_
  refine T.cutK (ι := Bool) (fun b31c3 H' L' ds' => Has L' [] ∧ (if n5l1 < (a0.length : Int) then ((decide ((a0.getD n5l1.toNat (0 : Int)) = a1))) else false : Bool) = b31c3) (fun b31c3 => [(0, .slice Aa0 a0.length ca0), (1, .int .u64 a1), (5, .int .i64 n5l1), (31, .bool (b31c3))]) ?_ ?_
  · refine T.region ?_
    refine R.mvE rfl cA ?_
    refine R.mvE rfl cA ?_
    refine R.len Tryz.underlying30 rfl rfl ?_
    refine R.lss rfl rfl rfl ?_
    refine R.mvE rfl cA ?_
    refine TL.gsplitD 24 rfl (fun g24 => ?_) (fun g24 => ?_)
    · refine R.mvE rfl cA ?_
      refine R.mvE rfl cA ?_
      have hl27 : n5l1.toNat < a0.length := bA
      obtain ⟨y27, e27, h27⟩ : ∃ y, y = (a0.getD n5l1.toNat (0 : Int)) ∧ a0[n5l1.toNat]? = some y := ⟨_, rfl, getD_get (by first | exact hl27 | simpa using hl27 | (simp only [List.length_set]; omega) | omega | (rw [(sortI_perm _).length_eq]; exact hl27))⟩
      obtain ⟨b27, o27, i27, k27⟩ := RdS.elem (ha0.mono (s_l1.trans s_c2)) h27
      obtain ⟨l27, g27, k27⟩ := k27
      obtain rfl : l27 = [.int .u64 y27] := g27
      refine R.ixp Tryz.underlying30 Tryz.sizeOf43 rfl rfl rfl bA i27 ?_
      refine R.ldC Tryz.isAgg43 rfl rfl (k27 0 _ rfl) ?_
      refine R.mvE rfl cA ?_
      refine R.eql rfl rfl rfl ?_
      refine R.pkTE rfl rfl cA ?_
      refine TL.nil (Post.thnN ?_)
      exact ⟨(decide (y27 = a1)), HLe.refl _, ⟨Has.nil, (by subst e27; rw [if_pos g24])⟩, rfl, rfl, rfl, rfl, trivial⟩
    refine TL.off rfl rfl rfl ?_
    refine TL.off rfl rfl rfl ?_
    refine TL.off rfl rfl rfl ?_
    refine TL.off rfl rfl rfl ?_
    refine TL.off rfl rfl rfl ?_
    refine TL.off rfl rfl rfl ?_
    refine R.pkFE rfl rfl cA ?_
    refine TL.nil (Post.thnN ?_)
    exact ⟨false, HLe.refl _, ⟨Has.nil, (by rw [if_neg g24])⟩, rfl, rfl, rfl, rfl, trivial⟩
  intro b31c3 σ_c3 H_c3 L_c3 ds_c3 s_c3 hI_c3
  obtain ⟨hLc3, hTc3⟩ := hI_c3
  refine T.has hLc3 ?_
  refine T.cond rfl (fun c31 => ?_) (fun c31 => ?_)
  · refine T.set 31 (.bool true) (congrArg Value.bool c31) ?_
    have hZ31 := hTc3.trans c31
    try simp only [or_f, or_t, and_f, and_t, decide_eq_true_eq, decide_eq_false_iff_not, Bool.not_eq_true'] at hZ31
    refine T.seq ?_
    refine T.region ?_
    refine R.mvE rfl cA ?_
    refine R.asE rfl cA ?_
    refine TL.nil (Post.thnN ?_)
    refine T.has Has.nil ?_
    refine T.ret (Post.thnR ?_)
    have hM : windroseref14_put_m a0 a1 = a0 := by rw [windroseref14_put_m, hEl1, LR.seq_go, hTc3, LR.seq_go, if_t c31]
    exact fin1L (v := .slice Aa0 a0.length ca0) [] rfl rfl (List.Sublist.refl _) ⟨rfl, .slice Aa0 a0.length ca0, by first | rw [hM] | rfl, by rw [hM]; exact (ha0.mono (s_l1.trans (s_c2.trans s_c3)))⟩
  refine T.set 31 (.bool false) (congrArg Value.bool c31) ?_
  have hZ31 := hTc3.trans c31
  try simp only [or_f, or_t, and_f, and_t, decide_eq_true_eq, decide_eq_false_iff_not, Bool.not_eq_true'] at hZ31
  refine T.skip (Post.thnN ?_)
  refine T.seq ?_
  refine T.draw Tryz_mixed kA ?_
  refine Plan.v 1 [0, 2, 3, 4, 5, 6, 7, 8, 9, 10, 11, 12] kA kA kA kA rfl (fun _ _ h_ => R.mvE rfl cA (TL.nil h_)) ?_
  refine Plan.v 2 [0, 3, 4, 5, 6, 7, 8, 9, 10, 11, 12] kA kA kA kA rfl (fun _ _ h_ => R.mvE rfl cA (TL.nil h_)) ?_
  have z36 := RdS.takeC (ha0.mono (s_l1.trans (s_c2.trans s_c3))) (i := n5l1.toNat) oA oA
  obtain ⟨x36, e36⟩ : ∃ x, x = (a0.take n5l1.toNat) := ⟨_, rfl⟩
  rw [← e36] at z36
  obtain ⟨A36, p36, q36, m36, n36, r36⟩ := RdS.shape z36
  have t36 : x36.length ≤ a0.length := by rw [e36]; simp; try omega
  have t36_ : x36.length = min n5l1.toNat a0.length := by rw [e36]; simp
  refine Plan.v 3 [0, 4, 5, 6, 7, 8, 9, 10, 11, 12] kA kA kA kA rfl (fun _ _ h_ => R.sH Tryz.underlying30 Tryz.sizeOf43 rfl rfl rfl oA oA  (TL.nil h_)) ?_
  refine Plan.set 36 (.slice A36 x36.length p36) (by first | exact q36 | (rw [← q36]; simp; done) | (rw [← q36]; rfl)) ?_
  refine Plan.v 5 [0, 4, 6, 7, 8, 9, 10, 11, 12] kA kA kA kA rfl (fun _ _ h_ => R.mvE rfl cA (TL.nil h_)) ?_
  refine Plan.v 8 [0, 4, 6, 7, 9, 10, 11, 12] kA kA kA kA rfl (fun _ _ h_ => R.mvE rfl cA (TL.nil h_)) ?_
  refine Plan.v 9 [0, 4, 6, 7, 10, 11, 12] kA kA kA kA rfl (fun _ _ h_ => R.mvE rfl cA (TL.nil h_)) ?_
  have z43 := RdS.drop (ha0.mono (s_l1.trans (s_c2.trans s_c3))) (i := n5l1.toNat) oA oA
  obtain ⟨x43, e43⟩ : ∃ x, x = (a0.drop n5l1.toNat) := ⟨_, rfl⟩
  rw [← e43] at z43
  obtain ⟨A43, p43, q43, m43, n43, r43⟩ := RdS.shape z43
  have t43 : x43.length ≤ a0.length := by rw [e43]; simp; try omega
  refine Plan.v 10 [0, 4, 6, 7, 11, 12] kA kA kA kA rfl (fun _ _ h_ => R.sL Tryz.underlying30 Tryz.sizeOf43 rfl rfl rfl oA oA  (TL.nil h_)) ?_
  refine Plan.set 43 (.slice A43 x43.length p43) (by first | exact q43 | (rw [← q43]; simp; done) | (rw [← q43]; rfl)) ?_
  refine Plan.s2 0 6 [4, 6, 7, 11, 12] [0, 4, 7, 11, 12] kA kA kA rfl rfl ?_ ?_
  · refine R.bs0 (E := (intE .u64)) rfl Tryz.underlying30 Tryz.sizeOf43 ?_
    intro v33 c33 w33
    obtain ⟨A33, p33, rfl, m33, n33⟩ := w33.shape
    refine TL.nil (Plan.e1 (HLe.refl _) ?_)
    refine Plan.s2 4 6 [6, 7, 11, 12] [4, 7, 11, 12] kA kA kA rfl rfl ?_ ?_
    · obtain ⟨k37, y37, r37⟩ := Src.rdA r36
      refine R.app (E := (intE .u64)) (e := 43) (xs := []) (ys := x36) Tryz_ty30 rfl rfl rfl w33 .hd (r37 _) y37 (by (try simp only [List.length_append, List.length_cons, List.length_nil, List.length_replicate, List.length_take, List.length_drop]); omega) (by (try simp only [List.length_append, List.length_cons, List.length_nil, List.length_replicate, List.length_take, List.length_drop]); omega) ?_
      intro v37 c37 w37
      have w37 : OwnS (intE .u64) 43 H_c3 v37 x36 c37 := w37
      obtain ⟨A37, p37, rfl, m37, n37⟩ := OwnS.shape w37
      refine TL.nil (Plan.e1 (HLe.refl _) ?_)
      refine Plan.s1 6 [7, 11, 12] kA kA rfl ?_
      refine R.bs rfl (run_buildSlice1 Tryz.underlying30 Tryz.sizeOf43 Tryz.zeroValue43 rfl rfl) ?_
      intro b39
      have w39 : OwnS (intE .u64) 43 H_c3 (.slice (some ⟨b39, 0, none⟩) 1 1) [a1] [(b39, .cells #[.int .u64 a1] 43)] := OwnS.lit (xs := [a1]) (cellsOf_cons (a := [.int .u64 a1]) rfl cellsOf_nil) (by show 1 ≤ maxLen; decide)
      refine TL.nil (Plan.e1 (HLe.refl _) ?_)
      refine Plan.s1 7 [11, 12] kA kA rfl ?_
      obtain ⟨k40, y40, r40⟩ := Src.ownA w39
      refine R.app (E := (intE .u64)) (e := 43) (xs := x36) (ys := [a1]) Tryz_ty30 rfl rfl rfl w37 (.tl .hd) (r40 _ .hd) y40 (by (try simp only [List.length_append, List.length_cons, List.length_nil, List.length_replicate, List.length_take, List.length_drop]); omega) (by (try simp only [List.length_append, List.length_cons, List.length_nil, List.length_replicate, List.length_take, List.length_drop]); omega) ?_
      intro v40 c40 w40
      obtain ⟨A40, p40, rfl, m40, n40⟩ := OwnS.shape w40
      refine TL.del (.tl .hd) ?_
      refine TL.nil (Plan.e1 (HLe.refl _) ?_)
      refine Plan.s1 11 [12] kA kA rfl ?_
      obtain ⟨k44, y44, r44⟩ := Src.rdA r43
      refine R.app (E := (intE .u64)) (e := 43) (xs := (x36 ++ [a1])) (ys := x43) Tryz_ty30 rfl rfl rfl w40 .hd (r44 _) y44 (by (try simp only [List.length_append, List.length_cons, List.length_nil, List.length_replicate, List.length_take, List.length_drop]); omega) (by (try simp only [List.length_append, List.length_cons, List.length_nil, List.length_replicate, List.length_take, List.length_drop]); omega) ?_
      intro v44 c44 w44
      obtain ⟨A44, p44, rfl, m44, n44⟩ := OwnS.shape w44
      refine TL.nil (Plan.e1 (HLe.refl _) ?_)
      refine Plan.v 12 [] kA kA kA kA rfl (fun _ _ h_ => R.asE rfl cA (TL.nil h_)) ?_
      refine Plan.done (Post.thnN ?_)
      refine T.shut .hd ?_
      intro HF44_1 sF44_1 qF44_1
      have fF44_1 := OwnS.read w44 sF44_1 qF44_1
      refine T.has Has.nil ?_
      refine T.ret ?_
      have hM : windroseref14_put_m a0 a1 = ((x36 ++ [a1]) ++ x43) := by subst e43; subst e36; rw [windroseref14_put_m, hEl1, LR.seq_go, hTc3, LR.seq_go, if_f c31]
      exact fin1L (v := .slice A44 ((x36 ++ [a1]) ++ x43).length p44) [] rfl rfl (List.Sublist.refl _) ⟨rfl, .slice A44 ((x36 ++ [a1]) ++ x43).length p44, by first | rw [hM] | rfl, by rw [hM]; exact fF44_1⟩
    refine R.bs rfl (run_buildSlice1 Tryz.underlying30 Tryz.sizeOf43 Tryz.zeroValue43 rfl rfl) ?_
    intro b39
    have w39 : OwnS (intE .u64) 43 H_c3 (.slice (some ⟨b39, 0, none⟩) 1 1) [a1] [(b39, .cells #[.int .u64 a1] 43)] := OwnS.lit (xs := [a1]) (cellsOf_cons (a := [.int .u64 a1]) rfl cellsOf_nil) (by show 1 ≤ maxLen; decide)
    refine TL.nil (Plan.e1 (HLe.refl _) ?_)
    refine Plan.s1 4 [7, 11, 12] kA kA rfl ?_
    obtain ⟨k37, y37, r37⟩ := Src.rdA r36
    refine R.app (E := (intE .u64)) (e := 43) (xs := []) (ys := x36) Tryz_ty30 rfl rfl rfl w33 (.tl .hd) (r37 _) y37 (by (try simp only [List.length_append, List.length_cons, List.length_nil, List.length_replicate, List.length_take, List.length_drop]); omega) (by (try simp only [List.length_append, List.length_cons, List.length_nil, List.length_replicate, List.length_take, List.length_drop]); omega) ?_
    intro v37 c37 w37
    have w37 : OwnS (intE .u64) 43 H_c3 v37 x36 c37 := w37
    obtain ⟨A37, p37, rfl, m37, n37⟩ := OwnS.shape w37
    refine TL.nil (Plan.e1 (HLe.refl _) ?_)
    refine Plan.s1 7 [11, 12] kA kA rfl ?_
    obtain ⟨k40, y40, r40⟩ := Src.ownA w39
    refine R.app (E := (intE .u64)) (e := 43) (xs := x36) (ys := [a1]) Tryz_ty30 rfl rfl rfl w37 .hd (r40 _ (.tl .hd)) y40 (by (try simp only [List.length_append, List.length_cons, List.length_nil, List.length_replicate, List.length_take, List.length_drop]); omega) (by (try simp only [List.length_append, List.length_cons, List.length_nil, List.length_replicate, List.length_take, List.length_drop]); omega) ?_
    intro v40 c40 w40
    obtain ⟨A40, p40, rfl, m40, n40⟩ := OwnS.shape w40
    refine TL.del (.tl .hd) ?_
    refine TL.nil (Plan.e1 (HLe.refl _) ?_)
    refine Plan.s1 11 [12] kA kA rfl ?_
    obtain ⟨k44, y44, r44⟩ := Src.rdA r43
    refine R.app (E := (intE .u64)) (e := 43) (xs := (x36 ++ [a1])) (ys := x43) Tryz_ty30 rfl rfl rfl w40 .hd (r44 _) y44 (by (try simp only [List.length_append, List.length_cons, List.length_nil, List.length_replicate, List.length_take, List.length_drop]); omega) (by (try simp only [List.length_append, List.length_cons, List.length_nil, List.length_replicate, List.length_take, List.length_drop]); omega) ?_
    intro v44 c44 w44
    obtain ⟨A44, p44, rfl, m44, n44⟩ := OwnS.shape w44
    refine TL.nil (Plan.e1 (HLe.refl _) ?_)
    refine Plan.v 12 [] kA kA kA kA rfl (fun _ _ h_ => R.asE rfl cA (TL.nil h_)) ?_
    refine Plan.done (Post.thnN ?_)
    refine T.shut .hd ?_
    intro HF44_2 sF44_2 qF44_2
    have fF44_2 := OwnS.read w44 sF44_2 qF44_2
    refine T.has Has.nil ?_
    refine T.ret ?_
    have hM : windroseref14_put_m a0 a1 = ((x36 ++ [a1]) ++ x43) := by subst e43; subst e36; rw [windroseref14_put_m, hEl1, LR.seq_go, hTc3, LR.seq_go, if_f c31]
    exact fin1L (v := .slice A44 ((x36 ++ [a1]) ++ x43).length p44) [] rfl rfl (List.Sublist.refl _) ⟨rfl, .slice A44 ((x36 ++ [a1]) ++ x43).length p44, by first | rw [hM] | rfl, by rw [hM]; exact fF44_2⟩
  refine R.bs rfl (run_buildSlice1 Tryz.underlying30 Tryz.sizeOf43 Tryz.zeroValue43 rfl rfl) ?_
  intro b39
  have w39 : OwnS (intE .u64) 43 H_c3 (.slice (some ⟨b39, 0, none⟩) 1 1) [a1] [(b39, .cells #[.int .u64 a1] 43)] := OwnS.lit (xs := [a1]) (cellsOf_cons (a := [.int .u64 a1]) rfl cellsOf_nil) (by show 1 ≤ maxLen; decide)
  refine TL.nil (Plan.e1 (HLe.refl _) ?_)
  refine Plan.s1 0 [4, 7, 11, 12] kA kA rfl ?_
  refine R.bs0 (E := (intE .u64)) rfl Tryz.underlying30 Tryz.sizeOf43 ?_
  intro v33 c33 w33
  obtain ⟨A33, p33, rfl, m33, n33⟩ := w33.shape
  refine TL.nil (Plan.e1 (HLe.refl _) ?_)
  refine Plan.s1 4 [7, 11, 12] kA kA rfl ?_
  obtain ⟨k37, y37, r37⟩ := Src.rdA r36
  refine R.app (E := (intE .u64)) (e := 43) (xs := []) (ys := x36) Tryz_ty30 rfl rfl rfl w33 .hd (r37 _) y37 (by (try simp only [List.length_append, List.length_cons, List.length_nil, List.length_replicate, List.length_take, List.length_drop]); omega) (by (try simp only [List.length_append, List.length_cons, List.length_nil, List.length_replicate, List.length_take, List.length_drop]); omega) ?_
  intro v37 c37 w37
  have w37 : OwnS (intE .u64) 43 H_c3 v37 x36 c37 := w37
  obtain ⟨A37, p37, rfl, m37, n37⟩ := OwnS.shape w37
  refine TL.nil (Plan.e1 (HLe.refl _) ?_)
  refine Plan.s1 7 [11, 12] kA kA rfl ?_
  obtain ⟨k40, y40, r40⟩ := Src.ownA w39
  refine R.app (E := (intE .u64)) (e := 43) (xs := x36) (ys := [a1]) Tryz_ty30 rfl rfl rfl w37 .hd (r40 _ (.tl .hd)) y40 (by (try simp only [List.length_append, List.length_cons, List.length_nil, List.length_replicate, List.length_take, List.length_drop]); omega) (by (try simp only [List.length_append, List.length_cons, List.length_nil, List.length_replicate, List.length_take, List.length_drop]); omega) ?_
  intro v40 c40 w40
  obtain ⟨A40, p40, rfl, m40, n40⟩ := OwnS.shape w40
  refine TL.del (.tl .hd) ?_
  refine TL.nil (Plan.e1 (HLe.refl _) ?_)
  refine Plan.s1 11 [12] kA kA rfl ?_
  obtain ⟨k44, y44, r44⟩ := Src.rdA r43
  refine R.app (E := (intE .u64)) (e := 43) (xs := (x36 ++ [a1])) (ys := x43) Tryz_ty30 rfl rfl rfl w40 .hd (r44 _) y44 (by (try simp only [List.length_append, List.length_cons, List.length_nil, List.length_replicate, List.length_take, List.length_drop]); omega) (by (try simp only [List.length_append, List.length_cons, List.length_nil, List.length_replicate, List.length_take, List.length_drop]); omega) ?_
  intro v44 c44 w44
  obtain ⟨A44, p44, rfl, m44, n44⟩ := OwnS.shape w44
  refine TL.nil (Plan.e1 (HLe.refl _) ?_)
  refine Plan.v 12 [] kA kA kA kA rfl (fun _ _ h_ => R.asE rfl cA (TL.nil h_)) ?_
  refine Plan.done (Post.thnN ?_)
  refine T.shut .hd ?_
  intro HF44_3 sF44_3 qF44_3
  have fF44_3 := OwnS.read w44 sF44_3 qF44_3
  refine T.has Has.nil ?_
  refine T.ret ?_
  have hM : windroseref14_put_m a0 a1 = ((x36 ++ [a1]) ++ x43) := by subst e43; subst e36; rw [windroseref14_put_m, hEl1, LR.seq_go, hTc3, LR.seq_go, if_f c31]
  exact fin1L (v := .slice A44 ((x36 ++ [a1]) ++ x43).length p44) [] rfl rfl (List.Sublist.refl _) ⟨rfl, .slice A44 ((x36 ++ [a1]) ++ x43).length p44, by first | rw [hM] | rfl, by rw [hM]; exact fF44_3⟩
theorem rput_len (a : List Int) (x : Int) (r : List Int) (e : r = windroseref14_put_m a x) : r.length ≤ a.length + 1 := by
  have h : ∀ (b : Bool) (k : Nat), (if b = true then a else (a.take k ++ [x]) ++ a.drop k).length ≤ a.length + 1 := by
    intro b k
    cases b with
    | true => rw [if_pos rfl]; omega
    | false => rw [if_neg (by decide)]; simp only [List.length_append, List.length_take, List.length_drop, List.length_cons, List.length_nil]; omega
  unfold windroseref14_put_m at e
  simp only [LR.seq_go] at e
  rw [e]
  exact h _ _
def windroseref14_Keys_l1  : List Int → ((List Int)) → (List Int)
  | [], sl1 => sl1
  | yl1 :: ysl1, sl1 => LR.seq (windroseref14_put_m sl1 yl1) (fun r16 => if ((windroseref01_Kind_m yl1) : Int) = 3 then (LR.seq (windroseref01_Parts_m yl1) (fun r22 => LR.seq (windroseref14_put_m r16 ((windroseref01_Made_m 9223372036854775808 r22.1 0))) (fun r28 => LR.seq (windroseref14_put_m r28 ((windroseref01_Made_m 9223372036854775808 0 r22.2))) (fun r32 => LR.seq (windroseref14_put_m r32 ((windroseref01_Made_m 9223372036854775808 0 0))) (fun r35 => windroseref14_Keys_l1 ysl1 r35))))) else (windroseref14_Keys_l1 ysl1 r16))
def windroseref14_Keys_m (a0 : List Int) : (List Int) :=
  LR.seq (windroseref14_Keys_l1 a0 []) (fun ol1 => ol1)
set_option maxHeartbeats 3200000 in
theorem windroseref14_Keys_c (H : Heap) (va0 : Value) (a0 : List Int) (ha0 : RdS (intE .u64) H va0 a0) (hl : a0.length ≤ 100000) : Fp Tryz.prog (fnv 15) [va0] H (fun v' H' => ∃ u0_0, v' = u0_0 ∧ RdS (intE .u64) H' u0_0 (windroseref14_Keys_m a0)) := by
  refine Fc.of_body (N := 38) Tryz.func15 rfl kA rfl rfl ?_
  intro w0
  obtain ⟨Aa0, ca0, rfl, hca0, hda0, ha0⟩ := ha0.shape
  refine T.seq ?_
  refine T.region ?_
  refine R.asE rfl cA ?_
  refine TL.nil (Post.thnN ?_)
  refine T.seq ?_
  refine T.region ?_
  refine R.asE rfl cA ?_
  refine TL.nil (Post.thnN ?_)
  refine T.seq ?_
  refine T.seq ?_
  refine T.region ?_
  refine R.mvE rfl cA ?_
  refine R.len Tryz.underlying30 rfl rfl ?_
  refine R.mvE rfl cA ?_
  refine TL.nil (Post.thnN ?_)
  refine T.block ?_
  refine T.loop (ι := Nat × Value × (List Int)) (fun ⟨kl1, v3l1, x3l1⟩ H' L' ds' => kl1 ≤ a0.length ∧ Has L' [] ∧ RdS (intE .u64) H' v3l1 x3l1 ∧ x3l1.length ≤ 4 * kl1 ∧ windroseref14_Keys_l1 (a0.drop kl1) x3l1 = windroseref14_Keys_l1 a0 []) (fun ⟨kl1, v3l1, x3l1⟩ => [(10, .int .i64 (kl1 : Int)), (3, v3l1), (8, .slice Aa0 a0.length ca0), (9, .int .i64 (a0.length : Int))]) (fun ⟨kl1, v3l1, x3l1⟩ => a0.length - kl1) (0, .slice none 0 0, []) ?_ ?_ ?_
  · exact ⟨oA, Has.nil, RdS.nil, bA, (by rfl)⟩
  · exact ⟨rfl, rfl, rfl, rfl, trivial⟩
  intro ⟨kl1, v3l1, x3l1⟩ σ_l1 H_l1 L_l1 ds_l1 s_l1 hI_l1
  obtain ⟨hkl1, hI_l1⟩ := hI_l1
  obtain ⟨hLl1, w3l1, hBl1_0, hQl1⟩ := hI_l1
  obtain ⟨A3l1, p3l1, rfl, m3l1, n3l1_, w3l1⟩ := RdS.shape w3l1
  refine T.has hLl1 ?_
  refine T.seq ?_
  refine T.region ?_
  refine R.lss rfl rfl rfl ?_
  refine TL.nil (Post.thnN ?_)
  refine T.seq ?_
  refine T.condD rfl (fun c11 => ?_) (fun c11 => ?_)
  · have hltl1 : kl1 < a0.length := by omega
    obtain ⟨yl1, hyl1⟩ := getk (xs := a0) (k := kl1) oA
    refine T.skip (Post.thnN ?_)
    refine T.seq ?_
    refine T.block ?_
    refine T.seq ?_
    refine T.region ?_
    obtain ⟨b12, o12, i12, k12⟩ := RdS.elem (ha0.mono s_l1) hyl1
    obtain ⟨l12, g12, k12⟩ := k12
    obtain rfl : l12 = [.int .u64 yl1] := g12
    refine R.ixp Tryz.underlying30 Tryz.sizeOf43 rfl rfl rfl oA i12 ?_
    refine R.ldC Tryz.isAgg43 rfl rfl (k12 0 _ rfl) ?_
    refine R.asE rfl cA ?_
    refine TL.nil (Post.thnN ?_)
    refine T.seq ?_
    refine T.region ?_
    refine R.mvE rfl cA ?_
    refine R.mvE rfl cA ?_
    obtain ⟨r16, er16⟩ : ∃ r, r = (windroseref14_put_m x3l1 yl1) := ⟨_, rfl⟩
    refine R.callp rfl rfl rfl (windroseref14_put_c _ _ x3l1 w3l1 (yl1) bA) ?_
    intro v16 H16 s16 q16
    rw [← er16] at q16
    obtain ⟨u16_0_0, rfl, w16_0_0⟩ := q16
    obtain ⟨A16_0_0, p16_0_0, rfl, m16_0_0, n16_0_0, w16_0_0⟩ := RdS.shape w16_0_0
    have trp16 := rput_len _ _ _ er16
    refine R.asE rfl cA ?_
    refine TL.nil (Post.thnN ?_)
    refine T.seq ?_
    refine T.region ?_
    refine R.mvE rfl cA ?_
    refine R.callv rfl rfl rfl (windroseref01_Kind_c _ (yl1)) ?_
    refine R.eql rfl rfl rfl ?_
    refine TL.nil (Post.thnN ?_)
    refine T.condD rfl (fun c19 => ?_) (fun c19 => ?_)
    · refine T.set 19 (.bool true) (congrArg Value.bool (decide_eq_true c19)) ?_
      refine T.seq ?_
      refine T.region ?_
      refine R.mvE rfl cA ?_
      obtain ⟨r22, er22⟩ : ∃ r, r = (windroseref01_Parts_m yl1) := ⟨_, rfl⟩
      refine R.callv (v := .tuple #[.int .i64 r22.1, .int .i64 r22.2]) rfl rfl rfl (by rw [er22]; exact windroseref01_Parts_c _ (yl1)) ?_
      refine R.mvE rfl cA ?_
      refine R.ext rfl rfl rfl ?_
      refine R.ext rfl rfl rfl ?_
      refine R.asE rfl cA ?_
      refine R.asE rfl cA ?_
      refine TL.nil (Post.thnN ?_)
      refine T.seq ?_
      refine T.region ?_
      refine R.mvE rfl cA ?_
      refine R.mvE rfl cA ?_
      refine R.callv rfl rfl rfl (windroseref01_Made_c _ (9223372036854775808) (r22.1) (0)) ?_
      obtain ⟨r28, er28⟩ : ∃ r, r = (windroseref14_put_m r16 ((windroseref01_Made_m 9223372036854775808 r22.1 0))) := ⟨_, rfl⟩
      refine R.callp rfl rfl rfl (windroseref14_put_c _ _ r16 w16_0_0 ((windroseref01_Made_m 9223372036854775808 r22.1 0)) bA) ?_
      intro v28 H28 s28 q28
      rw [← er28] at q28
      obtain ⟨u28_0_0, rfl, w28_0_0⟩ := q28
      obtain ⟨A28_0_0, p28_0_0, rfl, m28_0_0, n28_0_0, w28_0_0⟩ := RdS.shape w28_0_0
      have trp28 := rput_len _ _ _ er28
      refine R.asE rfl cA ?_
      refine TL.nil (Post.thnN ?_)
      refine T.seq ?_
      refine T.region ?_
      refine R.mvE rfl cA ?_
      refine R.mvE rfl cA ?_
      refine R.callv rfl rfl rfl (windroseref01_Made_c _ (9223372036854775808) (0) (r22.2)) ?_
      obtain ⟨r32, er32⟩ : ∃ r, r = (windroseref14_put_m r28 ((windroseref01_Made_m 9223372036854775808 0 r22.2))) := ⟨_, rfl⟩
      refine R.callp rfl rfl rfl (windroseref14_put_c _ _ r28 w28_0_0 ((windroseref01_Made_m 9223372036854775808 0 r22.2)) bA) ?_
      intro v32 H32 s32 q32
      rw [← er32] at q32
      obtain ⟨u32_0_0, rfl, w32_0_0⟩ := q32
      obtain ⟨A32_0_0, p32_0_0, rfl, m32_0_0, n32_0_0, w32_0_0⟩ := RdS.shape w32_0_0
      have trp32 := rput_len _ _ _ er32
      refine R.asE rfl cA ?_
      refine TL.nil (Post.thnN ?_)
      refine T.region ?_
      refine R.mvE rfl cA ?_
      refine R.callv rfl rfl rfl (windroseref01_Made_c _ (9223372036854775808) (0) (0)) ?_
      obtain ⟨r35, er35⟩ : ∃ r, r = (windroseref14_put_m r32 ((windroseref01_Made_m 9223372036854775808 0 0))) := ⟨_, rfl⟩
      refine R.callp rfl rfl rfl (windroseref14_put_c _ _ r32 w32_0_0 ((windroseref01_Made_m 9223372036854775808 0 0)) bA) ?_
      intro v35 H35 s35 q35
      rw [← er35] at q35
      obtain ⟨u35_0_0, rfl, w35_0_0⟩ := q35
      obtain ⟨A35_0_0, p35_0_0, rfl, m35_0_0, n35_0_0, w35_0_0⟩ := RdS.shape w35_0_0
      have trp35 := rput_len _ _ _ er35
      refine R.asE rfl cA ?_
      refine TL.nil (Post.blkN ?_)
      refine id (Post.thnN ?_)
      refine T.region ?_
      refine R.addI rfl rfl rfl oA ?_
      refine R.mvE rfl cA ?_
      refine TL.nil (Post.thnN ?_)
      exact ⟨(kl1 + 1, .slice A35_0_0 r35.length p35_0_0, r35), (s_l1.trans (s16.trans (s28.trans (s32.trans s35)))), ⟨oA, Has.nil, w35_0_0, bA, (by subst er35; subst er32; subst er28; subst er22; subst er16; rw [← hQl1, drop_cons hyl1, windroseref14_Keys_l1]; rw [LR.seq_go, if_pos c19, LR.seq_go, LR.seq_go, LR.seq_go, LR.seq_go])⟩, by show a0.length - (kl1 + 1) < a0.length - kl1; omega, rfl, rfl, rfl, rfl, trivial⟩
    refine T.set 19 (.bool false) (congrArg Value.bool (decide_eq_false c19)) ?_
    refine T.skip (Post.blkN ?_)
    refine id (Post.thnN ?_)
    refine T.region ?_
    refine R.addI rfl rfl rfl oA ?_
    refine R.mvE rfl cA ?_
    refine TL.nil (Post.thnN ?_)
    exact ⟨(kl1 + 1, .slice A16_0_0 r16.length p16_0_0, r16), (s_l1.trans s16), ⟨oA, Has.nil, w16_0_0, bA, (by subst er16; rw [← hQl1, drop_cons hyl1, windroseref14_Keys_l1]; rw [LR.seq_go, if_neg c19])⟩, by show a0.length - (kl1 + 1) < a0.length - kl1; omega, rfl, rfl, rfl, rfl, trivial⟩
  refine T.exit (Post.thnE (Post.thnE (Post.blkX ?_)))
  have hEl1 : windroseref14_Keys_l1 a0 [] = x3l1 := (hQl1.symm.trans (by rw [show kl1 = a0.length by omega, List.drop_length, windroseref14_Keys_l1]))
  refine id (Post.thnN ?_)
  refine T.seq ?_
  refine T.region ?_
  refine R.mvE rfl cA ?_
  refine R.asE rfl cA ?_
  refine TL.nil (Post.thnN ?_)
  refine T.has Has.nil ?_
  refine T.ret ?_
  have hM : windroseref14_Keys_m a0 = x3l1 := by rw [windroseref14_Keys_m, hEl1, LR.seq_go]
  exact fin1L (v := .slice A3l1 x3l1.length p3l1) [] rfl rfl (List.Sublist.refl _) ⟨rfl, .slice A3l1 x3l1.length p3l1, by first | rw [hM] | rfl, by rw [hM]; exact w3l1⟩
def windroseref14_In_l1 (a1 : Int) : List (Int × (List Int)) → ((List Int)) → (List Int)
  | [], sl1 => sl1
  | yl1 :: ysl1, sl1 => if (windroseref14_has_m yl1.2 a1) = true then (windroseref14_In_l1 a1 ysl1 ((sl1 ++ [yl1.1]))) else (windroseref14_In_l1 a1 ysl1 sl1)
def windroseref14_In_m (a0 : (List (Int × (List Int)))) (a1 : Int) : (List Int) :=
  LR.seq (windroseref14_In_l1 a1 a0 []) (fun ol1 => ol1)
set_option maxHeartbeats 3200000 in
theorem windroseref14_In_c (H : Heap) (a0 : (List (Int × (List Int)))) (va0_0 : Value) (ha0_0 : RdS listedE H va0_0 a0) (a1 : Int) (hl : a0.length ≤ 100000) : Fc Tryz.prog (fnv 8) [.agg #[va0_0], .int .i64 a1] H [] (fun v' H' L' => ∃ u0_0 c0_0, v' = u0_0 ∧ L' = [c0_0] ∧ OwnS (intE .u64) 43 H' u0_0 (windroseref14_In_m a0 a1) c0_0) := by
  refine Fc.of_body (N := 26) Tryz.func8 rfl kA rfl rfl ?_
  intro w0
  obtain ⟨Aa0_0, ca0_0, rfl, hca0_0, hda0_0, ha0_0⟩ := ha0_0.shape
  refine T.seq ?_
  refine T.region ?_
  refine R.box rfl cA ?_
  intro b2
  refine R.asE rfl cA ?_
  refine TL.shut .hd ?_
  intro Hb2_1 sb2_1 qb2_1
  have hb2_1 : Hb2_1 b2 = some (.cells #[.slice Aa0_0 a0.length ca0_0] 24) := shut1 qb2_1
  refine TL.nil (Post.thnN ?_)
  refine T.seq ?_
  refine T.region ?_
  refine R.asE rfl cA ?_
  refine TL.nil (Post.thnN ?_)
  refine T.seq ?_
  refine T.seq ?_
  refine T.region ?_
  refine R.fldA Tryz.underlying24 rfl Tryz.sizeOf22 (by decide) rfl rfl ?_
  refine R.ldH Tryz.isAgg22 rfl rfl hb2_1 rfl ?_
  refine R.len Tryz.underlying22 rfl rfl ?_
  refine R.mvE rfl cA ?_
  refine TL.nil (Post.thnN ?_)
  refine T.block ?_
  refine T.loop (ι := Nat × Value × (List Int) × Chunk) (fun ⟨kl1, v5l1, x5l1, c5l1⟩ H' L' ds' => kl1 ≤ a0.length ∧ Has L' [c5l1] ∧ OwnS (intE .u64) 43 H' v5l1 x5l1 c5l1 ∧ x5l1.length ≤ kl1 ∧ windroseref14_In_l1 a1 (a0.drop kl1) x5l1 = windroseref14_In_l1 a1 a0 []) (fun ⟨kl1, v5l1, x5l1, c5l1⟩ => [(11, .int .i64 (kl1 : Int)), (1, .int .i64 a1), (5, v5l1), (9, .slice Aa0_0 a0.length ca0_0), (10, .int .i64 (a0.length : Int))]) (fun ⟨kl1, v5l1, x5l1, c5l1⟩ => a0.length - kl1) (0, .slice none 0 0, [], []) ?_ ?_ ?_
  · exact ⟨oA, (Has.none Has.nil), OwnS.nil, bA, (by rfl)⟩
  · exact ⟨rfl, rfl, rfl, rfl, rfl, trivial⟩
  intro ⟨kl1, v5l1, x5l1, c5l1⟩ σ_l1 H_l1 L_l1 ds_l1 s_l1 hI_l1
  obtain ⟨hkl1, hI_l1⟩ := hI_l1
  obtain ⟨hLl1, w5l1, hBl1_0, hQl1⟩ := hI_l1
  obtain ⟨A5l1, p5l1, rfl, m5l1, n5l1_⟩ := OwnS.shape w5l1
  refine T.has hLl1 ?_
  refine T.seq ?_
  refine T.region ?_
  refine R.lss rfl rfl rfl ?_
  refine TL.nil (Post.thnN ?_)
  refine T.seq ?_
  refine T.condD rfl (fun c12 => ?_) (fun c12 => ?_)
  · have hltl1 : kl1 < a0.length := by omega
    obtain ⟨yl1, hyl1⟩ := getk (xs := a0) (k := kl1) oA
    refine T.skip (Post.thnN ?_)
    refine T.seq ?_
    refine T.block ?_
    refine T.seq ?_
    refine T.region ?_
    obtain ⟨b13, o13, i13, k13⟩ := RdS.elem (ha0_0.mono (sb2_1.trans s_l1)) hyl1
    obtain ⟨l13, g13, k13⟩ := k13
    obtain ⟨z13_1, rfl, r13_1⟩ := g13
    obtain ⟨A13_1, p13_1, rfl, m13_1, n13_1, r13_1⟩ := r13_1.shape
    refine R.ixp Tryz.underlying22 Tryz.sizeOf45 rfl rfl rfl oA i13 ?_
    refine R.ldK (l := [.int .u64 (yl1.1), .slice A13_1 yl1.2.length p13_1]) Tryz.isAgg45 Tryz.sizeOf45 rfl rfl k13 rfl ?_
    refine R.alloc Tryz.zeroValue45 rfl ?_
    intro b7
    refine R.stX (old := [.int .u64 0, .slice none 0 0]) (l := [.int .u64 (yl1.1), .slice A13_1 yl1.2.length p13_1]) (new := [.int .u64 (yl1.1), .slice A13_1 yl1.2.length p13_1]) (et := 45) Tryz.sizeOf45 rfl rfl rfl rfl rfl (by show 0 + 2 ≤ 2; decide) rfl (all_one rfl) .hd ?_
    refine TL.shut .hd ?_
    intro Hb7_2 sb7_2 qb7_2
    have hb7_2 : Hb7_2 b7 = some (.cells #[.int .u64 (yl1.1), .slice A13_1 yl1.2.length p13_1] 45) := shut1 qb7_2
    refine TL.nil (Post.thnN ?_)
    refine T.seq ?_
    refine T.region ?_
    refine R.fldA Tryz.underlying45 rfl Tryz.sizeOf25 (by decide) rfl rfl ?_
    refine R.ldH Tryz.isAgg25 rfl rfl hb7_2 rfl ?_
    refine R.mvE rfl cA ?_
    refine R.callv rfl rfl rfl (windroseref14_has_c _ _ yl1.2 (r13_1.mono sb7_2) (a1)) ?_
    refine TL.nil (Post.thnN ?_)
    refine T.cond rfl (fun c18 => ?_) (fun c18 => ?_)
    · refine T.set 18 (.bool true) (congrArg Value.bool c18) ?_
      refine T.region ?_
      refine R.mvE rfl cA ?_
      refine R.fldA Tryz.underlying45 rfl Tryz.sizeOf43 (by decide) rfl rfl ?_
      refine R.ldH Tryz.isAgg43 rfl rfl hb7_2 rfl ?_
      refine R.bs rfl (run_buildSlice1 Tryz.underlying30 Tryz.sizeOf43 Tryz.zeroValue43 rfl rfl) ?_
      intro b22
      have w22 : OwnS (intE .u64) 43 Hb7_2 (.slice (some ⟨b22, 0, none⟩) 1 1) [yl1.1] [(b22, .cells #[.int .u64 (yl1.1)] 43)] := OwnS.lit (xs := [yl1.1]) (cellsOf_cons (a := [.int .u64 (yl1.1)]) rfl cellsOf_nil) (by show 1 ≤ maxLen; decide)
      obtain ⟨k23, y23, r23⟩ := Src.ownA w22
      refine R.app (E := (intE .u64)) (e := 43) (xs := x5l1) (ys := [yl1.1]) Tryz_ty30 rfl rfl rfl (OwnS.mono w5l1 sb7_2) (.tl .hd) (r23 _ .hd) y23 (by (try simp only [List.length_append, List.length_cons, List.length_nil, List.length_replicate, List.length_take, List.length_drop]); omega) (by (try simp only [List.length_append, List.length_cons, List.length_nil, List.length_replicate, List.length_take, List.length_drop]); omega) ?_
      intro v23 c23 w23
      obtain ⟨A23, p23, rfl, m23, n23⟩ := OwnS.shape w23
      refine TL.del (.tl .hd) ?_
      refine R.asE rfl cA ?_
      refine TL.nil (Post.blkN ?_)
      refine id (Post.thnN ?_)
      refine T.region ?_
      refine R.addI rfl rfl rfl oA ?_
      refine R.mvE rfl cA ?_
      refine TL.nil (Post.thnN ?_)
      exact ⟨(kl1 + 1, .slice A23 (x5l1 ++ [yl1.1]).length p23, (x5l1 ++ [yl1.1]), c23), (s_l1.trans sb7_2), ⟨oA, (Has.cons .hd Has.nil), w23, bA, (by rw [← hQl1, drop_cons hyl1, windroseref14_In_l1]; rw [if_t c18])⟩, by show a0.length - (kl1 + 1) < a0.length - kl1; omega, rfl, rfl, rfl, rfl, rfl, trivial⟩
    refine T.set 18 (.bool false) (congrArg Value.bool c18) ?_
    refine T.skip (Post.blkN ?_)
    refine id (Post.thnN ?_)
    refine T.region ?_
    refine R.addI rfl rfl rfl oA ?_
    refine R.mvE rfl cA ?_
    refine TL.nil (Post.thnN ?_)
    exact ⟨(kl1 + 1, .slice A5l1 x5l1.length p5l1, x5l1, c5l1), (s_l1.trans sb7_2), ⟨oA, (Has.cons .hd Has.nil), (OwnS.mono w5l1 sb7_2), bA, (by rw [← hQl1, drop_cons hyl1, windroseref14_In_l1]; rw [if_f c18])⟩, by show a0.length - (kl1 + 1) < a0.length - kl1; omega, rfl, rfl, rfl, rfl, rfl, trivial⟩
  refine T.exit (Post.thnE (Post.thnE (Post.blkX ?_)))
  have hEl1 : windroseref14_In_l1 a1 a0 [] = x5l1 := (hQl1.symm.trans (by rw [show kl1 = a0.length by omega, List.drop_length, windroseref14_In_l1]))
  refine id (Post.thnN ?_)
  refine T.seq ?_
  refine T.region ?_
  refine R.mvE rfl cA ?_
  refine R.asE rfl cA ?_
  refine TL.nil (Post.thnN ?_)
  refine T.has (Has.cons .hd Has.nil) ?_
  refine T.ret ?_
  have hM : windroseref14_In_m a0 a1 = x5l1 := by rw [windroseref14_In_m, hEl1, LR.seq_go]
  exact fin1L (v := .slice A5l1 x5l1.length p5l1) [c5l1] rfl rfl (List.Sublist.refl _) ⟨.slice A5l1 x5l1.length p5l1, c5l1, by first | rw [hM] | rfl, rfl, by rw [hM]; exact w5l1⟩
def windroseref03_May_m (a0 : Int) : Bool :=
  if ((windroseref01_Kind_m a0) : Int) = 2 then true else ((decide (((windroseref01_Kind_m a0) : Int) = 3)))
set_option maxHeartbeats 3200000 in
theorem windroseref03_May_c (H : Heap) (a0 : Int) : Fv Tryz.prog (fnv 42) [.int .u64 a0] H (.bool (windroseref03_May_m a0)) := by
  refine Fc.of_body (N := 11) Tryz.func42 rfl kA rfl rfl ?_
  intro w0
  refine T.seq ?_
  refine T.region ?_
  refine R.asE rfl cA ?_
  refine TL.nil (Post.thnN ?_)
  refine T.seq ?_
  refine T.region ?_
  refine R.mvE rfl cA ?_
  refine R.callv rfl rfl rfl (windroseref01_Kind_c _ (a0)) ?_
  refine R.eql rfl rfl rfl ?_
  refine R.mvE rfl cA ?_
  refine TL.gsplitD 6 rfl (fun g6 => ?_) (fun g6 => ?_)
  · refine TL.off rfl rfl rfl ?_
    refine TL.off rfl rfl rfl ?_
    refine TL.off rfl rfl rfl ?_
    refine R.pkTE rfl rfl cA ?_
    refine R.asE rfl cA ?_
    refine TL.nil (Post.thnN ?_)
    refine T.has Has.nil ?_
    refine T.ret ?_
    have hM : windroseref03_May_m a0 = true := by rw [windroseref03_May_m, if_pos g6]
    exact fin1L (v := .bool true) [] rfl rfl (List.Sublist.refl _) ⟨rfl, by first | rw [hM] | rfl⟩
  refine R.mvE rfl cA ?_
  refine R.callv rfl rfl rfl (windroseref01_Kind_c _ (a0)) ?_
  refine R.eql rfl rfl rfl ?_
  refine R.pkFE rfl rfl cA ?_
  refine R.asE rfl cA ?_
  refine TL.nil (Post.thnN ?_)
  refine T.has Has.nil ?_
  refine T.ret ?_
  have hM : windroseref03_May_m a0 = (decide (((windroseref01_Kind_m a0) : Int) = 3)) := by rw [windroseref03_May_m, if_neg g6]
  exact fin1L (v := .bool (decide (((windroseref01_Kind_m a0) : Int) = 3))) [] rfl rfl (List.Sublist.refl _) ⟨rfl, by first | rw [hM] | rfl⟩
def windroseref03_Right_l1 (a0 : List Int) : List Int → Nat → Unit → LR (Bool) (Unit)
  | [], kl1, sl1 => .go ()
  | yl1 :: ysl1, kl1, sl1 => LR.seq (if (!(windroseref03_May_m yl1)) = true then true else (if (0 : Int) < (kl1 : Int) then ((decide (yl1 ≤ (a0.getD ((((kl1 : Int) - 1)).toNat) (0 : Int))))) else false) : Bool) (fun sc2 => if sc2 = true then (.ret false) else (windroseref03_Right_l1 a0 ysl1 (kl1 + 1) ()))
def windroseref03_Right_m (a0 : List Int) : Bool :=
  LR.on (windroseref03_Right_l1 a0 a0 0 ()) (fun r => r) (fun ol1 => (decide ((a0.length : Int) ≤ 12)))
set_option maxHeartbeats 3200000 in
theorem windroseref03_Right_c (H : Heap) (va0 : Value) (a0 : List Int) (ha0 : RdS (intE .u64) H va0 a0) : Fv Tryz.prog (fnv 13) [va0] H (.bool (windroseref03_Right_m a0)) := by
  refine Fc.of_body (N := 32) Tryz.func13 rfl kA rfl rfl ?_
  intro w0
  obtain ⟨Aa0, ca0, rfl, hca0, hda0, ha0⟩ := ha0.shape
  refine T.seq ?_
  refine T.region ?_
  refine R.asE rfl cA ?_
  refine TL.nil (Post.thnN ?_)
  refine T.seq ?_
  refine T.seq ?_
  refine T.region ?_
  refine R.mvE rfl cA ?_
  refine R.len Tryz.underlying30 rfl rfl ?_
  refine R.mvE rfl cA ?_
  refine TL.nil (Post.thnN ?_)
  refine T.block ?_
  refine T.loop (ι := Nat) (fun kl1 H' L' ds' => kl1 ≤ a0.length ∧ Has L' [] ∧ windroseref03_Right_l1 a0 (a0.drop kl1) kl1 () = windroseref03_Right_l1 a0 a0 0 ()) (fun kl1 => [(7, .int .i64 (kl1 : Int)), (0, .slice Aa0 a0.length ca0), (5, .slice Aa0 a0.length ca0), (6, .int .i64 (a0.length : Int))]) (fun kl1 => a0.length - kl1) 0 ?_ ?_ ?_
  · exact ⟨oA, Has.nil, (by rfl)⟩
  · exact ⟨rfl, rfl, rfl, rfl, trivial⟩
  intro kl1 σ_l1 H_l1 L_l1 ds_l1 s_l1 hI_l1
  obtain ⟨hkl1, hI_l1⟩ := hI_l1
  obtain ⟨hLl1, hQl1⟩ := hI_l1
  refine T.has hLl1 ?_
  refine T.seq ?_
  refine T.region ?_
  refine R.lss rfl rfl rfl ?_
  refine TL.nil (Post.thnN ?_)
  refine T.seq ?_
  refine T.condD rfl (fun c8 => ?_) (fun c8 => ?_)
  · have hltl1 : kl1 < a0.length := by omega
    obtain ⟨yl1, hyl1⟩ := getk (xs := a0) (k := kl1) oA
    refine T.skip (Post.thnN ?_)
    refine T.seq ?_
    refine T.block ?_
    refine T.seq ?_
    refine T.region ?_
    refine R.mvE rfl cA ?_
    obtain ⟨b10, o10, i10, k10⟩ := RdS.elem (ha0.mono s_l1) hyl1
    obtain ⟨l10, g10, k10⟩ := k10
    obtain rfl : l10 = [.int .u64 yl1] := g10
    refine R.ixp Tryz.underlying30 Tryz.sizeOf43 rfl rfl rfl oA i10 ?_
    refine R.ldC Tryz.isAgg43 rfl rfl (k10 0 _ rfl) ?_
    refine R.asE rfl cA ?_
    refine R.asE rfl cA ?_
    refine TL.nil (Post.thnN ?_)
    refine T.seq ?_
    refine T.cutK (ι := Bool) (fun b27c2 H' L' ds' => Has L' [] ∧ (if (!(windroseref03_May_m yl1)) = true then true else (if (0 : Int) < (kl1 : Int) then ((decide (yl1 ≤ (a0.getD ((((kl1 : Int) - 1)).toNat) (0 : Int))))) else false) : Bool) = b27c2) (fun b27c2 => [(0, .slice Aa0 a0.length ca0), (5, .slice Aa0 a0.length ca0), (6, .int .i64 (a0.length : Int)), (7, .int .i64 (kl1 : Int)), (27, .bool (b27c2))]) ?_ ?_
    · refine T.region ?_
      refine R.mvE rfl cA ?_
      refine R.callv rfl rfl rfl (windroseref03_May_c _ (yl1)) ?_
      refine R.not rfl rfl ?_
      refine R.mvE rfl cA ?_
      refine TL.gsplit 15 rfl (fun g15 => ?_) (fun g15 => ?_)
      · refine TL.off rfl rfl rfl ?_
        refine TL.off rfl rfl rfl ?_
        refine TL.off rfl rfl rfl ?_
        refine TL.offU rfl rfl ?_
        refine TL.offU rfl rfl ?_
        refine TL.offU rfl rfl ?_
        refine TL.offU rfl rfl ?_
        refine TL.offU rfl rfl ?_
        refine TL.offU rfl rfl ?_
        refine TL.offU rfl rfl ?_
        refine TL.off rfl rfl rfl ?_
        refine R.pkTE rfl rfl cA ?_
        refine TL.nil (Post.thnN ?_)
        exact ⟨true, HLe.refl _, ⟨Has.nil, (by rw [if_t g15])⟩, rfl, rfl, rfl, rfl, rfl, trivial⟩
      refine R.mvE rfl cA ?_
      refine R.gtr rfl rfl rfl ?_
      refine R.mvE rfl cA ?_
      refine TL.gsplitD 18 rfl (fun g18 => ?_) (fun g18 => ?_)
      · refine R.mvE rfl cA ?_
        refine R.mvE rfl cA ?_
        refine R.subI rfl rfl rfl oA ?_
        have hl22 : (((kl1 : Int) - 1)).toNat < a0.length := bA
        obtain ⟨y22, e22, h22⟩ : ∃ y, y = (a0.getD ((((kl1 : Int) - 1)).toNat) (0 : Int)) ∧ a0[(((kl1 : Int) - 1)).toNat]? = some y := ⟨_, rfl, getD_get (by first | exact hl22 | simpa using hl22 | (simp only [List.length_set]; omega) | omega | (rw [(sortI_perm _).length_eq]; exact hl22))⟩
        obtain ⟨b22, o22, i22, k22⟩ := RdS.elem (ha0.mono s_l1) h22
        obtain ⟨l22, g22, k22⟩ := k22
        obtain rfl : l22 = [.int .u64 y22] := g22
        refine R.ixp Tryz.underlying30 Tryz.sizeOf43 rfl rfl rfl bA i22 ?_
        refine R.ldC Tryz.isAgg43 rfl rfl (k22 0 _ rfl) ?_
        refine R.mvE rfl cA ?_
        refine R.geq rfl rfl rfl ?_
        refine R.pkTE rfl rfl cA ?_
        refine R.pkFE rfl rfl cA ?_
        refine TL.nil (Post.thnN ?_)
        exact ⟨(decide (yl1 ≤ y22)), HLe.refl _, ⟨Has.nil, (by subst e22; rw [if_f g15, if_pos g18])⟩, rfl, rfl, rfl, rfl, rfl, trivial⟩
      refine TL.off rfl rfl rfl ?_
      refine TL.off rfl rfl rfl ?_
      refine TL.off rfl rfl rfl ?_
      refine TL.off rfl rfl rfl ?_
      refine TL.off rfl rfl rfl ?_
      refine TL.off rfl rfl rfl ?_
      refine TL.off rfl rfl rfl ?_
      refine R.pkFE rfl rfl cA ?_
      refine R.pkFE rfl rfl cA ?_
      refine TL.nil (Post.thnN ?_)
      exact ⟨false, HLe.refl _, ⟨Has.nil, (by rw [if_f g15, if_neg g18])⟩, rfl, rfl, rfl, rfl, rfl, trivial⟩
    intro b27c2 σ_c2 H_c2 L_c2 ds_c2 s_c2 hI_c2
    obtain ⟨hLc2, hTc2⟩ := hI_c2
    refine T.has hLc2 ?_
    refine T.cond rfl (fun c27 => ?_) (fun c27 => ?_)
    · refine T.set 27 (.bool true) (congrArg Value.bool c27) ?_
      have hZ27 := hTc2.trans c27
      try simp only [or_f, or_t, and_f, and_t, decide_eq_true_eq, decide_eq_false_iff_not, Bool.not_eq_true'] at hZ27
      refine T.seq ?_
      refine T.region ?_
      refine R.asE rfl cA ?_
      refine TL.nil (Post.thnN ?_)
      refine T.has Has.nil ?_
      refine T.ret (Post.blkR (Post.thnR (Post.thnR (Post.blkR (Post.thnR ?_)))))
      have hXl1 : windroseref03_Right_l1 a0 a0 0 () = .ret false := by rw [← hQl1, drop_cons hyl1, windroseref03_Right_l1]; rw [hTc2, LR.seq_go, if_t c27]
      have hM : windroseref03_Right_m a0 = false := by rw [windroseref03_Right_m, hXl1, LR.on_ret]
      exact fin1L (v := .bool false) [] rfl rfl (List.Sublist.refl _) ⟨rfl, by first | rw [hM] | rfl⟩
    refine T.set 27 (.bool false) (congrArg Value.bool c27) ?_
    have hZ27 := hTc2.trans c27
    try simp only [or_f, or_t, and_f, and_t, decide_eq_true_eq, decide_eq_false_iff_not, Bool.not_eq_true'] at hZ27
    refine T.skip (Post.blkN ?_)
    refine id (Post.thnN ?_)
    refine T.region ?_
    refine R.addI rfl rfl rfl oA ?_
    refine R.mvE rfl cA ?_
    refine TL.nil (Post.thnN ?_)
    exact ⟨kl1 + 1, (s_l1.trans s_c2), ⟨oA, Has.nil, (by rw [← hQl1, drop_cons hyl1, windroseref03_Right_l1]; rw [hTc2, LR.seq_go, if_f c27])⟩, by show a0.length - (kl1 + 1) < a0.length - kl1; omega, rfl, rfl, rfl, rfl, trivial⟩
  refine T.exit (Post.thnE (Post.thnE (Post.blkX ?_)))
  have hEl1 : windroseref03_Right_l1 a0 a0 0 () = .go () := (hQl1.symm.trans (by rw [show kl1 = a0.length by omega, List.drop_length, windroseref03_Right_l1]))
  refine id (Post.thnN ?_)
  refine T.seq ?_
  refine T.region ?_
  refine R.mvE rfl cA ?_
  refine R.len Tryz.underlying30 rfl rfl ?_
  refine R.leq rfl rfl rfl ?_
  refine R.asE rfl cA ?_
  refine TL.nil (Post.thnN ?_)
  refine T.has Has.nil ?_
  refine T.ret ?_
  have hM : windroseref03_Right_m a0 = (decide ((a0.length : Int) ≤ 12)) := by rw [windroseref03_Right_m, hEl1, LR.on_go]
  exact fin1L (v := .bool (decide ((a0.length : Int) ≤ 12))) [] rfl rfl (List.Sublist.refl _) ⟨rfl, by first | rw [hM] | rfl⟩
def windroseref03_Same_l1 (a1 : List Int) : List Int → Nat → Unit → LR (Bool) (Unit)
  | [], kl1, sl1 => .go ()
  | yl1 :: ysl1, kl1, sl1 => if yl1 ≠ (a1.getD kl1 (0 : Int)) then (.ret false) else (windroseref03_Same_l1 a1 ysl1 (kl1 + 1) ())
def windroseref03_Same_m (a0 : List Int) (a1 : List Int) : Bool :=
  if (a0.length : Int) ≠ (a1.length : Int) then false else (LR.on (windroseref03_Same_l1 a1 a0 0 ()) (fun r => r) (fun ol1 => true))
set_option maxHeartbeats 3200000 in
theorem windroseref03_Same_c (H : Heap) (va0 : Value) (a0 : List Int) (ha0 : RdS (intE .u64) H va0 a0) (va1 : Value) (a1 : List Int) (ha1 : RdS (intE .u64) H va1 a1) : Fv Tryz.prog (fnv 29) [va0, va1] H (.bool (windroseref03_Same_m a0 a1)) := by
  refine Fc.of_body (N := 26) Tryz.func29 rfl kA rfl rfl ?_
  intro w0
  obtain ⟨Aa0, ca0, rfl, hca0, hda0, ha0⟩ := ha0.shape
  obtain ⟨Aa1, ca1, rfl, hca1, hda1, ha1⟩ := ha1.shape
  refine T.seq ?_
  refine T.region ?_
  refine R.asE rfl cA ?_
  refine TL.nil (Post.thnN ?_)
  refine T.seq ?_
  refine T.seq ?_
  refine T.region ?_
  refine R.mvE rfl cA ?_
  refine R.len Tryz.underlying30 rfl rfl ?_
  refine R.mvE rfl cA ?_
  refine R.len Tryz.underlying30 rfl rfl ?_
  refine R.neq rfl rfl rfl ?_
  refine TL.nil (Post.thnN ?_)
  refine T.condD rfl (fun c10 => ?_) (fun c10 => ?_)
  · refine T.set 10 (.bool true) (congrArg Value.bool (decide_eq_true c10)) ?_
    refine T.seq ?_
    refine T.region ?_
    refine R.asE rfl cA ?_
    refine TL.nil (Post.thnN ?_)
    refine T.has Has.nil ?_
    refine T.ret (Post.thnR ?_)
    have hM : windroseref03_Same_m a0 a1 = false := by rw [windroseref03_Same_m, if_pos c10]
    exact fin1L (v := .bool false) [] rfl rfl (List.Sublist.refl _) ⟨rfl, by first | rw [hM] | rfl⟩
  refine T.set 10 (.bool false) (congrArg Value.bool (decide_eq_false c10)) ?_
  refine T.skip (Post.thnN ?_)
  refine T.seq ?_
  refine T.seq ?_
  refine T.region ?_
  refine R.mvE rfl cA ?_
  refine R.len Tryz.underlying30 rfl rfl ?_
  refine R.mvE rfl cA ?_
  refine TL.nil (Post.thnN ?_)
  refine T.block ?_
  refine T.loop (ι := Nat) (fun kl1 H' L' ds' => kl1 ≤ a0.length ∧ Has L' [] ∧ windroseref03_Same_l1 a1 (a0.drop kl1) kl1 () = windroseref03_Same_l1 a1 a0 0 ()) (fun kl1 => [(13, .int .i64 (kl1 : Int)), (0, .slice Aa0 a0.length ca0), (1, .slice Aa1 a1.length ca1), (12, .int .i64 (a0.length : Int))]) (fun kl1 => a0.length - kl1) 0 ?_ ?_ ?_
  · exact ⟨oA, Has.nil, (by rfl)⟩
  · exact ⟨rfl, rfl, rfl, rfl, trivial⟩
  intro kl1 σ_l1 H_l1 L_l1 ds_l1 s_l1 hI_l1
  obtain ⟨hkl1, hI_l1⟩ := hI_l1
  obtain ⟨hLl1, hQl1⟩ := hI_l1
  refine T.has hLl1 ?_
  refine T.seq ?_
  refine T.region ?_
  refine R.lss rfl rfl rfl ?_
  refine TL.nil (Post.thnN ?_)
  refine T.seq ?_
  refine T.condD rfl (fun c14 => ?_) (fun c14 => ?_)
  · have hltl1 : kl1 < a0.length := by omega
    obtain ⟨yl1, hyl1⟩ := getk (xs := a0) (k := kl1) oA
    refine T.skip (Post.thnN ?_)
    refine T.seq ?_
    refine T.block ?_
    refine T.seq ?_
    refine T.region ?_
    refine R.mvE rfl cA ?_
    refine R.asE rfl cA ?_
    refine TL.nil (Post.thnN ?_)
    refine T.seq ?_
    refine T.draw Tryz_mixed kA ?_
    refine Plan.v 0 [1, 2, 3, 4, 5, 6, 7, 8] kA kA kA kA rfl (fun _ _ h_ => R.mvE rfl cA (TL.nil h_)) ?_
    refine Plan.v 1 [2, 3, 4, 5, 6, 7, 8] kA kA kA kA rfl (fun _ _ h_ => R.mvE rfl cA (TL.nil h_)) ?_
    obtain ⟨b18, o18, i18, k18⟩ := RdS.elem (ha0.mono s_l1) hyl1
    obtain ⟨l18, g18, k18⟩ := k18
    obtain rfl : l18 = [.int .u64 yl1] := g18
    refine Plan.v 2 [3, 4, 5, 6, 7, 8] kA kA kA kA rfl (fun _ _ h_ => R.ixp Tryz.underlying30 Tryz.sizeOf43 rfl rfl rfl oA i18 (TL.nil h_)) ?_
    refine Plan.v 3 [4, 5, 6, 7, 8] kA kA kA kA rfl (fun _ _ h_ => R.ldC Tryz.isAgg43 rfl rfl (k18 0 _ rfl) (TL.nil h_)) ?_
    refine Plan.v 4 [5, 6, 7, 8] kA kA kA kA rfl (fun _ _ h_ => R.mvE rfl cA (TL.nil h_)) ?_
    refine Plan.v 5 [6, 7, 8] kA kA kA kA rfl (fun _ _ h_ => R.mvE rfl cA (TL.nil h_)) ?_
    have hl22 : kl1 < a1.length := bA
    obtain ⟨y22, e22, h22⟩ : ∃ y, y = (a1.getD kl1 (0 : Int)) ∧ a1[kl1]? = some y := ⟨_, rfl, getD_get (by first | exact hl22 | simpa using hl22 | (simp only [List.length_set]; omega) | omega | (rw [(sortI_perm _).length_eq]; exact hl22))⟩
    obtain ⟨b22, o22, i22, k22⟩ := RdS.elem (ha1.mono s_l1) h22
    obtain ⟨l22, g22, k22⟩ := k22
    obtain rfl : l22 = [.int .u64 y22] := g22
    refine Plan.v 6 [7, 8] kA kA kA kA rfl (fun _ _ h_ => R.ixp Tryz.underlying30 Tryz.sizeOf43 rfl rfl rfl bA i22 (TL.nil h_)) ?_
    refine Plan.v 7 [8] kA kA kA kA rfl (fun _ _ h_ => R.ldC Tryz.isAgg43 rfl rfl (k22 0 _ rfl) (TL.nil h_)) ?_
    refine Plan.v 8 [] kA kA kA kA rfl (fun _ _ h_ => R.neq rfl rfl rfl (TL.nil h_)) ?_
    refine Plan.done (Post.thnN ?_)
    refine T.condD rfl (fun c24 => ?_) (fun c24 => ?_)
    · refine T.set 24 (.bool true) (congrArg Value.bool (decide_eq_true c24)) ?_
      refine T.seq ?_
      refine T.region ?_
      refine R.asE rfl cA ?_
      refine TL.nil (Post.thnN ?_)
      refine T.has Has.nil ?_
      refine T.ret (Post.blkR (Post.thnR (Post.thnR (Post.blkR (Post.thnR ?_)))))
      have hXl1 : windroseref03_Same_l1 a1 a0 0 () = .ret false := by subst e22; rw [← hQl1, drop_cons hyl1, windroseref03_Same_l1]; rw [if_pos c24]
      have hM : windroseref03_Same_m a0 a1 = false := by rw [windroseref03_Same_m, if_neg c10, hXl1, LR.on_ret]
      exact fin1L (v := .bool false) [] rfl rfl (List.Sublist.refl _) ⟨rfl, by first | rw [hM] | rfl⟩
    refine T.set 24 (.bool false) (congrArg Value.bool (decide_eq_false c24)) ?_
    refine T.skip (Post.blkN ?_)
    refine id (Post.thnN ?_)
    refine T.region ?_
    refine R.addI rfl rfl rfl oA ?_
    refine R.mvE rfl cA ?_
    refine TL.nil (Post.thnN ?_)
    exact ⟨kl1 + 1, s_l1, ⟨oA, Has.nil, (by subst e22; rw [← hQl1, drop_cons hyl1, windroseref03_Same_l1]; rw [if_neg c24])⟩, by show a0.length - (kl1 + 1) < a0.length - kl1; omega, rfl, rfl, rfl, rfl, trivial⟩
  refine T.exit (Post.thnE (Post.thnE (Post.blkX ?_)))
  have hEl1 : windroseref03_Same_l1 a1 a0 0 () = .go () := (hQl1.symm.trans (by rw [show kl1 = a0.length by omega, List.drop_length, windroseref03_Same_l1]))
  refine id (Post.thnN ?_)
  refine T.seq ?_
  refine T.region ?_
  refine R.asE rfl cA ?_
  refine TL.nil (Post.thnN ?_)
  refine T.has Has.nil ?_
  refine T.ret ?_
  have hM : windroseref03_Same_m a0 a1 = true := by rw [windroseref03_Same_m, if_neg c10, hEl1, LR.on_go]
  exact fin1L (v := .bool true) [] rfl rfl (List.Sublist.refl _) ⟨rfl, by first | rw [hM] | rfl⟩
def windroseref14_Right_l4 (a0 : (List (Int × (List Int)))) : List Int → Unit → LR (LR (Bool) (Unit)) (Unit)
  | [], sl4 => .go ()
  | yl4 :: ysl4, sl4 => LR.seq (windroseref14_Type_m a0 yl4) (fun r54 => LR.seq (if (!(windroseref03_Right_m r54)) = true then true else (LR.seq (windroseref14_Keys_m r54) (fun r60 => LR.seq (windroseref14_In_m a0 yl4) (fun r63 => (!(windroseref03_Same_m r60 r63))))) : Bool) (fun sc5 => if sc5 = true then (.ret (.ret false)) else (windroseref14_Right_l4 a0 ysl4 ())))
def windroseref14_Right_l3 (a0 : (List (Int × (List Int)))) : List (Int × (List Int)) → Unit → LR (Bool) (Unit)
  | [], sl3 => .go ()
  | yl3 :: ysl3, sl3 => LR.on (windroseref14_Right_l4 a0 yl3.2 ()) (fun r => r) (fun ol4 => windroseref14_Right_l3 a0 ysl3 ())
def windroseref14_Right_l1 (a0 : (List (Int × (List Int)))) : List (Int × (List Int)) → Nat → Unit → LR (Bool) (Unit)
  | [], kl1, sl1 => .go ()
  | yl1 :: ysl1, kl1, sl1 => LR.seq (if (!(windroseref14_row_m yl1)) = true then true else (if (0 : Int) < (kl1 : Int) then ((decide (yl1.1 ≤ (a0.getD ((((kl1 : Int) - 1)).toNat) (((0, []) : Int × (List Int)) : Int × (List Int))).1))) else false) : Bool) (fun sc2 => if sc2 = true then (.ret false) else (windroseref14_Right_l1 a0 ysl1 (kl1 + 1) ()))
def windroseref14_Right_m (a0 : (List (Int × (List Int)))) : Bool :=
  LR.on (windroseref14_Right_l1 a0 a0 0 ()) (fun r => r) (fun ol1 => LR.on (windroseref14_Right_l3 a0 a0 ()) (fun r => r) (fun ol3 => true))
set_option maxHeartbeats 3200000 in
theorem windroseref14_Right_c (H : Heap) (a0 : (List (Int × (List Int)))) (va0_0 : Value) (ha0_0 : RdS listedE H va0_0 a0) (hl : a0.length ≤ 100000) : Fv Tryz.prog (fnv 7) [.agg #[va0_0]] H (.bool (windroseref14_Right_m a0)) := by
  refine Fc.of_body (N := 69) Tryz.func7 rfl kA rfl rfl ?_
  intro w0
  obtain ⟨Aa0_0, ca0_0, rfl, hca0_0, hda0_0, ha0_0⟩ := ha0_0.shape
  refine T.seq ?_
  refine T.region ?_
  refine R.box rfl cA ?_
  intro b1
  refine R.asE rfl cA ?_
  refine TL.shut .hd ?_
  intro Hb1_1 sb1_1 qb1_1
  have hb1_1 : Hb1_1 b1 = some (.cells #[.slice Aa0_0 a0.length ca0_0] 24) := shut1 qb1_1
  refine TL.nil (Post.thnN ?_)
  refine T.seq ?_
  refine T.seq ?_
  refine T.region ?_
  refine R.fldA Tryz.underlying24 rfl Tryz.sizeOf22 (by decide) rfl rfl ?_
  refine R.ldH Tryz.isAgg22 rfl rfl hb1_1 rfl ?_
  refine R.len Tryz.underlying22 rfl rfl ?_
  refine R.mvE rfl cA ?_
  refine TL.nil (Post.thnN ?_)
  refine T.block ?_
  refine T.loop (ι := Nat) (fun kl1 H' L' ds' => kl1 ≤ a0.length ∧ Has L' [] ∧ windroseref14_Right_l1 a0 (a0.drop kl1) kl1 () = windroseref14_Right_l1 a0 a0 0 ()) (fun kl1 => [(13, .int .i64 (kl1 : Int)), (1, .pointer (some ⟨b1, 0, none⟩)), (11, .slice Aa0_0 a0.length ca0_0), (12, .int .i64 (a0.length : Int))]) (fun kl1 => a0.length - kl1) 0 ?_ ?_ ?_
  · exact ⟨oA, Has.nil, (by rfl)⟩
  · exact ⟨rfl, rfl, rfl, rfl, trivial⟩
  intro kl1 σ_l1 H_l1 L_l1 ds_l1 s_l1 hI_l1
  obtain ⟨hkl1, hI_l1⟩ := hI_l1
  obtain ⟨hLl1, hQl1⟩ := hI_l1
  refine T.has hLl1 ?_
  refine T.seq ?_
  refine T.region ?_
  refine R.lss rfl rfl rfl ?_
  refine TL.nil (Post.thnN ?_)
  refine T.seq ?_
  refine T.condD rfl (fun c14 => ?_) (fun c14 => ?_)
  · have hltl1 : kl1 < a0.length := by omega
    obtain ⟨yl1, hyl1⟩ := getk (xs := a0) (k := kl1) oA
    refine T.skip (Post.thnN ?_)
    refine T.seq ?_
    refine T.block ?_
    refine T.seq ?_
    refine T.region ?_
    refine R.mvE rfl cA ?_
    obtain ⟨b16, o16, i16, k16⟩ := RdS.elem (ha0_0.mono (sb1_1.trans s_l1)) hyl1
    obtain ⟨l16, g16, k16⟩ := k16
    obtain ⟨z16_1, rfl, r16_1⟩ := g16
    obtain ⟨A16_1, p16_1, rfl, m16_1, n16_1, r16_1⟩ := r16_1.shape
    refine R.ixp Tryz.underlying22 Tryz.sizeOf45 rfl rfl rfl oA i16 ?_
    refine R.ldK (l := [.int .u64 (yl1.1), .slice A16_1 yl1.2.length p16_1]) Tryz.isAgg45 Tryz.sizeOf45 rfl rfl k16 rfl ?_
    refine R.alloc Tryz.zeroValue45 rfl ?_
    intro b4
    refine R.asE rfl cA ?_
    refine R.stX (old := [.int .u64 0, .slice none 0 0]) (l := [.int .u64 (yl1.1), .slice A16_1 yl1.2.length p16_1]) (new := [.int .u64 (yl1.1), .slice A16_1 yl1.2.length p16_1]) (et := 45) Tryz.sizeOf45 rfl rfl rfl rfl rfl (by show 0 + 2 ≤ 2; decide) rfl (all_one rfl) .hd ?_
    refine TL.shut .hd ?_
    intro Hb4_2 sb4_2 qb4_2
    have hb4_2 : Hb4_2 b4 = some (.cells #[.int .u64 (yl1.1), .slice A16_1 yl1.2.length p16_1] 45) := shut1 qb4_2
    refine TL.nil (Post.thnN ?_)
    refine T.seq ?_
    refine T.cutK (ι := Bool) (fun b36c2 H' L' ds' => Has L' [] ∧ (if (!(windroseref14_row_m yl1)) = true then true else (if (0 : Int) < (kl1 : Int) then ((decide (yl1.1 ≤ (a0.getD ((((kl1 : Int) - 1)).toNat) (((0, []) : Int × (List Int)) : Int × (List Int))).1))) else false) : Bool) = b36c2) (fun b36c2 => [(1, .pointer (some ⟨b1, 0, none⟩)), (11, .slice Aa0_0 a0.length ca0_0), (12, .int .i64 (a0.length : Int)), (13, .int .i64 (kl1 : Int)), (36, .bool (b36c2))]) ?_ ?_
    · refine T.draw Tryz_mixed kA ?_
      refine Plan.v 0 [1, 2, 3, 4, 5, 6, 7, 8, 9, 10, 11, 12, 13, 14, 15, 16, 17, 18] kA kA kA kA rfl (fun _ _ h_ => R.ldXH (cs := [.int .u64 (yl1.1), .slice A16_1 yl1.2.length p16_1]) (l := [.int .u64 (yl1.1), .slice A16_1 yl1.2.length p16_1]) Tryz.isAgg45 Tryz.sizeOf45 rfl rfl hb4_2 rfl rfl (TL.nil h_)) ?_
      refine Plan.v 1 [2, 3, 4, 5, 6, 7, 8, 9, 10, 11, 12, 13, 14, 15, 16, 17, 18] kA kA kA kA rfl (fun _ _ h_ => R.callv rfl rfl rfl (windroseref14_row_c _ yl1 _ (r16_1.mono sb4_2)) (TL.nil h_)) ?_
      refine Plan.v 2 [3, 4, 5, 6, 7, 8, 9, 10, 11, 12, 13, 14, 15, 16, 17, 18] kA kA kA kA rfl (fun _ _ h_ => R.not rfl rfl (TL.nil h_)) ?_
      refine Plan.v 3 [4, 5, 6, 7, 8, 9, 10, 11, 12, 13, 14, 15, 16, 17, 18] kA kA kA kA rfl (fun _ _ h_ => R.mvE rfl cA (TL.nil h_)) ?_
      refine Plan.gsplit 21 rfl (fun g21 => ?_) (fun g21 => ?_)
      · refine Plan.v 4 [5, 6, 7, 8, 9, 10, 11, 12, 13, 14, 15, 16, 17, 18] kA kA kA kA rfl (fun _ _ h_ => TL.off rfl rfl rfl (TL.nil h_)) ?_
        refine Plan.v 5 [6, 7, 8, 9, 10, 11, 12, 13, 14, 15, 16, 17, 18] kA kA kA kA rfl (fun _ _ h_ => TL.off rfl rfl rfl (TL.nil h_)) ?_
        refine Plan.v 6 [7, 8, 9, 10, 11, 12, 13, 14, 15, 16, 17, 18] kA kA kA kA rfl (fun _ _ h_ => TL.off rfl rfl rfl (TL.nil h_)) ?_
        refine Plan.v 7 [8, 9, 10, 11, 12, 13, 14, 15, 16, 17, 18] kA kA kA kA rfl (fun _ _ h_ => TL.offU rfl rfl (TL.nil h_)) ?_
        refine Plan.v 8 [9, 10, 11, 12, 13, 14, 15, 16, 17, 18] kA kA kA kA rfl (fun _ _ h_ => TL.offU rfl rfl (TL.nil h_)) ?_
        refine Plan.v 9 [10, 11, 12, 13, 14, 15, 16, 17, 18] kA kA kA kA rfl (fun _ _ h_ => TL.offU rfl rfl (TL.nil h_)) ?_
        refine Plan.v 10 [11, 12, 13, 14, 15, 16, 17, 18] kA kA kA kA rfl (fun _ _ h_ => TL.offU rfl rfl (TL.nil h_)) ?_
        refine Plan.v 11 [12, 13, 14, 15, 16, 17, 18] kA kA kA kA rfl (fun _ _ h_ => TL.offU rfl rfl (TL.nil h_)) ?_
        refine Plan.v 12 [13, 14, 15, 16, 17, 18] kA kA kA kA rfl (fun _ _ h_ => TL.offU rfl rfl (TL.nil h_)) ?_
        refine Plan.v 13 [14, 15, 16, 17, 18] kA kA kA kA rfl (fun _ _ h_ => TL.offU rfl rfl (TL.nil h_)) ?_
        refine Plan.v 14 [15, 16, 17, 18] kA kA kA kA rfl (fun _ _ h_ => TL.offU rfl rfl (TL.nil h_)) ?_
        refine Plan.v 15 [16, 17, 18] kA kA kA kA rfl (fun _ _ h_ => TL.offU rfl rfl (TL.nil h_)) ?_
        refine Plan.v 16 [17, 18] kA kA kA kA rfl (fun _ _ h_ => TL.offU rfl rfl (TL.nil h_)) ?_
        refine Plan.v 17 [18] kA kA kA kA rfl (fun _ _ h_ => TL.off rfl rfl rfl (TL.nil h_)) ?_
        refine Plan.v 18 [] kA kA kA kA rfl (fun _ _ h_ => R.pkTE rfl rfl cA (TL.nil h_)) ?_
        refine Plan.done (Post.thnN ?_)
        exact ⟨true, HLe.refl _, ⟨Has.nil, (by rw [if_t g21])⟩, rfl, rfl, rfl, rfl, rfl, trivial⟩
      refine Plan.v 4 [5, 6, 7, 8, 9, 10, 11, 12, 13, 14, 15, 16, 17, 18] kA kA kA kA rfl (fun _ _ h_ => R.mvE rfl cA (TL.nil h_)) ?_
      refine Plan.v 5 [6, 7, 8, 9, 10, 11, 12, 13, 14, 15, 16, 17, 18] kA kA kA kA rfl (fun _ _ h_ => R.gtr rfl rfl rfl (TL.nil h_)) ?_
      refine Plan.v 6 [7, 8, 9, 10, 11, 12, 13, 14, 15, 16, 17, 18] kA kA kA kA rfl (fun _ _ h_ => R.mvE rfl cA (TL.nil h_)) ?_
      refine Plan.gsplitD 24 rfl (fun g24 => ?_) (fun g24 => ?_)
      · refine Plan.v 7 [8, 9, 10, 11, 12, 13, 14, 15, 16, 17, 18] kA kA kA kA rfl (fun _ _ h_ => R.fldA Tryz.underlying24 rfl Tryz.sizeOf22 (by decide) rfl rfl (TL.nil h_)) ?_
        refine Plan.v 8 [9, 10, 11, 12, 13, 14, 15, 16, 17, 18] kA kA kA kA rfl (fun _ _ h_ => R.ldH Tryz.isAgg22 rfl rfl ((s_l1.trans sb4_2) _ _ hb1_1) rfl (TL.nil h_)) ?_
        refine Plan.v 9 [10, 11, 12, 13, 14, 15, 16, 17, 18] kA kA kA kA rfl (fun _ _ h_ => R.mvE rfl cA (TL.nil h_)) ?_
        refine Plan.v 10 [11, 12, 13, 14, 15, 16, 17, 18] kA kA kA kA rfl (fun _ _ h_ => R.subI rfl rfl rfl oA (TL.nil h_)) ?_
        have hl29 : (((kl1 : Int) - 1)).toNat < a0.length := bA
        obtain ⟨y29, e29, h29⟩ : ∃ y, y = (a0.getD ((((kl1 : Int) - 1)).toNat) (((0, []) : Int × (List Int)) : Int × (List Int))) ∧ a0[(((kl1 : Int) - 1)).toNat]? = some y := ⟨_, rfl, getD_get (by first | exact hl29 | simpa using hl29 | (simp only [List.length_set]; omega) | omega | (rw [(sortI_perm _).length_eq]; exact hl29))⟩
        obtain ⟨b29, o29, i29, k29⟩ := RdS.elem (ha0_0.mono (sb1_1.trans (s_l1.trans sb4_2))) h29
        obtain ⟨l29, g29, k29⟩ := k29
        obtain ⟨z29_1, rfl, r29_1⟩ := g29
        obtain ⟨A29_1, p29_1, rfl, m29_1, n29_1, r29_1⟩ := r29_1.shape
        refine Plan.v 11 [12, 13, 14, 15, 16, 17, 18] kA kA kA kA rfl (fun _ _ h_ => R.ixp Tryz.underlying22 Tryz.sizeOf45 rfl rfl rfl bA i29 (TL.nil h_)) ?_
        refine Plan.v 12 [13, 14, 15, 16, 17, 18] kA kA kA kA rfl (fun _ _ h_ => R.fldA Tryz.underlying45 rfl Tryz.sizeOf43 (by decide) rfl rfl (TL.nil h_)) ?_
        refine Plan.v 13 [14, 15, 16, 17, 18] kA kA kA kA rfl (fun _ _ h_ => R.ldC Tryz.isAgg43 rfl rfl (k29 0 _ rfl) (TL.nil h_)) ?_
        refine Plan.v 14 [15, 16, 17, 18] kA kA kA kA rfl (fun _ _ h_ => R.fldA Tryz.underlying45 rfl Tryz.sizeOf43 (by decide) rfl rfl (TL.nil h_)) ?_
        refine Plan.v 15 [16, 17, 18] kA kA kA kA rfl (fun _ _ h_ => R.ldH Tryz.isAgg43 rfl rfl hb4_2 rfl (TL.nil h_)) ?_
        refine Plan.v 16 [17, 18] kA kA kA kA rfl (fun _ _ h_ => R.geq rfl rfl rfl (TL.nil h_)) ?_
        refine Plan.v 17 [18] kA kA kA kA rfl (fun _ _ h_ => R.pkTE rfl rfl cA (TL.nil h_)) ?_
        refine Plan.v 18 [] kA kA kA kA rfl (fun _ _ h_ => R.pkFE rfl rfl cA (TL.nil h_)) ?_
        refine Plan.done (Post.thnN ?_)
        exact ⟨(decide (yl1.1 ≤ y29.1)), HLe.refl _, ⟨Has.nil, (by subst e29; rw [if_f g21, if_pos g24])⟩, rfl, rfl, rfl, rfl, rfl, trivial⟩
      refine Plan.v 7 [8, 9, 10, 11, 12, 13, 14, 15, 16, 17, 18] kA kA kA kA rfl (fun _ _ h_ => TL.off rfl rfl rfl (TL.nil h_)) ?_
      refine Plan.v 8 [9, 10, 11, 12, 13, 14, 15, 16, 17, 18] kA kA kA kA rfl (fun _ _ h_ => TL.off rfl rfl rfl (TL.nil h_)) ?_
      refine Plan.v 9 [10, 11, 12, 13, 14, 15, 16, 17, 18] kA kA kA kA rfl (fun _ _ h_ => TL.off rfl rfl rfl (TL.nil h_)) ?_
      refine Plan.v 10 [11, 12, 13, 14, 15, 16, 17, 18] kA kA kA kA rfl (fun _ _ h_ => TL.off rfl rfl rfl (TL.nil h_)) ?_
      refine Plan.v 11 [12, 13, 14, 15, 16, 17, 18] kA kA kA kA rfl (fun _ _ h_ => TL.off rfl rfl rfl (TL.nil h_)) ?_
      refine Plan.v 12 [13, 14, 15, 16, 17, 18] kA kA kA kA rfl (fun _ _ h_ => TL.off rfl rfl rfl (TL.nil h_)) ?_
      refine Plan.v 13 [14, 15, 16, 17, 18] kA kA kA kA rfl (fun _ _ h_ => TL.off rfl rfl rfl (TL.nil h_)) ?_
      refine Plan.v 14 [15, 16, 17, 18] kA kA kA kA rfl (fun _ _ h_ => TL.off rfl rfl rfl (TL.nil h_)) ?_
      refine Plan.v 15 [16, 17, 18] kA kA kA kA rfl (fun _ _ h_ => TL.off rfl rfl rfl (TL.nil h_)) ?_
      refine Plan.v 16 [17, 18] kA kA kA kA rfl (fun _ _ h_ => TL.off rfl rfl rfl (TL.nil h_)) ?_
      refine Plan.v 17 [18] kA kA kA kA rfl (fun _ _ h_ => R.pkFE rfl rfl cA (TL.nil h_)) ?_
      refine Plan.v 18 [] kA kA kA kA rfl (fun _ _ h_ => R.pkFE rfl rfl cA (TL.nil h_)) ?_
      refine Plan.done (Post.thnN ?_)
      exact ⟨false, HLe.refl _, ⟨Has.nil, (by rw [if_f g21, if_neg g24])⟩, rfl, rfl, rfl, rfl, rfl, trivial⟩
    intro b36c2 σ_c2 H_c2 L_c2 ds_c2 s_c2 hI_c2
    obtain ⟨hLc2, hTc2⟩ := hI_c2
    refine T.has hLc2 ?_
    refine T.cond rfl (fun c36 => ?_) (fun c36 => ?_)
    · refine T.set 36 (.bool true) (congrArg Value.bool c36) ?_
      have hZ36 := hTc2.trans c36
      try simp only [or_f, or_t, and_f, and_t, decide_eq_true_eq, decide_eq_false_iff_not, Bool.not_eq_true'] at hZ36
      refine T.seq ?_
      refine T.region ?_
      refine R.asE rfl cA ?_
      refine TL.nil (Post.thnN ?_)
      refine T.has Has.nil ?_
      refine T.ret (Post.blkR (Post.thnR (Post.thnR (Post.blkR (Post.thnR ?_)))))
      have hXl1 : windroseref14_Right_l1 a0 a0 0 () = .ret false := by rw [← hQl1, drop_cons hyl1, windroseref14_Right_l1]; rw [hTc2, LR.seq_go, if_t c36]
      have hM : windroseref14_Right_m a0 = false := by rw [windroseref14_Right_m, hXl1, LR.on_ret]
      exact fin1L (v := .bool false) [] rfl rfl (List.Sublist.refl _) ⟨rfl, by first | rw [hM] | rfl⟩
    refine T.set 36 (.bool false) (congrArg Value.bool c36) ?_
    have hZ36 := hTc2.trans c36
    try simp only [or_f, or_t, and_f, and_t, decide_eq_true_eq, decide_eq_false_iff_not, Bool.not_eq_true'] at hZ36
    refine T.skip (Post.blkN ?_)
    refine id (Post.thnN ?_)
    refine T.region ?_
    refine R.addI rfl rfl rfl oA ?_
    refine R.mvE rfl cA ?_
    refine TL.nil (Post.thnN ?_)
    exact ⟨kl1 + 1, (s_l1.trans (sb4_2.trans s_c2)), ⟨oA, Has.nil, (by rw [← hQl1, drop_cons hyl1, windroseref14_Right_l1]; rw [hTc2, LR.seq_go, if_f c36])⟩, by show a0.length - (kl1 + 1) < a0.length - kl1; omega, rfl, rfl, rfl, rfl, trivial⟩
  refine T.exit (Post.thnE (Post.thnE (Post.blkX ?_)))
  have hEl1 : windroseref14_Right_l1 a0 a0 0 () = .go () := (hQl1.symm.trans (by rw [show kl1 = a0.length by omega, List.drop_length, windroseref14_Right_l1]))
  refine id (Post.thnN ?_)
  refine T.seq ?_
  refine T.seq ?_
  refine T.region ?_
  refine R.fldA Tryz.underlying24 rfl Tryz.sizeOf22 (by decide) rfl rfl ?_
  refine R.ldH Tryz.isAgg22 rfl rfl (s_l1 _ _ hb1_1) rfl ?_
  refine R.len Tryz.underlying22 rfl rfl ?_
  refine R.mvE rfl cA ?_
  refine TL.nil (Post.thnN ?_)
  refine T.block ?_
  refine T.loop (ι := Nat) (fun kl3 H' L' ds' => kl3 ≤ a0.length ∧ Has L' [] ∧ windroseref14_Right_l3 a0 (a0.drop kl3) () = windroseref14_Right_l3 a0 a0 ()) (fun kl3 => [(41, .int .i64 (kl3 : Int)), (1, .pointer (some ⟨b1, 0, none⟩)), (39, .slice Aa0_0 a0.length ca0_0), (40, .int .i64 (a0.length : Int))]) (fun kl3 => a0.length - kl3) 0 ?_ ?_ ?_
  · exact ⟨oA, Has.nil, (by rfl)⟩
  · exact ⟨rfl, rfl, rfl, rfl, trivial⟩
  intro kl3 σ_l3 H_l3 L_l3 ds_l3 s_l3 hI_l3
  obtain ⟨hkl3, hI_l3⟩ := hI_l3
  obtain ⟨hLl3, hQl3⟩ := hI_l3
  refine T.has hLl3 ?_
  refine T.seq ?_
  refine T.region ?_
  refine R.lss rfl rfl rfl ?_
  refine TL.nil (Post.thnN ?_)
  refine T.seq ?_
  refine T.condD rfl (fun c42 => ?_) (fun c42 => ?_)
  · have hltl3 : kl3 < a0.length := by omega
    obtain ⟨yl3, hyl3⟩ := getk (xs := a0) (k := kl3) oA
    refine T.skip (Post.thnN ?_)
    refine T.seq ?_
    refine T.block ?_
    refine T.seq ?_
    refine T.region ?_
    obtain ⟨b43, o43, i43, k43⟩ := RdS.elem (ha0_0.mono (sb1_1.trans (s_l1.trans s_l3))) hyl3
    obtain ⟨l43, g43, k43⟩ := k43
    obtain ⟨z43_1, rfl, r43_1⟩ := g43
    obtain ⟨A43_1, p43_1, rfl, m43_1, n43_1, r43_1⟩ := r43_1.shape
    refine R.ixp Tryz.underlying22 Tryz.sizeOf45 rfl rfl rfl oA i43 ?_
    refine R.ldK (l := [.int .u64 (yl3.1), .slice A43_1 yl3.2.length p43_1]) Tryz.isAgg45 Tryz.sizeOf45 rfl rfl k43 rfl ?_
    refine R.alloc Tryz.zeroValue45 rfl ?_
    intro b6
    refine R.stX (old := [.int .u64 0, .slice none 0 0]) (l := [.int .u64 (yl3.1), .slice A43_1 yl3.2.length p43_1]) (new := [.int .u64 (yl3.1), .slice A43_1 yl3.2.length p43_1]) (et := 45) Tryz.sizeOf45 rfl rfl rfl rfl rfl (by show 0 + 2 ≤ 2; decide) rfl (all_one rfl) .hd ?_
    refine TL.shut .hd ?_
    intro Hb6_3 sb6_3 qb6_3
    have hb6_3 : Hb6_3 b6 = some (.cells #[.int .u64 (yl3.1), .slice A43_1 yl3.2.length p43_1] 45) := shut1 qb6_3
    refine TL.nil (Post.thnN ?_)
    refine T.seq ?_
    refine T.region ?_
    refine R.fldA Tryz.underlying45 rfl Tryz.sizeOf25 (by decide) rfl rfl ?_
    refine R.ldH Tryz.isAgg25 rfl rfl hb6_3 rfl ?_
    refine R.len Tryz.underlying25 rfl rfl ?_
    refine R.mvE rfl cA ?_
    refine TL.nil (Post.thnN ?_)
    refine T.block ?_
    refine T.loop (ι := Nat) (fun kl4 H' L' ds' => kl4 ≤ yl3.2.length ∧ Has L' [] ∧ windroseref14_Right_l4 a0 (yl3.2.drop kl4) () = windroseref14_Right_l4 a0 yl3.2 ()) (fun kl4 => [(48, .int .i64 (kl4 : Int)), (1, .pointer (some ⟨b1, 0, none⟩)), (39, .slice Aa0_0 a0.length ca0_0), (40, .int .i64 (a0.length : Int)), (41, .int .i64 (kl3 : Int)), (46, .slice A43_1 yl3.2.length p43_1), (47, .int .i64 (yl3.2.length : Int))]) (fun kl4 => yl3.2.length - kl4) 0 ?_ ?_ ?_
    · exact ⟨oA, Has.nil, (by rfl)⟩
    · exact ⟨rfl, rfl, rfl, rfl, rfl, rfl, rfl, trivial⟩
    intro kl4 σ_l4 H_l4 L_l4 ds_l4 s_l4 hI_l4
    obtain ⟨hkl4, hI_l4⟩ := hI_l4
    obtain ⟨hLl4, hQl4⟩ := hI_l4
    refine T.has hLl4 ?_
    refine T.seq ?_
    refine T.region ?_
    refine R.lss rfl rfl rfl ?_
    refine TL.nil (Post.thnN ?_)
    refine T.seq ?_
    refine T.condD rfl (fun c49 => ?_) (fun c49 => ?_)
    · have hltl4 : kl4 < yl3.2.length := by omega
      obtain ⟨yl4, hyl4⟩ := getk (xs := yl3.2) (k := kl4) oA
      refine T.skip (Post.thnN ?_)
      refine T.seq ?_
      refine T.block ?_
      refine T.seq ?_
      refine T.region ?_
      obtain ⟨b50, o50, i50, k50⟩ := RdS.elem (r43_1.mono (sb6_3.trans s_l4)) hyl4
      obtain ⟨l50, g50, k50⟩ := k50
      obtain rfl : l50 = [.int .i64 yl4] := g50
      refine R.ixp Tryz.underlying25 Tryz.sizeOf3 rfl rfl rfl oA i50 ?_
      refine R.ldC Tryz.isAgg3 rfl rfl (k50 0 _ rfl) ?_
      refine R.asE rfl cA ?_
      refine TL.nil (Post.thnN ?_)
      refine T.seq ?_
      refine T.region ?_
      refine R.ldXH (cs := [.slice Aa0_0 a0.length ca0_0]) (l := [.slice Aa0_0 a0.length ca0_0]) Tryz.isAgg24 Tryz.sizeOf24 rfl rfl ((s_l1.trans (s_l3.trans (sb6_3.trans s_l4))) _ _ hb1_1) rfl rfl ?_
      refine R.mvE rfl cA ?_
      obtain ⟨r54, er54⟩ : ∃ r, r = (windroseref14_Type_m a0 yl4) := ⟨_, rfl⟩
      refine TL.call [] rfl rfl rfl (windroseref14_Type_c _ a0 _ (ha0_0.mono (sb1_1.trans (s_l1.trans (s_l3.trans (sb6_3.trans s_l4))))) (yl4) bA) ?_
      intro v54 H54 L54 s54 q54
      rw [← er54] at q54
      obtain ⟨u54_0_0, c54_0_0, rfl, rfl, w54_0_0⟩ := q54
      obtain ⟨A54_0_0, p54_0_0, rfl, m54_0_0, n54_0_0⟩ := OwnS.shape w54_0_0
      have trt54 := rtype_len _ _ _ er54
      refine R.asE rfl cA ?_
      refine TL.nil (Post.thnN ?_)
      refine T.seq ?_
      refine T.cutK (ι := Bool) (fun b66c5 H' L' ds' => Has L' [] ∧ (if (!(windroseref03_Right_m r54)) = true then true else (LR.seq (windroseref14_Keys_m r54) (fun r60 => LR.seq (windroseref14_In_m a0 yl4) (fun r63 => (!(windroseref03_Same_m r60 r63))))) : Bool) = b66c5) (fun b66c5 => [(1, .pointer (some ⟨b1, 0, none⟩)), (39, .slice Aa0_0 a0.length ca0_0), (40, .int .i64 (a0.length : Int)), (41, .int .i64 (kl3 : Int)), (46, .slice A43_1 yl3.2.length p43_1), (47, .int .i64 (yl3.2.length : Int)), (48, .int .i64 (kl4 : Int)), (66, .bool (b66c5))]) ?_ ?_
      · refine T.draw Tryz_mixed kA ?_
        refine Plan.v 0 [1, 2, 3, 4, 5, 6, 7, 8, 9, 10, 11] kA kA kA kA rfl (fun _ _ h_ => R.mvE rfl cA (TL.nil h_)) ?_
        refine Plan.s1 1 [2, 3, 4, 5, 6, 7, 8, 9, 10, 11] kA kA rfl ?_
        refine TL.shut .hd ?_
        intro HF54_0_0_5 sF54_0_0_5 qF54_0_0_5
        have fF54_0_0_5 := OwnS.read w54_0_0 sF54_0_0_5 qF54_0_0_5
        refine R.callv rfl rfl rfl (windroseref03_Right_c _ _ r54 fF54_0_0_5) ?_
        refine TL.nil (Plan.e1 (sF54_0_0_5) ?_)
        refine Plan.v 2 [3, 4, 5, 6, 7, 8, 9, 10, 11] kA kA kA kA rfl (fun _ _ h_ => R.not rfl rfl (TL.nil h_)) ?_
        refine Plan.v 3 [4, 5, 6, 7, 8, 9, 10, 11] kA kA kA kA rfl (fun _ _ h_ => R.mvE rfl cA (TL.nil h_)) ?_
        refine Plan.gsplit 58 rfl (fun g58 => ?_) (fun g58 => ?_)
        · refine Plan.v 4 [5, 6, 7, 8, 9, 10, 11] kA kA kA kA rfl (fun _ _ h_ => TL.off rfl rfl rfl (TL.nil h_)) ?_
          refine Plan.v 5 [6, 7, 8, 9, 10, 11] kA kA kA kA rfl (fun _ _ h_ => TL.off rfl rfl rfl (TL.nil h_)) ?_
          refine Plan.v 6 [7, 8, 9, 10, 11] kA kA kA kA rfl (fun _ _ h_ => TL.off rfl rfl rfl (TL.nil h_)) ?_
          refine Plan.v 7 [8, 9, 10, 11] kA kA kA kA rfl (fun _ _ h_ => TL.off rfl rfl rfl (TL.nil h_)) ?_
          refine Plan.v 8 [9, 10, 11] kA kA kA kA rfl (fun _ _ h_ => TL.off rfl rfl rfl (TL.nil h_)) ?_
          refine Plan.v 9 [10, 11] kA kA kA kA rfl (fun _ _ h_ => TL.off rfl rfl rfl (TL.nil h_)) ?_
          refine Plan.v 10 [11] kA kA kA kA rfl (fun _ _ h_ => TL.off rfl rfl rfl (TL.nil h_)) ?_
          refine Plan.v 11 [] kA kA kA kA rfl (fun _ _ h_ => R.pkTE rfl rfl cA (TL.nil h_)) ?_
          refine Plan.done (Post.thnN ?_)
          exact ⟨true, sF54_0_0_5, ⟨Has.nil, (by rw [if_t g58])⟩, rfl, rfl, rfl, rfl, rfl, rfl, rfl, rfl, trivial⟩
        refine Plan.v 4 [5, 6, 7, 8, 9, 10, 11] kA kA kA kA rfl (fun _ _ h_ => R.mvE rfl cA (TL.nil h_)) ?_
        refine Plan.v 6 [5, 7, 8, 9, 10, 11] kA kA kA kA rfl (fun _ _ h_ => R.ldXH (cs := [.slice Aa0_0 a0.length ca0_0]) (l := [.slice Aa0_0 a0.length ca0_0]) Tryz.isAgg24 Tryz.sizeOf24 rfl rfl ((s_l1.trans (s_l3.trans (sb6_3.trans (s_l4.trans (s54.trans sF54_0_0_5))))) _ _ hb1_1) rfl rfl (TL.nil h_)) ?_
        refine Plan.v 7 [5, 8, 9, 10, 11] kA kA kA kA rfl (fun _ _ h_ => R.mvE rfl cA (TL.nil h_)) ?_
        refine Plan.s1 5 [8, 9, 10, 11] kA kA rfl ?_
        obtain ⟨r60, er60⟩ : ∃ r, r = (windroseref14_Keys_m r54) := ⟨_, rfl⟩
        refine R.callp rfl rfl rfl (windroseref14_Keys_c _ _ r54 fF54_0_0_5 bA) ?_
        intro v60 H60 s60 q60
        rw [← er60] at q60
        obtain ⟨u60_0_0, rfl, w60_0_0⟩ := q60
        obtain ⟨A60_0_0, p60_0_0, rfl, m60_0_0, n60_0_0, w60_0_0⟩ := RdS.shape w60_0_0
        refine TL.nil (Plan.e1 (s60) ?_)
        refine Plan.s1 8 [9, 10, 11] kA kA rfl ?_
        obtain ⟨r63, er63⟩ : ∃ r, r = (windroseref14_In_m a0 yl4) := ⟨_, rfl⟩
        refine TL.call [] rfl rfl rfl (windroseref14_In_c _ a0 _ (ha0_0.mono (sb1_1.trans (s_l1.trans (s_l3.trans (sb6_3.trans (s_l4.trans (s54.trans (sF54_0_0_5.trans s60)))))))) (yl4) bA) ?_
        intro v63 H63 L63 s63 q63
        rw [← er63] at q63
        obtain ⟨u63_0_0, c63_0_0, rfl, rfl, w63_0_0⟩ := q63
        obtain ⟨A63_0_0, p63_0_0, rfl, m63_0_0, n63_0_0⟩ := OwnS.shape w63_0_0
        refine TL.nil (Plan.e1 (s63) ?_)
        refine Plan.s1 9 [10, 11] kA kA rfl ?_
        refine TL.shut .hd ?_
        intro HF63_0_0_7 sF63_0_0_7 qF63_0_0_7
        have fF63_0_0_7 := OwnS.read w63_0_0 sF63_0_0_7 qF63_0_0_7
        refine R.callv rfl rfl rfl (windroseref03_Same_c _ _ r60 (w60_0_0.mono (s63.trans sF63_0_0_7)) _ r63 fF63_0_0_7) ?_
        refine TL.nil (Plan.e1 (sF63_0_0_7) ?_)
        refine Plan.v 10 [11] kA kA kA kA rfl (fun _ _ h_ => R.not rfl rfl (TL.nil h_)) ?_
        refine Plan.v 11 [] kA kA kA kA rfl (fun _ _ h_ => R.pkFE rfl rfl cA (TL.nil h_)) ?_
        refine Plan.done (Post.thnN ?_)
        exact ⟨(!(windroseref03_Same_m r60 r63)), (sF54_0_0_5.trans (s60.trans (s63.trans sF63_0_0_7))), ⟨Has.nil, (by subst er63; subst er60; rw [if_f g58, LR.seq_go, LR.seq_go])⟩, rfl, rfl, rfl, rfl, rfl, rfl, rfl, rfl, trivial⟩
      intro b66c5 σ_c5 H_c5 L_c5 ds_c5 s_c5 hI_c5
      obtain ⟨hLc5, hTc5⟩ := hI_c5
      refine T.has hLc5 ?_
      refine T.cond rfl (fun c66 => ?_) (fun c66 => ?_)
      · refine T.set 66 (.bool true) (congrArg Value.bool c66) ?_
        have hZ66 := hTc5.trans c66
        try simp only [or_f, or_t, and_f, and_t, decide_eq_true_eq, decide_eq_false_iff_not, Bool.not_eq_true'] at hZ66
        refine T.seq ?_
        refine T.region ?_
        refine R.asE rfl cA ?_
        refine TL.nil (Post.thnN ?_)
        refine T.has Has.nil ?_
        refine T.ret (Post.blkR (Post.thnR (Post.thnR (Post.blkR (Post.blkR (Post.thnR (Post.thnR (Post.blkR (Post.thnR ?_)))))))))
        have hXl4 : windroseref14_Right_l4 a0 yl3.2 () = .ret (.ret false) := by subst er54; rw [← hQl4, drop_cons hyl4, windroseref14_Right_l4]; rw [LR.seq_go, hTc5, LR.seq_go, if_t c66]
        have hXl3 : windroseref14_Right_l3 a0 a0 () = .ret false := by rw [← hQl3, drop_cons hyl3, windroseref14_Right_l3]; rw [hXl4, LR.on_ret]
        have hM : windroseref14_Right_m a0 = false := by rw [windroseref14_Right_m, hEl1, LR.on_go, hXl3, LR.on_ret]
        exact fin1L (v := .bool false) [] rfl rfl (List.Sublist.refl _) ⟨rfl, by first | rw [hM] | rfl⟩
      refine T.set 66 (.bool false) (congrArg Value.bool c66) ?_
      have hZ66 := hTc5.trans c66
      try simp only [or_f, or_t, and_f, and_t, decide_eq_true_eq, decide_eq_false_iff_not, Bool.not_eq_true'] at hZ66
      refine T.skip (Post.blkN ?_)
      refine id (Post.thnN ?_)
      refine T.region ?_
      refine R.addI rfl rfl rfl oA ?_
      refine R.mvE rfl cA ?_
      refine TL.nil (Post.thnN ?_)
      exact ⟨kl4 + 1, (s_l4.trans (s54.trans s_c5)), ⟨oA, Has.nil, (by subst er54; rw [← hQl4, drop_cons hyl4, windroseref14_Right_l4]; rw [LR.seq_go, hTc5, LR.seq_go, if_f c66])⟩, by show yl3.2.length - (kl4 + 1) < yl3.2.length - kl4; omega, rfl, rfl, rfl, rfl, rfl, rfl, rfl, trivial⟩
    refine T.exit (Post.thnE (Post.thnE (Post.blkX ?_)))
    have hEl4 : windroseref14_Right_l4 a0 yl3.2 () = .go () := (hQl4.symm.trans (by rw [show kl4 = yl3.2.length by omega, List.drop_length, windroseref14_Right_l4]))
    refine id (Post.blkN ?_)
    refine id (Post.thnN ?_)
    refine T.region ?_
    refine R.addI rfl rfl rfl oA ?_
    refine R.mvE rfl cA ?_
    refine TL.nil (Post.thnN ?_)
    exact ⟨kl3 + 1, (s_l3.trans (sb6_3.trans s_l4)), ⟨oA, Has.nil, (by rw [← hQl3, drop_cons hyl3, windroseref14_Right_l3]; rw [hEl4, LR.on_go])⟩, by show a0.length - (kl3 + 1) < a0.length - kl3; omega, rfl, rfl, rfl, rfl, trivial⟩
  refine T.exit (Post.thnE (Post.thnE (Post.blkX ?_)))
  have hEl3 : windroseref14_Right_l3 a0 a0 () = .go () := (hQl3.symm.trans (by rw [show kl3 = a0.length by omega, List.drop_length, windroseref14_Right_l3]))
  refine id (Post.thnN ?_)
  refine T.seq ?_
  refine T.region ?_
  refine R.asE rfl cA ?_
  refine TL.nil (Post.thnN ?_)
  refine T.has Has.nil ?_
  refine T.ret ?_
  have hM : windroseref14_Right_m a0 = true := by rw [windroseref14_Right_m, hEl1, LR.on_go, hEl3, LR.on_go]
  exact fin1L (v := .bool true) [] rfl rfl (List.Sublist.refl _) ⟨rfl, by first | rw [hM] | rfl⟩
def windroseref14_Find_l1 (a1 : Int) : List (Int × (List Int)) → Unit → LR ((List Int)) (Unit)
  | [], sl1 => .go ()
  | yl1 :: ysl1, sl1 => if yl1.1 = a1 then (.ret yl1.2) else (windroseref14_Find_l1 a1 ysl1 ())
def windroseref14_Find_m (a0 : (List (Int × (List Int)))) (a1 : Int) : (List Int) :=
  LR.on (windroseref14_Find_l1 a1 a0 ()) (fun r => r) (fun ol1 => [])
def windroseref14_sameTables_l1 (a1 : List Int) : List Int → Nat → Unit → LR (Bool) (Unit)
  | [], kl1, sl1 => .go ()
  | yl1 :: ysl1, kl1, sl1 => if yl1 ≠ (a1.getD kl1 (0 : Int)) then (.ret false) else (windroseref14_sameTables_l1 a1 ysl1 (kl1 + 1) ())
def windroseref14_sameTables_m (a0 : List Int) (a1 : List Int) : Bool :=
  if (a0.length : Int) ≠ (a1.length : Int) then false else (LR.on (windroseref14_sameTables_l1 a1 a0 0 ()) (fun r => r) (fun ol1 => true))
set_option maxHeartbeats 3200000 in
theorem windroseref14_sameTables_c (H : Heap) (va0 : Value) (a0 : List Int) (ha0 : RdS (intE .i64) H va0 a0) (va1 : Value) (a1 : List Int) (ha1 : RdS (intE .i64) H va1 a1) : Fv Tryz.prog (fnv 51) [va0, va1] H (.bool (windroseref14_sameTables_m a0 a1)) := by
  refine Fc.of_body (N := 26) Tryz.func51 rfl kA rfl rfl ?_
  intro w0
  obtain ⟨Aa0, ca0, rfl, hca0, hda0, ha0⟩ := ha0.shape
  obtain ⟨Aa1, ca1, rfl, hca1, hda1, ha1⟩ := ha1.shape
  refine T.seq ?_
  refine T.region ?_
  refine R.asE rfl cA ?_
  refine TL.nil (Post.thnN ?_)
  refine T.seq ?_
  refine T.seq ?_
  refine T.region ?_
  refine R.mvE rfl cA ?_
  refine R.len Tryz.underlying25 rfl rfl ?_
  refine R.mvE rfl cA ?_
  refine R.len Tryz.underlying25 rfl rfl ?_
  refine R.neq rfl rfl rfl ?_
  refine TL.nil (Post.thnN ?_)
  refine T.condD rfl (fun c11 => ?_) (fun c11 => ?_)
  · refine T.set 11 (.bool true) (congrArg Value.bool (decide_eq_true c11)) ?_
    refine T.seq ?_
    refine T.region ?_
    refine R.asE rfl cA ?_
    refine TL.nil (Post.thnN ?_)
    refine T.has Has.nil ?_
    refine T.ret (Post.thnR ?_)
    have hM : windroseref14_sameTables_m a0 a1 = false := by rw [windroseref14_sameTables_m, if_pos c11]
    exact fin1L (v := .bool false) [] rfl rfl (List.Sublist.refl _) ⟨rfl, by first | rw [hM] | rfl⟩
  refine T.set 11 (.bool false) (congrArg Value.bool (decide_eq_false c11)) ?_
  refine T.skip (Post.thnN ?_)
  refine T.seq ?_
  refine T.seq ?_
  refine T.region ?_
  refine R.mvE rfl cA ?_
  refine R.len Tryz.underlying25 rfl rfl ?_
  refine R.mvE rfl cA ?_
  refine TL.nil (Post.thnN ?_)
  refine T.block ?_
  refine T.loop (ι := Nat) (fun kl1 H' L' ds' => kl1 ≤ a0.length ∧ Has L' [] ∧ windroseref14_sameTables_l1 a1 (a0.drop kl1) kl1 () = windroseref14_sameTables_l1 a1 a0 0 ()) (fun kl1 => [(14, .int .i64 (kl1 : Int)), (1, .slice Aa1 a1.length ca1), (12, .slice Aa0 a0.length ca0), (13, .int .i64 (a0.length : Int))]) (fun kl1 => a0.length - kl1) 0 ?_ ?_ ?_
  · exact ⟨oA, Has.nil, (by rfl)⟩
  · exact ⟨rfl, rfl, rfl, rfl, trivial⟩
  intro kl1 σ_l1 H_l1 L_l1 ds_l1 s_l1 hI_l1
  obtain ⟨hkl1, hI_l1⟩ := hI_l1
  obtain ⟨hLl1, hQl1⟩ := hI_l1
  refine T.has hLl1 ?_
  refine T.seq ?_
  refine T.region ?_
  refine R.lss rfl rfl rfl ?_
  refine TL.nil (Post.thnN ?_)
  refine T.seq ?_
  refine T.condD rfl (fun c15 => ?_) (fun c15 => ?_)
  · have hltl1 : kl1 < a0.length := by omega
    obtain ⟨yl1, hyl1⟩ := getk (xs := a0) (k := kl1) oA
    refine T.skip (Post.thnN ?_)
    refine T.seq ?_
    refine T.block ?_
    refine T.seq ?_
    refine T.region ?_
    refine R.mvE rfl cA ?_
    obtain ⟨b17, o17, i17, k17⟩ := RdS.elem (ha0.mono s_l1) hyl1
    obtain ⟨l17, g17, k17⟩ := k17
    obtain rfl : l17 = [.int .i64 yl1] := g17
    refine R.ixp Tryz.underlying25 Tryz.sizeOf3 rfl rfl rfl oA i17 ?_
    refine R.ldC Tryz.isAgg3 rfl rfl (k17 0 _ rfl) ?_
    refine R.asE rfl cA ?_
    refine R.asE rfl cA ?_
    refine TL.nil (Post.thnN ?_)
    refine T.seq ?_
    refine T.region ?_
    refine R.mvE rfl cA ?_
    refine R.mvE rfl cA ?_
    refine R.mvE rfl cA ?_
    have hl22 : kl1 < a1.length := bA
    obtain ⟨y22, e22, h22⟩ : ∃ y, y = (a1.getD kl1 (0 : Int)) ∧ a1[kl1]? = some y := ⟨_, rfl, getD_get (by first | exact hl22 | simpa using hl22 | (simp only [List.length_set]; omega) | omega | (rw [(sortI_perm _).length_eq]; exact hl22))⟩
    obtain ⟨b22, o22, i22, k22⟩ := RdS.elem (ha1.mono s_l1) h22
    obtain ⟨l22, g22, k22⟩ := k22
    obtain rfl : l22 = [.int .i64 y22] := g22
    refine R.ixp Tryz.underlying25 Tryz.sizeOf3 rfl rfl rfl bA i22 ?_
    refine R.ldC Tryz.isAgg3 rfl rfl (k22 0 _ rfl) ?_
    refine R.neq rfl rfl rfl ?_
    refine TL.nil (Post.thnN ?_)
    refine T.condD rfl (fun c24 => ?_) (fun c24 => ?_)
    · refine T.set 24 (.bool true) (congrArg Value.bool (decide_eq_true c24)) ?_
      refine T.seq ?_
      refine T.region ?_
      refine R.asE rfl cA ?_
      refine TL.nil (Post.thnN ?_)
      refine T.has Has.nil ?_
      refine T.ret (Post.blkR (Post.thnR (Post.thnR (Post.blkR (Post.thnR ?_)))))
      have hXl1 : windroseref14_sameTables_l1 a1 a0 0 () = .ret false := by subst e22; rw [← hQl1, drop_cons hyl1, windroseref14_sameTables_l1]; rw [if_pos c24]
      have hM : windroseref14_sameTables_m a0 a1 = false := by rw [windroseref14_sameTables_m, if_neg c11, hXl1, LR.on_ret]
      exact fin1L (v := .bool false) [] rfl rfl (List.Sublist.refl _) ⟨rfl, by first | rw [hM] | rfl⟩
    refine T.set 24 (.bool false) (congrArg Value.bool (decide_eq_false c24)) ?_
    refine T.skip (Post.blkN ?_)
    refine id (Post.thnN ?_)
    refine T.region ?_
    refine R.addI rfl rfl rfl oA ?_
    refine R.mvE rfl cA ?_
    refine TL.nil (Post.thnN ?_)
    exact ⟨kl1 + 1, s_l1, ⟨oA, Has.nil, (by subst e22; rw [← hQl1, drop_cons hyl1, windroseref14_sameTables_l1]; rw [if_neg c24])⟩, by show a0.length - (kl1 + 1) < a0.length - kl1; omega, rfl, rfl, rfl, rfl, trivial⟩
  refine T.exit (Post.thnE (Post.thnE (Post.blkX ?_)))
  have hEl1 : windroseref14_sameTables_l1 a1 a0 0 () = .go () := (hQl1.symm.trans (by rw [show kl1 = a0.length by omega, List.drop_length, windroseref14_sameTables_l1]))
  refine id (Post.thnN ?_)
  refine T.seq ?_
  refine T.region ?_
  refine R.asE rfl cA ?_
  refine TL.nil (Post.thnN ?_)
  refine T.has Has.nil ?_
  refine T.ret ?_
  have hM : windroseref14_sameTables_m a0 a1 = true := by rw [windroseref14_sameTables_m, if_neg c11, hEl1, LR.on_go]
  exact fin1L (v := .bool true) [] rfl rfl (List.Sublist.refl _) ⟨rfl, by first | rw [hM] | rfl⟩
def windroseref14_Same_l1 (a1 : (List (Int × (List Int)))) : List (Int × (List Int)) → Nat → Unit → LR (Bool) (Unit)
  | [], kl1, sl1 => .go ()
  | yl1 :: ysl1, kl1, sl1 => LR.seq (if yl1.1 ≠ (a1.getD kl1 (((0, []) : Int × (List Int)) : Int × (List Int))).1 then true else ((!(windroseref14_sameTables_m yl1.2 (a1.getD kl1 (((0, []) : Int × (List Int)) : Int × (List Int))).2))) : Bool) (fun sc2 => if sc2 = true then (.ret false) else (windroseref14_Same_l1 a1 ysl1 (kl1 + 1) ()))
def windroseref14_Same_m (a0 : (List (Int × (List Int)))) (a1 : (List (Int × (List Int)))) : Bool :=
  if (a0.length : Int) ≠ (a1.length : Int) then false else (LR.on (windroseref14_Same_l1 a1 a0 0 ()) (fun r => r) (fun ol1 => true))
set_option maxHeartbeats 3200000 in
theorem windroseref14_Same_c (H : Heap) (a0 : (List (Int × (List Int)))) (va0_0 : Value) (ha0_0 : RdS listedE H va0_0 a0) (a1 : (List (Int × (List Int)))) (va1_0 : Value) (ha1_0 : RdS listedE H va1_0 a1) : Fv Tryz.prog (fnv 16) [.agg #[va0_0], .agg #[va1_0]] H (.bool (windroseref14_Same_m a0 a1)) := by
  refine Fc.of_body (N := 44) Tryz.func16 rfl kA rfl rfl ?_
  intro w0
  obtain ⟨Aa0_0, ca0_0, rfl, hca0_0, hda0_0, ha0_0⟩ := ha0_0.shape
  obtain ⟨Aa1_0, ca1_0, rfl, hca1_0, hda1_0, ha1_0⟩ := ha1_0.shape
  refine T.seq ?_
  refine T.region ?_
  refine R.box rfl cA ?_
  intro b2
  refine R.box rfl cA ?_
  intro b3
  refine R.asE rfl cA ?_
  refine TL.shut .hd ?_
  intro Hb3_1 sb3_1 qb3_1
  have hb3_1 : Hb3_1 b3 = some (.cells #[.slice Aa1_0 a1.length ca1_0] 24) := shut1 qb3_1
  refine TL.shut .hd ?_
  intro Hb2_2 sb2_2 qb2_2
  have hb2_2 : Hb2_2 b2 = some (.cells #[.slice Aa0_0 a0.length ca0_0] 24) := shut1 qb2_2
  refine TL.nil (Post.thnN ?_)
  refine T.seq ?_
  refine T.seq ?_
  refine T.region ?_
  refine R.fldA Tryz.underlying24 rfl Tryz.sizeOf22 (by decide) rfl rfl ?_
  refine R.ldH Tryz.isAgg22 rfl rfl hb2_2 rfl ?_
  refine R.len Tryz.underlying22 rfl rfl ?_
  refine R.fldA Tryz.underlying24 rfl Tryz.sizeOf22 (by decide) rfl rfl ?_
  refine R.ldH Tryz.isAgg22 rfl rfl (sb2_2 _ _ hb3_1) rfl ?_
  refine R.len Tryz.underlying22 rfl rfl ?_
  refine R.neq rfl rfl rfl ?_
  refine TL.nil (Post.thnN ?_)
  refine T.condD rfl (fun c13 => ?_) (fun c13 => ?_)
  · refine T.set 13 (.bool true) (congrArg Value.bool (decide_eq_true c13)) ?_
    refine T.seq ?_
    refine T.region ?_
    refine R.asE rfl cA ?_
    refine TL.nil (Post.thnN ?_)
    refine T.has Has.nil ?_
    refine T.ret (Post.thnR ?_)
    have hM : windroseref14_Same_m a0 a1 = false := by rw [windroseref14_Same_m, if_pos c13]
    exact fin1L (v := .bool false) [] rfl rfl (List.Sublist.refl _) ⟨rfl, by first | rw [hM] | rfl⟩
  refine T.set 13 (.bool false) (congrArg Value.bool (decide_eq_false c13)) ?_
  refine T.skip (Post.thnN ?_)
  refine T.seq ?_
  refine T.seq ?_
  refine T.region ?_
  refine R.fldA Tryz.underlying24 rfl Tryz.sizeOf22 (by decide) rfl rfl ?_
  refine R.ldH Tryz.isAgg22 rfl rfl hb2_2 rfl ?_
  refine R.len Tryz.underlying22 rfl rfl ?_
  refine R.mvE rfl cA ?_
  refine TL.nil (Post.thnN ?_)
  refine T.block ?_
  refine T.loop (ι := Nat) (fun kl1 H' L' ds' => kl1 ≤ a0.length ∧ Has L' [] ∧ windroseref14_Same_l1 a1 (a0.drop kl1) kl1 () = windroseref14_Same_l1 a1 a0 0 ()) (fun kl1 => [(17, .int .i64 (kl1 : Int)), (3, .pointer (some ⟨b3, 0, none⟩)), (15, .slice Aa0_0 a0.length ca0_0), (16, .int .i64 (a0.length : Int))]) (fun kl1 => a0.length - kl1) 0 ?_ ?_ ?_
  · exact ⟨oA, Has.nil, (by rfl)⟩
  · exact ⟨rfl, rfl, rfl, rfl, trivial⟩
  intro kl1 σ_l1 H_l1 L_l1 ds_l1 s_l1 hI_l1
  obtain ⟨hkl1, hI_l1⟩ := hI_l1
  obtain ⟨hLl1, hQl1⟩ := hI_l1
  refine T.has hLl1 ?_
  refine T.seq ?_
  refine T.region ?_
  refine R.lss rfl rfl rfl ?_
  refine TL.nil (Post.thnN ?_)
  refine T.seq ?_
  refine T.condD rfl (fun c18 => ?_) (fun c18 => ?_)
  · have hltl1 : kl1 < a0.length := by omega
    obtain ⟨yl1, hyl1⟩ := getk (xs := a0) (k := kl1) oA
    refine T.skip (Post.thnN ?_)
    refine T.seq ?_
    refine T.block ?_
    refine T.seq ?_
    refine T.region ?_
    refine R.mvE rfl cA ?_
    obtain ⟨b20, o20, i20, k20⟩ := RdS.elem (ha0_0.mono (sb3_1.trans (sb2_2.trans s_l1))) hyl1
    obtain ⟨l20, g20, k20⟩ := k20
    obtain ⟨z20_1, rfl, r20_1⟩ := g20
    obtain ⟨A20_1, p20_1, rfl, m20_1, n20_1, r20_1⟩ := r20_1.shape
    refine R.ixp Tryz.underlying22 Tryz.sizeOf45 rfl rfl rfl oA i20 ?_
    refine R.ldK (l := [.int .u64 (yl1.1), .slice A20_1 yl1.2.length p20_1]) Tryz.isAgg45 Tryz.sizeOf45 rfl rfl k20 rfl ?_
    refine R.alloc Tryz.zeroValue45 rfl ?_
    intro b6
    refine R.asE rfl cA ?_
    refine R.stX (old := [.int .u64 0, .slice none 0 0]) (l := [.int .u64 (yl1.1), .slice A20_1 yl1.2.length p20_1]) (new := [.int .u64 (yl1.1), .slice A20_1 yl1.2.length p20_1]) (et := 45) Tryz.sizeOf45 rfl rfl rfl rfl rfl (by show 0 + 2 ≤ 2; decide) rfl (all_one rfl) .hd ?_
    refine TL.shut .hd ?_
    intro Hb6_3 sb6_3 qb6_3
    have hb6_3 : Hb6_3 b6 = some (.cells #[.int .u64 (yl1.1), .slice A20_1 yl1.2.length p20_1] 45) := shut1 qb6_3
    refine TL.nil (Post.thnN ?_)
    refine T.seq ?_
    refine T.cutK (ι := Bool) (fun b42c2 H' L' ds' => Has L' [] ∧ (if yl1.1 ≠ (a1.getD kl1 (((0, []) : Int × (List Int)) : Int × (List Int))).1 then true else ((!(windroseref14_sameTables_m yl1.2 (a1.getD kl1 (((0, []) : Int × (List Int)) : Int × (List Int))).2))) : Bool) = b42c2) (fun b42c2 => [(3, .pointer (some ⟨b3, 0, none⟩)), (15, .slice Aa0_0 a0.length ca0_0), (16, .int .i64 (a0.length : Int)), (17, .int .i64 (kl1 : Int)), (42, .bool (b42c2))]) ?_ ?_
    · refine T.draw Tryz_mixed kA ?_
      refine Plan.v 0 [1, 2, 3, 4, 5, 6, 7, 8, 9, 10, 11, 12, 13, 14, 15, 16, 17, 18, 19, 20] kA kA kA kA rfl (fun _ _ h_ => R.fldA Tryz.underlying45 rfl Tryz.sizeOf43 (by decide) rfl rfl (TL.nil h_)) ?_
      refine Plan.v 1 [2, 3, 4, 5, 6, 7, 8, 9, 10, 11, 12, 13, 14, 15, 16, 17, 18, 19, 20] kA kA kA kA rfl (fun _ _ h_ => R.ldH Tryz.isAgg43 rfl rfl hb6_3 rfl (TL.nil h_)) ?_
      refine Plan.v 2 [3, 4, 5, 6, 7, 8, 9, 10, 11, 12, 13, 14, 15, 16, 17, 18, 19, 20] kA kA kA kA rfl (fun _ _ h_ => R.fldA Tryz.underlying24 rfl Tryz.sizeOf22 (by decide) rfl rfl (TL.nil h_)) ?_
      refine Plan.v 3 [4, 5, 6, 7, 8, 9, 10, 11, 12, 13, 14, 15, 16, 17, 18, 19, 20] kA kA kA kA rfl (fun _ _ h_ => R.ldH Tryz.isAgg22 rfl rfl ((sb2_2.trans (s_l1.trans sb6_3)) _ _ hb3_1) rfl (TL.nil h_)) ?_
      refine Plan.v 4 [5, 6, 7, 8, 9, 10, 11, 12, 13, 14, 15, 16, 17, 18, 19, 20] kA kA kA kA rfl (fun _ _ h_ => R.mvE rfl cA (TL.nil h_)) ?_
      have hl27 : kl1 < a1.length := bA
      obtain ⟨y27, e27, h27⟩ : ∃ y, y = (a1.getD kl1 (((0, []) : Int × (List Int)) : Int × (List Int))) ∧ a1[kl1]? = some y := ⟨_, rfl, getD_get (by first | exact hl27 | simpa using hl27 | (simp only [List.length_set]; omega) | omega | (rw [(sortI_perm _).length_eq]; exact hl27))⟩
      obtain ⟨b27, o27, i27, k27⟩ := RdS.elem (ha1_0.mono (sb3_1.trans (sb2_2.trans (s_l1.trans sb6_3)))) h27
      obtain ⟨l27, g27, k27⟩ := k27
      obtain ⟨z27_1, rfl, r27_1⟩ := g27
      obtain ⟨A27_1, p27_1, rfl, m27_1, n27_1, r27_1⟩ := r27_1.shape
      refine Plan.v 5 [6, 7, 8, 9, 10, 11, 12, 13, 14, 15, 16, 17, 18, 19, 20] kA kA kA kA rfl (fun _ _ h_ => R.ixp Tryz.underlying22 Tryz.sizeOf45 rfl rfl rfl bA i27 (TL.nil h_)) ?_
      refine Plan.v 6 [7, 8, 9, 10, 11, 12, 13, 14, 15, 16, 17, 18, 19, 20] kA kA kA kA rfl (fun _ _ h_ => R.fldA Tryz.underlying45 rfl Tryz.sizeOf43 (by decide) rfl rfl (TL.nil h_)) ?_
      refine Plan.v 7 [8, 9, 10, 11, 12, 13, 14, 15, 16, 17, 18, 19, 20] kA kA kA kA rfl (fun _ _ h_ => R.ldC Tryz.isAgg43 rfl rfl (k27 0 _ rfl) (TL.nil h_)) ?_
      refine Plan.v 8 [9, 10, 11, 12, 13, 14, 15, 16, 17, 18, 19, 20] kA kA kA kA rfl (fun _ _ h_ => R.neq rfl rfl rfl (TL.nil h_)) ?_
      refine Plan.v 9 [10, 11, 12, 13, 14, 15, 16, 17, 18, 19, 20] kA kA kA kA rfl (fun _ _ h_ => R.mvE rfl cA (TL.nil h_)) ?_
      refine Plan.gsplitD 31 rfl (fun g31 => ?_) (fun g31 => ?_)
      · refine Plan.v 10 [11, 12, 13, 14, 15, 16, 17, 18, 19, 20] kA kA kA kA rfl (fun _ _ h_ => TL.off rfl rfl rfl (TL.nil h_)) ?_
        refine Plan.v 11 [12, 13, 14, 15, 16, 17, 18, 19, 20] kA kA kA kA rfl (fun _ _ h_ => TL.off rfl rfl rfl (TL.nil h_)) ?_
        refine Plan.v 12 [13, 14, 15, 16, 17, 18, 19, 20] kA kA kA kA rfl (fun _ _ h_ => TL.off rfl rfl rfl (TL.nil h_)) ?_
        refine Plan.v 13 [14, 15, 16, 17, 18, 19, 20] kA kA kA kA rfl (fun _ _ h_ => TL.off rfl rfl rfl (TL.nil h_)) ?_
        refine Plan.v 14 [15, 16, 17, 18, 19, 20] kA kA kA kA rfl (fun _ _ h_ => TL.off rfl rfl rfl (TL.nil h_)) ?_
        refine Plan.v 15 [16, 17, 18, 19, 20] kA kA kA kA rfl (fun _ _ h_ => TL.off rfl rfl rfl (TL.nil h_)) ?_
        refine Plan.v 16 [17, 18, 19, 20] kA kA kA kA rfl (fun _ _ h_ => TL.off rfl rfl rfl (TL.nil h_)) ?_
        refine Plan.v 17 [18, 19, 20] kA kA kA kA rfl (fun _ _ h_ => TL.off rfl rfl rfl (TL.nil h_)) ?_
        refine Plan.v 18 [19, 20] kA kA kA kA rfl (fun _ _ h_ => TL.off rfl rfl rfl (TL.nil h_)) ?_
        refine Plan.v 19 [20] kA kA kA kA rfl (fun _ _ h_ => TL.off rfl rfl rfl (TL.nil h_)) ?_
        refine Plan.v 20 [] kA kA kA kA rfl (fun _ _ h_ => R.pkTE rfl rfl cA (TL.nil h_)) ?_
        refine Plan.done (Post.thnN ?_)
        exact ⟨true, HLe.refl _, ⟨Has.nil, (by subst e27; rw [if_pos g31])⟩, rfl, rfl, rfl, rfl, rfl, trivial⟩
      refine Plan.v 10 [11, 12, 13, 14, 15, 16, 17, 18, 19, 20] kA kA kA kA rfl (fun _ _ h_ => R.fldA Tryz.underlying45 rfl Tryz.sizeOf25 (by decide) rfl rfl (TL.nil h_)) ?_
      refine Plan.v 11 [12, 13, 14, 15, 16, 17, 18, 19, 20] kA kA kA kA rfl (fun _ _ h_ => R.ldH Tryz.isAgg25 rfl rfl hb6_3 rfl (TL.nil h_)) ?_
      refine Plan.v 12 [13, 14, 15, 16, 17, 18, 19, 20] kA kA kA kA rfl (fun _ _ h_ => R.fldA Tryz.underlying24 rfl Tryz.sizeOf22 (by decide) rfl rfl (TL.nil h_)) ?_
      refine Plan.v 13 [14, 15, 16, 17, 18, 19, 20] kA kA kA kA rfl (fun _ _ h_ => R.ldH Tryz.isAgg22 rfl rfl ((sb2_2.trans (s_l1.trans sb6_3)) _ _ hb3_1) rfl (TL.nil h_)) ?_
      refine Plan.v 14 [15, 16, 17, 18, 19, 20] kA kA kA kA rfl (fun _ _ h_ => R.mvE rfl cA (TL.nil h_)) ?_
      have hl37 : kl1 < a1.length := bA
      obtain ⟨y37, e37, h37⟩ : ∃ y, y = (a1.getD kl1 (((0, []) : Int × (List Int)) : Int × (List Int))) ∧ a1[kl1]? = some y := ⟨_, rfl, getD_get (by first | exact hl37 | simpa using hl37 | (simp only [List.length_set]; omega) | omega | (rw [(sortI_perm _).length_eq]; exact hl37))⟩
      obtain ⟨b37, o37, i37, k37⟩ := RdS.elem (ha1_0.mono (sb3_1.trans (sb2_2.trans (s_l1.trans sb6_3)))) h37
      obtain ⟨l37, g37, k37⟩ := k37
      obtain ⟨z37_1, rfl, r37_1⟩ := g37
      obtain ⟨A37_1, p37_1, rfl, m37_1, n37_1, r37_1⟩ := r37_1.shape
      refine Plan.v 15 [16, 17, 18, 19, 20] kA kA kA kA rfl (fun _ _ h_ => R.ixp Tryz.underlying22 Tryz.sizeOf45 rfl rfl rfl bA i37 (TL.nil h_)) ?_
      refine Plan.v 16 [17, 18, 19, 20] kA kA kA kA rfl (fun _ _ h_ => R.fldA Tryz.underlying45 rfl Tryz.sizeOf25 (by decide) rfl rfl (TL.nil h_)) ?_
      refine Plan.v 17 [18, 19, 20] kA kA kA kA rfl (fun _ _ h_ => R.ldC Tryz.isAgg25 rfl rfl (k37 1 _ rfl) (TL.nil h_)) ?_
      refine Plan.v 18 [19, 20] kA kA kA kA rfl (fun _ _ h_ => R.callv rfl rfl rfl (windroseref14_sameTables_c _ _ yl1.2 (r20_1.mono sb6_3) _ y37.2 r37_1) (TL.nil h_)) ?_
      refine Plan.v 19 [20] kA kA kA kA rfl (fun _ _ h_ => R.not rfl rfl (TL.nil h_)) ?_
      refine Plan.v 20 [] kA kA kA kA rfl (fun _ _ h_ => R.pkFE rfl rfl cA (TL.nil h_)) ?_
      refine Plan.done (Post.thnN ?_)
      exact ⟨(!(windroseref14_sameTables_m yl1.2 y37.2)), HLe.refl _, ⟨Has.nil, (by subst e37; subst e27; rw [if_neg g31])⟩, rfl, rfl, rfl, rfl, rfl, trivial⟩
    intro b42c2 σ_c2 H_c2 L_c2 ds_c2 s_c2 hI_c2
    obtain ⟨hLc2, hTc2⟩ := hI_c2
    refine T.has hLc2 ?_
    refine T.cond rfl (fun c42 => ?_) (fun c42 => ?_)
    · refine T.set 42 (.bool true) (congrArg Value.bool c42) ?_
      have hZ42 := hTc2.trans c42
      try simp only [or_f, or_t, and_f, and_t, decide_eq_true_eq, decide_eq_false_iff_not, Bool.not_eq_true'] at hZ42
      refine T.seq ?_
      refine T.region ?_
      refine R.asE rfl cA ?_
      refine TL.nil (Post.thnN ?_)
      refine T.has Has.nil ?_
      refine T.ret (Post.blkR (Post.thnR (Post.thnR (Post.blkR (Post.thnR ?_)))))
      have hXl1 : windroseref14_Same_l1 a1 a0 0 () = .ret false := by rw [← hQl1, drop_cons hyl1, windroseref14_Same_l1]; rw [hTc2, LR.seq_go, if_t c42]
      have hM : windroseref14_Same_m a0 a1 = false := by rw [windroseref14_Same_m, if_neg c13, hXl1, LR.on_ret]
      exact fin1L (v := .bool false) [] rfl rfl (List.Sublist.refl _) ⟨rfl, by first | rw [hM] | rfl⟩
    refine T.set 42 (.bool false) (congrArg Value.bool c42) ?_
    have hZ42 := hTc2.trans c42
    try simp only [or_f, or_t, and_f, and_t, decide_eq_true_eq, decide_eq_false_iff_not, Bool.not_eq_true'] at hZ42
    refine T.skip (Post.blkN ?_)
    refine id (Post.thnN ?_)
    refine T.region ?_
    refine R.addI rfl rfl rfl oA ?_
    refine R.mvE rfl cA ?_
    refine TL.nil (Post.thnN ?_)
    exact ⟨kl1 + 1, (s_l1.trans (sb6_3.trans s_c2)), ⟨oA, Has.nil, (by rw [← hQl1, drop_cons hyl1, windroseref14_Same_l1]; rw [hTc2, LR.seq_go, if_f c42])⟩, by show a0.length - (kl1 + 1) < a0.length - kl1; omega, rfl, rfl, rfl, rfl, trivial⟩
  refine T.exit (Post.thnE (Post.thnE (Post.blkX ?_)))
  have hEl1 : windroseref14_Same_l1 a1 a0 0 () = .go () := (hQl1.symm.trans (by rw [show kl1 = a0.length by omega, List.drop_length, windroseref14_Same_l1]))
  refine id (Post.thnN ?_)
  refine T.seq ?_
  refine T.region ?_
  refine R.asE rfl cA ?_
  refine TL.nil (Post.thnN ?_)
  refine T.has Has.nil ?_
  refine T.ret ?_
  have hM : windroseref14_Same_m a0 a1 = true := by rw [windroseref14_Same_m, if_neg c13, hEl1, LR.on_go]
  exact fin1L (v := .bool true) [] rfl rfl (List.Sublist.refl _) ⟨rfl, by first | rw [hM] | rfl⟩
end Go.SX

set_option linter.unusedVariables false
set_option linter.unusedSimpArgs false
namespace Go.SX
open Go
/-- each may be, and stands behind the one ahead of it -/
def adjL {α : Type} (d : α) (bad : α → Bool) (f : α → Int) (a : List α) : List α → Nat → LR Bool Unit
  | [], _ => .go ()
  | y :: ys, k => if (if bad y = true then true else (if (0 : Int) < (k : Int) then decide (f y ≤ f (a.getD ((k : Int) - 1).toNat d)) else false)) = true then .ret false else adjL d bad f a ys (k + 1)
theorem adjL_or {α : Type} (d : α) (bad : α → Bool) (f : α → Int) (a : List α) : ∀ (xs : List α) (k : Nat), adjL d bad f a xs k = .go () ∨ adjL d bad f a xs k = .ret false
  | [], _ => .inl rfl
  | y :: ys, k => by
    rw [adjL]
    generalize (if bad y = true then true else (if (0 : Int) < (k : Int) then decide (f y ≤ f (a.getD ((k : Int) - 1).toNat d)) else false)) = b
    cases b with
    | true => exact .inr rfl
    | false => exact adjL_or d bad f a ys (k + 1)
theorem adjL_at {α : Type} (d : α) (bad : α → Bool) (f : α → Int) (a : List α) : ∀ (xs : List α) (k : Nat), (adjL d bad f a xs k = .go () ↔ ∀ (i : Nat) (y : α), xs[i]? = some y → bad y = false ∧ (k + i = 0 ∨ f (a.getD (k + i - 1) d) < f y))
  | [], _ => ⟨fun _ i y h => by simp at h, fun _ => rfl⟩
  | x :: xs, k => by
    rw [adjL]
    have ih := adjL_at d bad f a xs (k + 1)
    have hb : (if bad x = true then true else (if (0 : Int) < (k : Int) then decide (f x ≤ f (a.getD ((k : Int) - 1).toNat d)) else false)) = false ↔ bad x = false ∧ (k = 0 ∨ f (a.getD (k - 1) d) < f x) := by
      cases hbx : bad x with
      | true => rw [if_pos rfl]; exact ⟨fun q => (by cases q), fun q => (by cases q.1)⟩
      | false =>
        rw [if_neg Bool.false_ne_true]
        by_cases hk : (0 : Int) < (k : Int)
        · rw [if_pos hk, decide_eq_false_iff_not, show ((k : Int) - 1).toNat = k - 1 by omega]
          exact ⟨fun q => ⟨rfl, .inr (by omega)⟩, fun q => by rcases q.2 with q | q <;> omega⟩
        · rw [if_neg hk]; exact ⟨fun _ => ⟨rfl, .inl (by omega)⟩, fun _ => rfl⟩
    cases e : (if bad x = true then true else (if (0 : Int) < (k : Int) then decide (f x ≤ f (a.getD ((k : Int) - 1).toNat d)) else false)) with
    | true =>
      rw [if_pos rfl]
      refine ⟨fun q => (by cases q), fun q => ?_⟩
      have := q 0 x rfl
      rw [Nat.add_zero] at this
      rw [hb.2 this] at e; cases e
    | false =>
      rw [if_neg Bool.false_ne_true, ih]
      have h0 := hb.1 e
      constructor
      · intro q i y hy
        cases i with
        | zero => obtain rfl : x = y := by simpa using hy
                  rw [Nat.add_zero]; exact h0
        | succ i =>
          have := q i y (by simpa using hy)
          rw [show k + (i + 1) = k + 1 + i by omega]; exact this
      · intro q i y hy
        have := q (i + 1) y (by simpa using hy)
        rw [show k + (i + 1) = k + 1 + i by omega] at this; exact this
theorem adjL_iff {α : Type} (d : α) (bad : α → Bool) (f : α → Int) (a : List α) : adjL d bad f a a 0 = .go () ↔ (∀ y ∈ a, bad y = false) ∧ (a.map f).Pairwise (· < ·) := by
  rw [adjL_at]
  have hf : ∀ (i : Nat) (y : α), a[i]? = some y → (a.map f).getD i 0 = f y := fun i y h => by
    rw [List.getD_eq_getElem?_getD, List.getElem?_map, h]; rfl
  constructor
  · intro h
    refine ⟨fun y hy => ?_, adj_up (fun i hi => ?_)⟩
    · obtain ⟨i, hi⟩ := List.mem_iff_getElem?.1 hy
      exact (h i y hi).1
    · rw [List.length_map] at hi
      have h1 : a[i + 1]? = some a[i + 1] := List.getElem?_eq_getElem hi
      have h2 : a[i]? = some a[i] := List.getElem?_eq_getElem (by omega)
      rw [hf _ _ h1, hf _ _ h2]
      rcases (h (i + 1) _ h1).2 with q | q
      · omega
      · rw [show 0 + (i + 1) - 1 = i by omega, List.getD_eq_getElem?_getD, h2] at q; exact q
  · rintro ⟨h1, h2⟩ i y hy
    refine ⟨h1 y (List.mem_of_getElem? hy), ?_⟩
    by_cases hi : i = 0
    · exact .inl (by omega)
    · right
      have hlt := (List.getElem?_eq_some_iff.1 hy).1
      have := pw_adj h2 i (by omega) (by rw [List.length_map]; exact hlt)
      have h3 : a[i - 1]? = some a[i - 1] := List.getElem?_eq_getElem (by omega)
      rw [hf _ _ hy, hf _ _ h3] at this
      rw [show 0 + i - 1 = i - 1 by omega, List.getD_eq_getElem?_getD, h3]; exact this
theorem tcheck_l2_true (a : List Int) : ∀ (xs : List Int) (k : Nat), (∀ (i : Nat) (y : Int), xs[i]? = some y → types_may_m y = true ∧ (k + i = 0 ∨ a.getD (k + i - 1) 0 < y)) → types_Check_l2 a xs k true = true
  | [], _, _ => rfl
  | x :: xs, k, h => by
    obtain ⟨h1, h2⟩ := h 0 x rfl
    rw [types_Check_l2, LR.seq_go]
    have e : (if true = true then (if types_may_m x = true then (if (k : Int) = 0 then true else decide (a.getD (((k : Int) - 1)).toNat 0 < x)) else false) else false) = true := by
      rw [if_pos rfl, if_pos h1]
      by_cases h0 : (k : Int) = 0
      · rw [if_pos h0]
      · rw [if_neg h0, show ((k : Int) - 1).toNat = k + 0 - 1 by omega]
        rcases h2 with q | q
        · omega
        · exact decide_eq_true q
    rw [e, if_neg (by decide)]
    exact tcheck_l2_true a xs (k + 1) (fun i y hy => by
      have := h (i + 1) y (by simpa using hy)
      rw [show k + (i + 1) = k + 1 + i by omega] at this; exact this)
theorem tcheck_iff (l : List Int) : types_Check_m l = 0 ↔ l.length ≤ 12 ∧ l.Pairwise (· < ·) ∧ ∀ y ∈ l, types_may_m y = true := by
  refine ⟨tcheck_ok, ?_⟩
  rintro ⟨h1, h2, h3⟩
  unfold types_Check_m
  simp only [LR.seq_go]
  rw [decide_eq_true (show (l.length : Int) ≤ 12 by omega), tcheck_l2_true l l 0 (fun i y hy => ⟨h3 y (List.mem_of_getElem? hy), ?_⟩)]
  · rfl
  · by_cases hi : i = 0
    · exact .inl (by omega)
    · right
      have hlt := (List.getElem?_eq_some_iff.1 hy).1
      have := pw_adj h2 i (by omega) hlt
      rw [show l.getD i 0 = y by rw [List.getD_eq_getElem?_getD, hy]; rfl] at this
      rw [Nat.zero_add]; exact this
theorem r03_l1 (a : List Int) : ∀ (xs : List Int) (k : Nat), windroseref03_Right_l1 a xs k () = adjL 0 (fun y => !(windroseref03_May_m y)) (fun y => y) a xs k
  | [], _ => rfl
  | y :: ys, k => by rw [windroseref03_Right_l1, LR.seq_go, adjL, r03_l1 a ys]
theorem may_r {y : Int} (h : U y) : windroseref03_May_m y = types_may_m y := by
  unfold windroseref03_May_m types_may_m
  rw [kind_r h, kind_i h]
theorem r03_right {l : List Int} (hu : ∀ y ∈ l, U y) : windroseref03_Right_m l = true ↔ types_Check_m l = 0 := by
  unfold windroseref03_Right_m
  rw [r03_l1, tcheck_iff]
  have hi := adjL_iff (0 : Int) (fun y => !(windroseref03_May_m y)) (fun y => y) l
  rw [List.map_id'] at hi
  have hm : (∀ y ∈ l, (!(windroseref03_May_m y)) = false) ↔ ∀ y ∈ l, types_may_m y = true := by
    constructor
    · intro q y hy
      have := q y hy
      rw [may_r (hu y hy)] at this
      cases e : types_may_m y with
      | true => rfl
      | false => rw [e] at this; cases this
    · intro q y hy
      rw [may_r (hu y hy), q y hy]; rfl
  rcases adjL_or (0 : Int) (fun y => !(windroseref03_May_m y)) (fun y => y) l l 0 with e | e
  · rw [e, LR.on_go, decide_eq_true_eq]
    have q := hi.1 e
    exact ⟨fun z => ⟨by omega, q.2, hm.1 q.1⟩, fun z => by have := z.1; omega⟩
  · rw [e, LR.on_ret]
    refine ⟨fun z => (by cases z), fun z => ?_⟩
    rw [hi.2 ⟨hm.2 z.2.2, z.2.1⟩] at e; cases e
theorem same_l1 (b : List Int) : ∀ (xs : List Int) (k : Nat), (LR.on (windroseref03_Same_l1 b xs k ()) (fun r => r) (fun _ => true) = true ↔ ∀ i, i < xs.length → xs.getD i 0 = b.getD (k + i) 0)
  | [], k => ⟨fun _ i h => by simp at h, fun _ => rfl⟩
  | y :: ys, k => by
    rw [windroseref03_Same_l1]
    by_cases e : y = b.getD k 0
    · rw [if_neg (fun q => q e), same_l1 b ys (k + 1)]
      constructor
      · intro q i hi
        cases i with
        | zero => simpa using e
        | succ i =>
          have := q i (by simpa using hi)
          rw [show k + (i + 1) = k + 1 + i by omega]; simpa using this
      · intro q i hi
        have := q (i + 1) (by simpa using hi)
        rw [show k + (i + 1) = k + 1 + i by omega] at this; simpa using this
    · rw [if_pos e, LR.on_ret]
      refine ⟨fun q => (by cases q), fun q => ?_⟩
      have := q 0 (by simp)
      exact absurd (by simpa using this) e
theorem list_ext_getD {a b : List Int} (hl : a.length = b.length) (h : ∀ i, i < a.length → a.getD i 0 = b.getD i 0) : a = b := by
  apply List.ext_getElem? ; intro i
  by_cases hi : i < a.length
  · have := h i hi
    rw [List.getD_eq_getElem?_getD, List.getD_eq_getElem?_getD, List.getElem?_eq_getElem hi, List.getElem?_eq_getElem (by omega : i < b.length)] at this
    rw [List.getElem?_eq_getElem hi, List.getElem?_eq_getElem (by omega : i < b.length)]
    simpa using this
  · rw [List.getElem?_eq_none (by omega), List.getElem?_eq_none (by omega)]
theorem r03_same (a b : List Int) : windroseref03_Same_m a b = decide (a = b) := by
  unfold windroseref03_Same_m
  by_cases hl : a.length = b.length
  · rw [if_neg (fun q => q (by omega))]
    have := same_l1 b a 0
    by_cases e : a = b
    · rw [decide_eq_true e, this]; intro i hi; rw [e, Nat.zero_add]
    · rw [decide_eq_false e, ← Bool.not_eq_true, this]
      exact fun q => e (list_ext_getD hl (fun i hi => by have := q i hi; rwa [Nat.zero_add] at this))
  · rw [if_pos (fun q => hl (by omega))]
    exact (decide_eq_false (fun e => hl (by rw [e]))).symm
theorem r14_has (n : Int) : ∀ l : List Int, windroseref14_has_m l n = decide (n ∈ l)
  | [] => rfl
  | y :: ys => by
    have ih := r14_has n ys
    unfold windroseref14_has_m at ih ⊢
    rw [windroseref14_has_l1]
    by_cases e : y = n
    · rw [if_pos e, LR.on_ret]; subst e; exact (decide_eq_true (List.mem_cons_self ..)).symm
    · rw [if_neg e, ih]
      exact decide_eq_decide.2 ⟨fun q => List.mem_cons_of_mem _ q, fun q => by rcases List.mem_cons.1 q with q | q; exact absurd q.symm e; exact q⟩
theorem r14_in_l1 (n : Int) : ∀ (x : Ix) (a : List Int), windroseref14_In_l1 n x a = a ++ inA x n
  | [], a => by simp [windroseref14_In_l1, inA]
  | r :: x, a => by
    rw [windroseref14_In_l1, r14_has]
    unfold inA
    rw [List.filter_cons]
    by_cases h : n ∈ r.2
    · rw [if_pos (decide_eq_true h), if_pos (decide_eq_true h), r14_in_l1 n x]; simp [inA]
    · rw [if_neg (by simpa using h), if_neg (by simpa using h), r14_in_l1 n x]; rfl
theorem r14_in (x : Ix) (n : Int) : windroseref14_In_m x n = inA x n := by
  unfold windroseref14_In_m; rw [LR.seq_go, r14_in_l1, List.nil_append]
theorem r14_type_l1 (n : Int) : ∀ (x : Ix) (a : List Int), (∀ r ∈ x, U r.1) → windroseref14_Type_l1 n x a = a ++ bareA (inA x n)
  | [], a, _ => by simp [windroseref14_Type_l1, inA, bareA]
  | r :: x, a, h => by
    have ur := h r (List.mem_cons_self ..)
    have ih := fun a => r14_type_l1 n x a (fun q hq => h q (List.mem_cons_of_mem _ hq))
    rw [windroseref14_Type_l1, r14_has, LR.seq_go, kind_r ur, ← kind_i ur]
    have e : inA (r :: x) n = if n ∈ r.2 then r.1 :: inA x n else inA x n := by
      unfold inA; rw [List.filter_cons]
      by_cases q : n ∈ r.2
      · rw [if_pos (decide_eq_true q), if_pos q]; rfl
      · rw [if_neg (by simpa using q), if_neg q]
    rw [e]
    by_cases q : n ∈ r.2
    · rw [if_pos (decide_eq_true q), if_pos q]
      unfold bareA
      rw [List.filter_cons]
      by_cases k : kindG r.1 = 4
      · rw [if_neg (by simpa using k), if_neg (by simpa using k), ih]; rfl
      · rw [if_pos (by simpa using k), if_pos (by simpa using k), ih]; simp [bareA]
    · have hd : decide (n ∈ r.2) = false := decide_eq_false q
      rw [hd, if_neg Bool.false_ne_true, if_neg q, if_neg Bool.false_ne_true, ih]
theorem r14_type {x : Ix} (h : ∀ r ∈ x, U r.1) (n : Int) : windroseref14_Type_m x n = bareA (inA x n) := by
  unfold windroseref14_Type_m; rw [LR.seq_go, r14_type_l1 n x [] h, List.nil_append]
theorem r14_row_l1 (r : Int × List Int) : ∀ (xs : List Int) (k : Nat), windroseref14_row_l1 r xs k () = adjL 0 (fun y => !(windroseref14_Table_m y)) (fun y => y) r.2 xs k
  | [], _ => rfl
  | y :: ys, k => by rw [windroseref14_row_l1, LR.seq_go, adjL, r14_row_l1 r ys]
theorem r14_row {r : Int × List Int} (hu : U r.1) : windroseref14_row_m r = true ↔ RowOk r := by
  unfold windroseref14_row_m
  rw [r14_row_l1, kind_r hu, ← kind_i hu]
  have hi := adjL_iff (0 : Int) (fun y => !(windroseref14_Table_m y)) (fun y => y) r.2
  rw [List.map_id'] at hi
  have hm : (∀ y ∈ r.2, (!(windroseref14_Table_m y)) = false) ↔ ∀ n ∈ r.2, 1 ≤ n ∧ n ≤ 1048576 := by
    refine forall_congr' (fun y => imp_congr_right (fun hy => ?_))
    rw [show windroseref14_Table_m y = index_table_m y from rfl, ← table_iff]
    cases index_table_m y <;> simp
  have hk : (if (kindG r.1) = 2 then true else (if (kindG r.1) = 3 then true else decide ((kindG r.1) = 4))) = true ↔ (kindG r.1 = 2 ∨ kindG r.1 = 3 ∨ kindG r.1 = 4) := by
    by_cases h2 : kindG r.1 = 2 <;> by_cases h3 : kindG r.1 = 3 <;> simp [h2, h3]
  rcases adjL_or (0 : Int) (fun y => !(windroseref14_Table_m y)) (fun y => y) r.2 r.2 0 with e | e
  · rw [e, LR.on_go]
    have q := hi.1 e
    by_cases hl : (0 : Int) < (r.2.length : Int)
    · rw [if_pos hl, hk]
      exact ⟨fun z => ⟨z, fun e => by rw [e] at hl; exact absurd hl (by decide), q.2, hm.1 q.1⟩, fun z => z.kind⟩
    · rw [if_neg hl]
      refine ⟨fun z => (by cases z), fun z => ?_⟩
      have := List.length_pos_iff.2 z.ne; omega
  · rw [e, LR.on_ret]
    refine ⟨fun z => (by cases z), fun z => ?_⟩
    rw [hi.2 ⟨hm.2 z.rng, z.up⟩] at e; cases e
theorem r14_l1 (x : Ix) : ∀ (xs : Ix) (k : Nat), windroseref14_Right_l1 x xs k () = adjL (0, []) (fun y => !(windroseref14_row_m y)) (fun y => y.1) x xs k
  | [], _ => rfl
  | y :: ys, k => by rw [windroseref14_Right_l1, LR.seq_go, adjL, r14_l1 x ys]
/-- put: as a set that rises -/
theorem rput_l1 (a : List Int) (x : Int) (ha : a.Pairwise (· < ·)) : ∀ (k m i : Nat), a.length - i ≤ k → k < m → i ≤ a.length → (∀ q, q < i → a.getD q 0 < x) →
    ∃ n : Nat, windroseref14_put_l1 a x m (i : Int) = (n : Int) ∧ n ≤ a.length ∧ (∀ q, q < n → a.getD q 0 < x) ∧ (n < a.length → x ≤ a.getD n 0)
  | k, 0, i, _, h, _, _ => by omega
  | k, m + 1, i, h1, h2, h3, h4 => by
    rw [windroseref14_put_l1, LR.seq_go, Int.toNat_natCast]
    by_cases hi : i < a.length
    · rw [if_pos (show (i : Int) < (a.length : Int) by omega)]
      by_cases q : a.getD i 0 < x
      · rw [decide_eq_true q, if_pos rfl, show (i : Int) + 1 = ((i + 1 : Nat) : Int) by omega]
        cases k with
        | zero => omega
        | succ k =>
          refine rput_l1 a x ha k m (i + 1) (by omega) (by omega) (by omega) (fun z hz => ?_)
          rcases Nat.lt_or_ge z i with e | e
          · exact h4 z e
          · rw [show z = i by omega]; exact q
      · rw [decide_eq_false q, if_neg Bool.false_ne_true]
        exact ⟨i, rfl, h3, h4, fun _ => by omega⟩
    · rw [if_neg (show ¬ (i : Int) < (a.length : Int) by omega), if_neg Bool.false_ne_true]
      exact ⟨i, rfl, h3, h4, fun z => by omega⟩
theorem rput_law {a : List Int} (ha : a.Pairwise (· < ·)) (x : Int) : (windroseref14_put_m a x).Pairwise (· < ·) ∧ ∀ y, y ∈ windroseref14_put_m a x ↔ y = x ∨ y ∈ a := by
  obtain ⟨n, h1, h2, h3, h4⟩ := rput_l1 a x ha a.length (((a.length : Int) - 0).toNat + 1) 0 (by omega) (by omega) (Nat.zero_le _) (fun q h => by omega)
  unfold windroseref14_put_m
  simp only [LR.seq_go]
  rw [show windroseref14_put_l1 a x (((a.length : Int) - 0).toNat + 1) 0 = (n : Int) from h1]
  have hat : ∀ (i : Nat) (hi : i < a.length), a.getD i 0 = a[i] := fun i hi => by rw [List.getD_eq_getElem?_getD, List.getElem?_eq_getElem hi]; rfl
  rw [Int.toNat_natCast]
  by_cases hn : n < a.length
  · rw [if_pos (show (n : Int) < (a.length : Int) by omega)]
    by_cases e : a.getD n 0 = x
    · rw [if_pos (decide_eq_true e)]
      refine ⟨ha, fun y => ⟨fun q => .inr q, fun q => ?_⟩⟩
      rcases q with q | q
      · rw [q, ← e, hat n hn]; exact List.getElem_mem hn
      · exact q
    · rw [if_neg (by rw [decide_eq_true_eq]; exact e)]
      have hlt : x < a.getD n 0 := by have := h4 hn; omega
      refine ⟨?_, fun y => ?_⟩
      · rw [List.append_assoc, List.pairwise_append]
        refine ⟨ha.sublist (List.take_sublist _ _), ?_, fun u hu v hv => ?_⟩
        · rw [List.singleton_append, List.pairwise_cons]
          refine ⟨fun v hv => ?_, ha.sublist (List.drop_sublist _ _)⟩
          obtain ⟨i, hi⟩ := List.mem_iff_getElem?.1 hv
          rw [List.getElem?_drop] at hi
          obtain ⟨hil, rfl⟩ := List.getElem?_eq_some_iff.1 hi
          rcases Nat.eq_zero_or_pos i with z | z
          · subst z; rw [hat n hn] at hlt; exact hlt
          · have := (List.pairwise_iff_getElem.1 ha) n (n + i) hn hil (by omega)
            rw [hat n hn] at hlt; omega
        · obtain ⟨i, hi⟩ := List.mem_iff_getElem?.1 hu
          have hil : i < n := by have := (List.getElem?_eq_some_iff.1 hi).1; rw [List.length_take] at this; omega
          rw [List.getElem?_take_of_lt hil] at hi
          obtain ⟨hil2, rfl⟩ := List.getElem?_eq_some_iff.1 hi
          have h5 := h3 i hil
          rw [hat i hil2] at h5
          rcases List.mem_append.1 hv with hv | hv
          · rw [List.mem_singleton] at hv; omega
          · obtain ⟨j, hj⟩ := List.mem_iff_getElem?.1 hv
            rw [List.getElem?_drop] at hj
            obtain ⟨hjl, rfl⟩ := List.getElem?_eq_some_iff.1 hj
            exact (List.pairwise_iff_getElem.1 ha) i (n + j) hil2 hjl (by omega)
      · rw [List.append_assoc, List.mem_append, List.singleton_append, List.mem_cons, show (y ∈ a) = (y ∈ a.take n ++ a.drop n) by rw [List.take_append_drop], List.mem_append]
        constructor
        · rintro (q | q | q)
          · exact .inr (.inl q)
          · exact .inl q
          · exact .inr (.inr q)
        · rintro (q | q | q)
          · exact .inr (.inl q)
          · exact .inl q
          · exact .inr (.inr q)
  · rw [if_neg (show ¬ (n : Int) < (a.length : Int) by omega), if_neg Bool.false_ne_true, List.take_of_length_le (by omega), List.drop_of_length_le (by omega), List.append_nil]
    refine ⟨?_, fun y => ?_⟩
    · rw [List.pairwise_append]
      refine ⟨ha, List.pairwise_singleton _ _, fun u hu v hv => ?_⟩
      rw [List.mem_singleton] at hv; subst hv
      obtain ⟨i, hi⟩ := List.mem_iff_getElem?.1 hu
      obtain ⟨hil, rfl⟩ := List.getElem?_eq_some_iff.1 hi
      have := h3 i (by omega)
      rw [hat i hil] at this; exact this
    · rw [List.mem_append, List.mem_singleton]; exact ⟨fun q => q.symm, fun q => q.symm⟩
theorem rkeys_l1 : ∀ (l : List Int) (a : List Int), (∀ y ∈ l, U y) → a.Pairwise (· < ·) → (windroseref14_Keys_l1 l a).Pairwise (· < ·) ∧ ∀ x, x ∈ windroseref14_Keys_l1 l a ↔ x ∈ a ∨ ∃ y ∈ l, x = y ∨ (kindI y = 3 ∧ x ∈ pats y)
  | [], a, _, ha => ⟨ha, fun x => by simp [windroseref14_Keys_l1]⟩
  | y :: ys, a, h, ha => by
    have uy := h y (List.mem_cons_self ..)
    obtain ⟨p1, p2⟩ := rput_law ha y
    rw [windroseref14_Keys_l1]
    simp only [LR.seq_go]
    rw [kind_r uy]
    by_cases e : kindI y = 3
    · rw [if_pos e]
      obtain ⟨g1, g2, g3⟩ := (kind_pair uy).1 e
      have ep : windroseref01_Parts_m y = (hA y, hB y) := by
        rw [parts_r uy]; unfold partsI; rw [if_neg (by omega), if_pos (.inl e)]
      rw [ep]
      rw [made_r (.inr (.inr rfl)) ⟨by omega, by omega⟩ ⟨by omega, by omega⟩, made_r (.inr (.inr rfl)) ⟨by omega, by omega⟩ ⟨by omega, by omega⟩, made_r (.inr (.inr rfl)) ⟨by omega, by omega⟩ ⟨by omega, by omega⟩]
      obtain ⟨q1, q2⟩ := rput_law p1 (made 9223372036854775808 (hA y) 0)
      obtain ⟨s1, s2⟩ := rput_law q1 (made 9223372036854775808 0 (hB y))
      obtain ⟨t1, t2⟩ := rput_law s1 (made 9223372036854775808 0 0)
      obtain ⟨i1, i2⟩ := rkeys_l1 ys _ (fun z hz => h z (List.mem_cons_of_mem _ hz)) t1
      refine ⟨i1, fun x => ?_⟩
      rw [i2 x, t2 x, s2 x, q2 x, p2 x]
      have hp : x ∈ pats y ↔ x = made 9223372036854775808 (hA y) 0 ∨ x = made 9223372036854775808 0 (hB y) ∨ x = made 9223372036854775808 0 0 := by
        simp only [pats, List.mem_cons, List.not_mem_nil, or_false]
      constructor
      · rintro ((z | z | z | z | z) | ⟨w, hw, z⟩)
        · exact .inr ⟨y, List.mem_cons_self .., .inr ⟨e, hp.2 (.inr (.inr z))⟩⟩
        · exact .inr ⟨y, List.mem_cons_self .., .inr ⟨e, hp.2 (.inr (.inl z))⟩⟩
        · exact .inr ⟨y, List.mem_cons_self .., .inr ⟨e, hp.2 (.inl z)⟩⟩
        · exact .inr ⟨y, List.mem_cons_self .., .inl z⟩
        · exact .inl z
        · exact .inr ⟨w, List.mem_cons_of_mem _ hw, z⟩
      · rintro (z | ⟨w, hw, z⟩)
        · exact .inl (.inr (.inr (.inr (.inr z))))
        · rcases List.mem_cons.1 hw with rfl | hw
          · rcases z with z | ⟨_, z⟩
            · exact .inl (.inr (.inr (.inr (.inl z))))
            · rcases hp.1 z with z | z | z
              · exact .inl (.inr (.inr (.inl z)))
              · exact .inl (.inr (.inl z))
              · exact .inl (.inl z)
          · exact .inr ⟨w, hw, z⟩
    · rw [if_neg e]
      obtain ⟨i1, i2⟩ := rkeys_l1 ys _ (fun z hz => h z (List.mem_cons_of_mem _ hz)) p1
      refine ⟨i1, fun x => ?_⟩
      rw [i2 x, p2 x]
      constructor
      · rintro ((z | z) | ⟨w, hw, z⟩)
        · exact .inr ⟨y, List.mem_cons_self .., .inl z⟩
        · exact .inl z
        · exact .inr ⟨w, List.mem_cons_of_mem _ hw, z⟩
      · rintro (z | ⟨w, hw, z⟩)
        · exact .inl (.inr z)
        · rcases List.mem_cons.1 hw with rfl | hw
          · rcases z with z | z
            · exact .inl (.inl z)
            · exact absurd z.1 e
          · exact .inr ⟨w, hw, z⟩
theorem r14_keys {l : List Int} (hu : ∀ y ∈ l, U y) (hc : types_Check_m l = 0) : windroseref14_Keys_m l = index_Keys_m l := by
  unfold windroseref14_Keys_m
  rw [LR.seq_go]
  obtain ⟨h1, h2⟩ := rkeys_l1 l [] hu List.Pairwise.nil
  refine up_ext h1 (Keys_up l) (fun x => ?_)
  rw [h2 x, Keys_mem hc hu]
  exact ⟨fun q => by rcases q with q | q; cases q; exact q, fun q => .inr q⟩
theorem inA_U {x : Ix} (h : ∀ r ∈ x, U r.1) (n : Int) : ∀ y ∈ bareA (inA x n), U y := fun y hy => by
  obtain ⟨r, hr, _, e⟩ := inA_mem.1 (bareA_mem.1 hy).1
  rw [← e]; exact h r hr
theorem r14_l4 {x : Ix} (h : ∀ r ∈ x, U r.1) : ∀ (l : List Int), (windroseref14_Right_l4 x l () = .go () ∧ ∀ n ∈ l, types_Check_m (bareA (inA x n)) = 0 ∧ index_Keys_m (bareA (inA x n)) = inA x n) ∨ (windroseref14_Right_l4 x l () = .ret (.ret false) ∧ ¬ ∀ n ∈ l, types_Check_m (bareA (inA x n)) = 0 ∧ index_Keys_m (bareA (inA x n)) = inA x n)
  | [] => .inl ⟨rfl, fun n hn => by cases hn⟩
  | n :: l => by
    rw [windroseref14_Right_l4]
    simp only [LR.seq_go]
    rw [r14_type h, r14_in, r03_same]
    have hR := r03_right (inA_U h n)
    have key : (if (!(windroseref03_Right_m (bareA (inA x n)))) = true then true else (!(decide (windroseref14_Keys_m (bareA (inA x n)) = inA x n)))) = true ↔ ¬ (types_Check_m (bareA (inA x n)) = 0 ∧ index_Keys_m (bareA (inA x n)) = inA x n) := by
      by_cases hc : types_Check_m (bareA (inA x n)) = 0
      · rw [hR.2 hc, Bool.not_true, if_neg Bool.false_ne_true, r14_keys (inA_U h n) hc, Bool.not_eq_true', decide_eq_false_iff_not]
        exact ⟨fun q z => q z.2, fun q z => q ⟨hc, z⟩⟩
      · have : windroseref03_Right_m (bareA (inA x n)) = false := by rw [← Bool.not_eq_true, hR]; exact hc
        rw [this, Bool.not_false, if_pos rfl]
        exact ⟨fun _ z => hc z.1, fun _ => rfl⟩
    by_cases q : types_Check_m (bareA (inA x n)) = 0 ∧ index_Keys_m (bareA (inA x n)) = inA x n
    · rw [if_neg (fun z => key.1 z q)]
      rcases r14_l4 h l with ⟨e1, e2⟩ | ⟨e1, e2⟩
      · exact .inl ⟨e1, fun m hm => by rcases List.mem_cons.1 hm with rfl | hm; exact q; exact e2 m hm⟩
      · exact .inr ⟨e1, fun z => e2 (fun m hm => z m (List.mem_cons_of_mem _ hm))⟩
    · rw [if_pos (key.2 q)]
      exact .inr ⟨rfl, fun z => q (z n (List.mem_cons_self ..))⟩
theorem r14_l3 {x : Ix} (h : ∀ r ∈ x, U r.1) : ∀ (l : Ix), (windroseref14_Right_l3 x l () = .go () ∧ ∀ r ∈ l, ∀ n ∈ r.2, types_Check_m (bareA (inA x n)) = 0 ∧ index_Keys_m (bareA (inA x n)) = inA x n) ∨ (windroseref14_Right_l3 x l () = .ret false ∧ ¬ ∀ r ∈ l, ∀ n ∈ r.2, types_Check_m (bareA (inA x n)) = 0 ∧ index_Keys_m (bareA (inA x n)) = inA x n)
  | [] => .inl ⟨rfl, fun n hn => by cases hn⟩
  | r :: l => by
    rw [windroseref14_Right_l3]
    rcases r14_l4 h r.2 with ⟨e1, e2⟩ | ⟨e1, e2⟩
    · rw [e1, LR.on_go]
      rcases r14_l3 h l with ⟨f1, f2⟩ | ⟨f1, f2⟩
      · exact .inl ⟨f1, fun q hq => by rcases List.mem_cons.1 hq with rfl | hq; exact e2; exact f2 q hq⟩
      · exact .inr ⟨f1, fun z => f2 (fun q hq => z q (List.mem_cons_of_mem _ hq))⟩
    · rw [e1, LR.on_ret]
      exact .inr ⟨rfl, fun z => e2 (z r (List.mem_cons_self ..))⟩
theorem tabs_all {x : Ix} (h : ∀ r ∈ x, ∀ n ∈ r.2, types_Check_m (bareA (inA x n)) = 0 ∧ index_Keys_m (bareA (inA x n)) = inA x n) (n : Int) : types_Check_m (bareA (inA x n)) = 0 ∧ index_Keys_m (bareA (inA x n)) = inA x n := by
  by_cases e : n ∈ x.flatMap Prod.snd
  · obtain ⟨r, hr, hn⟩ := List.mem_flatMap.1 e
    exact h r hr n hn
  · rw [inA_none e]
    exact (l4_iff []).1 (by kernel_rfl)
theorem r14_right {x : Ix} (h : ∀ r ∈ x, U r.1) : windroseref14_Right_m x = true ↔ RightI x := by
  unfold windroseref14_Right_m
  rw [r14_l1]
  have hi := adjL_iff ((0, []) : Int × List Int) (fun y => !(windroseref14_row_m y)) (fun y => y.1) x
  have hm : (∀ y ∈ x, (!(windroseref14_row_m y)) = false) ↔ ∀ r ∈ x, RowOk r := by
    refine forall_congr' (fun y => imp_congr_right (fun hy => ?_))
    rw [← r14_row (h y hy)]
    cases windroseref14_row_m y <;> simp
  rcases adjL_or ((0, []) : Int × List Int) (fun y => !(windroseref14_row_m y)) (fun y => y.1) x x 0 with e | e
  · rw [e, LR.on_go]
    have q := hi.1 e
    rcases r14_l3 h x with ⟨e1, e2⟩ | ⟨e1, e2⟩
    · rw [e1, LR.on_go]
      exact ⟨fun _ => ⟨q.2, hm.1 q.1, tabs_all e2⟩, fun _ => rfl⟩
    · rw [e1, LR.on_ret]
      exact ⟨fun z => (by cases z), fun z => absurd (fun r _ n _ => z.tabs n) e2⟩
  · rw [e, LR.on_ret]
    refine ⟨fun z => (by cases z), fun z => ?_⟩
    rw [hi.2 ⟨hm.2 z.rows, z.up⟩] at e; cases e
theorem sameT_l1 (b : List Int) : ∀ (xs : List Int) (k : Nat), (LR.on (windroseref14_sameTables_l1 b xs k ()) (fun r => r) (fun _ => true) = true ↔ ∀ i, i < xs.length → xs.getD i 0 = b.getD (k + i) 0)
  | [], k => ⟨fun _ i h => by simp at h, fun _ => rfl⟩
  | y :: ys, k => by
    rw [windroseref14_sameTables_l1]
    by_cases e : y = b.getD k 0
    · rw [if_neg (fun q => q e), sameT_l1 b ys (k + 1)]
      constructor
      · intro q i hi
        cases i with
        | zero => simpa using e
        | succ i =>
          have := q i (by simpa using hi)
          rw [show k + (i + 1) = k + 1 + i by omega]; simpa using this
      · intro q i hi
        have := q (i + 1) (by simpa using hi)
        rw [show k + (i + 1) = k + 1 + i by omega] at this; simpa using this
    · rw [if_pos e, LR.on_ret]
      refine ⟨fun q => (by cases q), fun q => ?_⟩
      have := q 0 (by simp)
      exact absurd (by simpa using this) e
theorem r14_sameT (a b : List Int) : windroseref14_sameTables_m a b = decide (a = b) := by
  unfold windroseref14_sameTables_m
  by_cases hl : a.length = b.length
  · rw [if_neg (fun q => q (by omega))]
    have := sameT_l1 b a 0
    by_cases e : a = b
    · rw [decide_eq_true e, this]; intro i hi; rw [e, Nat.zero_add]
    · rw [decide_eq_false e, ← Bool.not_eq_true, this]
      exact fun q => e (list_ext_getD hl (fun i hi => by have := q i hi; rwa [Nat.zero_add] at this))
  · rw [if_pos (fun q => hl (by omega))]
    exact (decide_eq_false (fun e => hl (by rw [e]))).symm
theorem r14_same_l1 (b : Ix) : ∀ (xs : Ix) (k : Nat), (LR.on (windroseref14_Same_l1 b xs k ()) (fun r => r) (fun _ => true) = true ↔ ∀ i r, xs[i]? = some r → r = b.getD (k + i) (0, []))
  | [], k => ⟨fun _ i r h => by simp at h, fun _ => rfl⟩
  | y :: ys, k => by
    rw [windroseref14_Same_l1, LR.seq_go, r14_sameT]
    have hb : (if y.1 ≠ (b.getD k (0, [])).1 then true else (!(decide (y.2 = (b.getD k (0, [])).2)))) = true ↔ ¬ y = b.getD k (0, []) := by
      by_cases e : y.1 = (b.getD k (0, [])).1
      · rw [if_neg (fun q => q e), Bool.not_eq_true', decide_eq_false_iff_not]
        exact ⟨fun q z => q (by rw [← z]), fun q z => q (Prod.ext e z)⟩
      · rw [if_pos e]; exact ⟨fun _ z => e (by rw [← z]), fun _ => rfl⟩
    by_cases e : y = b.getD k (0, [])
    · rw [if_neg (fun q => hb.1 q e), r14_same_l1 b ys (k + 1)]
      constructor
      · intro q i r hi
        cases i with
        | zero => obtain rfl : y = r := by simpa using hi
                  exact e
        | succ i =>
          have := q i r (by simpa using hi)
          rw [show k + (i + 1) = k + 1 + i by omega]; exact this
      · intro q i r hi
        have := q (i + 1) r (by simpa using hi)
        rw [show k + (i + 1) = k + 1 + i by omega] at this; exact this
    · rw [if_pos (hb.2 e), LR.on_ret]
      refine ⟨fun q => (by cases q), fun q => ?_⟩
      exact absurd (q 0 y rfl) e
theorem r14_same (a b : Ix) : windroseref14_Same_m a b = decide (a = b) := by
  unfold windroseref14_Same_m
  by_cases hl : a.length = b.length
  · rw [if_neg (fun q => q (by omega))]
    have h := r14_same_l1 b a 0
    by_cases e : a = b
    · subst e
      rw [decide_eq_true rfl, h]; intro i r hi; rw [Nat.zero_add, List.getD_eq_getElem?_getD, hi]; rfl
    · rw [decide_eq_false e, ← Bool.not_eq_true, h]
      refine fun q => e (List.ext_getElem? (fun i => ?_))
      by_cases hi : i < a.length
      · have h1 : a[i]? = some a[i] := List.getElem?_eq_getElem hi
        have := q i _ h1
        rw [Nat.zero_add, List.getD_eq_getElem?_getD, List.getElem?_eq_getElem (by omega : i < b.length)] at this
        rw [h1, List.getElem?_eq_getElem (by omega : i < b.length), this]; rfl
      · rw [List.getElem?_eq_none (by omega), List.getElem?_eq_none (by omega)]
  · rw [if_pos (fun q => hl (by omega))]
    exact (decide_eq_false (fun e => hl (by rw [e]))).symm
end Go.SX

set_option linter.unusedVariables false
set_option linter.unusedSimpArgs false
namespace Go.SX
open Go Go.Proofs

def windroselaw14_IndexMay_l4  : List (List Int) → Nat → Unit → LR (LR (Bool) (Unit)) (Unit)
  | [], kl4, sl4 => .go ()
  | yl4 :: ysl4, kl4, sl4 => if (kl4 : Int) = 6 then (.go ()) else (LR.seq (windroselaw14_few_m yl4) (fun r60 => LR.seq (if (windroseref03_Right_m r60) = true then (LR.seq (windroseref14_Keys_m r60) (fun r64 => r64)) else [] : (List Int)) (fun sc5 => LR.seq (index_Keys_m r60) (fun r66 => if ¬ (r66 = sc5) then (.ret (.ret false)) else (windroselaw14_IndexMay_l4 ysl4 (kl4 + 1) ())))))
def windroselaw14_IndexMay_m (a0 : (List (Int × (List Int)))) (a1 : (List (Int × (List Int)))) (a2 : List (List Int)) : Bool :=
  if (!windroselaw14_wakes_m) = true then false else (LR.seq (LR.seq (windroselaw14_own_m a0) (fun r16 => LR.seq (windroselaw14_own_m a1) (fun r18 => (r16, r18))) : (List (Int × (List Int))) × (List (Int × (List Int)))) (fun sc1 => LR.seq (if ((decide (((index_Check_m sc1.1) : Int) = 0)) != (windroseref14_Right_m sc1.1)) = true then true else (if ((index_Check_m sc1.1) : Int) ≠ 0 then (if ((index_Check_m sc1.1) : Int) ≠ 240 then true else (if ((index_Same_m sc1.1 sc1.2) != (windroseref14_Same_m sc1.1 sc1.2)) = true then true else (LR.seq (windroselaw14_own_m a0) (fun r46 => (!(index_Same_m sc1.1 r46)))))) else (if ((index_Same_m sc1.1 sc1.2) != (windroseref14_Same_m sc1.1 sc1.2)) = true then true else (LR.seq (windroselaw14_own_m a0) (fun r46 => (!(index_Same_m sc1.1 r46)))))) : Bool) (fun sc2 => if sc2 = true then false else (LR.on (LR.on (windroselaw14_IndexMay_l4 a2 0 ()) (fun r => r) (fun ol4 => .go ol4) : LR (Bool) (Unit)) (fun r => r) (fun sc3 => LR.seq (windroselaw14_own_m a0) (fun r73 => (windroseref14_Same_m sc1.1 r73)))))))
set_option maxHeartbeats 3200000 in
theorem windroselaw14_IndexMay_c (H : Heap) (a0 : (List (Int × (List Int)))) (va0_0 : Value) (ha0_0 : RdS listedE H va0_0 a0) (a1 : (List (Int × (List Int)))) (va1_0 : Value) (ha1_0 : RdS listedE H va1_0 a1) (va2 : Value) (a2 : List (List Int)) (ha2 : RdS (slE (intE .u64)) H va2 a2) : Fv Tryz.prog (fnv 4) [.agg #[va0_0], .agg #[va1_0], va2] H (.bool (windroselaw14_IndexMay_m a0 a1 a2)) := by
  refine Fc.of_body (N := 75) Tryz.func4 rfl kA rfl rfl ?_
  intro w0
  obtain ⟨Aa0_0, ca0_0, rfl, hca0_0, hda0_0, ha0_0⟩ := ha0_0.shape
  obtain ⟨Aa1_0, ca1_0, rfl, hca1_0, hda1_0, ha1_0⟩ := ha1_0.shape
  obtain ⟨Aa2, ca2, rfl, hca2, hda2, ha2⟩ := ha2.shape
  refine T.seq ?_
  refine T.region ?_
  refine R.box rfl cA ?_
  intro b3
  refine R.box rfl cA ?_
  intro b4
  refine R.asE rfl cA ?_
  refine TL.shut .hd ?_
  intro Hb4_1 sb4_1 qb4_1
  have hb4_1 : Hb4_1 b4 = some (.cells #[.slice Aa1_0 a1.length ca1_0] 24) := shut1 qb4_1
  refine TL.shut .hd ?_
  intro Hb3_2 sb3_2 qb3_2
  have hb3_2 : Hb3_2 b3 = some (.cells #[.slice Aa0_0 a0.length ca0_0] 24) := shut1 qb3_2
  refine TL.nil (Post.thnN ?_)
  refine T.seq ?_
  refine T.seq ?_
  refine T.region ?_
  refine R.callv rfl rfl rfl (windroselaw14_wakes_c _ ) ?_
  refine R.not rfl rfl ?_
  refine TL.nil (Post.thnN ?_)
  refine T.cond rfl (fun c14 => ?_) (fun c14 => ?_)
  · refine T.set 14 (.bool true) (congrArg Value.bool c14) ?_
    refine T.seq ?_
    refine T.region ?_
    refine R.asE rfl cA ?_
    refine TL.nil (Post.thnN ?_)
    refine T.has Has.nil ?_
    refine T.ret (Post.thnR ?_)
    have hM : windroselaw14_IndexMay_m a0 a1 a2 = false := by rw [windroselaw14_IndexMay_m, if_t c14]
    exact fin1L (v := .bool false) [] rfl rfl (List.Sublist.refl _) ⟨rfl, by first | rw [hM] | rfl⟩
  refine T.set 14 (.bool false) (congrArg Value.bool c14) ?_
  refine T.skip (Post.thnN ?_)
  refine T.seq ?_
  refine T.cutK (ι := Nat × Value × (List (Int × (List Int))) × Chunk × Nat × Value × (List (Int × (List Int))) × Chunk) (fun ⟨b7c1, v7c1_0, x7c1_0, c7c1_0, b8c1, v8c1_0, x8c1_0, c8c1_0⟩ H' L' ds' => Has L' [c7c1_0, [(b7c1, .cells #[v7c1_0] 24)], c8c1_0, [(b8c1, .cells #[v8c1_0] 24)]] ∧ OwnS listedE 45 H' v7c1_0 x7c1_0 c7c1_0 ∧ OwnS listedE 45 H' v8c1_0 x8c1_0 c8c1_0 ∧ x7c1_0.length ≤ 60 ∧ (∀ q ∈ x7c1_0, q.2.length ≤ 12) ∧ (LR.seq (windroselaw14_own_m a0) (fun r16 => LR.seq (windroselaw14_own_m a1) (fun r18 => (r16, r18))) : (List (Int × (List Int))) × (List (Int × (List Int)))) = (x7c1_0, x8c1_0)) (fun ⟨b7c1, v7c1_0, x7c1_0, c7c1_0, b8c1, v8c1_0, x8c1_0, c8c1_0⟩ => [(2, .slice Aa2 a2.length ca2), (3, .pointer (some ⟨b3, 0, none⟩)), (7, .pointer (some ⟨b7c1, 0, none⟩)), (8, .pointer (some ⟨b8c1, 0, none⟩))]) ?_ ?_
  · refine T.draw Tryz_mixed kA ?_
    refine Plan.v 0 [1, 2, 3, 4, 5, 6, 7] kA kA kA kA rfl (fun _ _ h_ => R.ldXH (cs := [.slice Aa0_0 a0.length ca0_0]) (l := [.slice Aa0_0 a0.length ca0_0]) Tryz.isAgg24 Tryz.sizeOf24 rfl rfl hb3_2 rfl rfl (TL.nil h_)) ?_
    refine Plan.v 2 [1, 3, 4, 5, 6, 7] kA kA kA kA rfl (fun _ _ h_ => R.ldXH (cs := [.slice Aa1_0 a1.length ca1_0]) (l := [.slice Aa1_0 a1.length ca1_0]) Tryz.isAgg24 Tryz.sizeOf24 rfl rfl (sb3_2 _ _ hb4_1) rfl rfl (TL.nil h_)) ?_
    refine Plan.s3 1 4 5 [3, 4, 5, 6, 7] [1, 3, 5, 6, 7] [1, 3, 4, 6, 7] kA kA kA kA rfl rfl rfl ?_ ?_ ?_
    · obtain ⟨r16, er16⟩ : ∃ r, r = (windroselaw14_own_m a0) := ⟨_, rfl⟩
      refine TL.call [] rfl rfl rfl (windroselaw14_own_c _ a0 _ (ha0_0.mono (sb4_1.trans sb3_2))) ?_
      intro v16 H16 L16 s16 q16
      rw [← er16] at q16
      obtain ⟨u16_0_0, c16_0_0, rfl, rfl, w16_0_0⟩ := q16
      obtain ⟨A16_0_0, p16_0_0, rfl, m16_0_0, n16_0_0⟩ := OwnS.shape w16_0_0
      have tow16 := own_len _ _ er16
      have toa16 := tow16.1
      have tob16 := tow16.2
      refine TL.nil (Plan.e1 (s16) ?_)
      refine Plan.s3 3 4 5 [4, 5, 6, 7] [3, 5, 6, 7] [3, 4, 6, 7] kA kA kA kA rfl rfl rfl ?_ ?_ ?_
      · obtain ⟨r18, er18⟩ : ∃ r, r = (windroselaw14_own_m a1) := ⟨_, rfl⟩
        refine TL.call [] rfl rfl rfl (windroselaw14_own_c _ a1 _ (ha1_0.mono (sb4_1.trans (sb3_2.trans s16)))) ?_
        intro v18 H18 L18 s18 q18
        rw [← er18] at q18
        obtain ⟨u18_0_0, c18_0_0, rfl, rfl, w18_0_0⟩ := q18
        obtain ⟨A18_0_0, p18_0_0, rfl, m18_0_0, n18_0_0⟩ := OwnS.shape w18_0_0
        have tow18 := own_len _ _ er18
        have toa18 := tow18.1
        have tob18 := tow18.2
        refine TL.nil (Plan.e1 (s18) ?_)
        refine Plan.s2 4 5 [5, 6, 7] [4, 6, 7] kA kA kA rfl rfl ?_ ?_
        · refine R.alloc Tryz.zeroValue24 rfl ?_
          intro b7
          refine TL.nil (Plan.e1 (HLe.refl _) ?_)
          refine Plan.s1 5 [6, 7] kA kA rfl ?_
          refine R.alloc Tryz.zeroValue24 rfl ?_
          intro b8
          refine TL.nil (Plan.e1 (HLe.refl _) ?_)
          refine Plan.s1 6 [7] kA kA rfl ?_
          refine R.stX (old := [.slice none 0 0]) (l := [.slice A16_0_0 r16.length p16_0_0]) (new := [.slice A16_0_0 r16.length p16_0_0]) (et := 24) Tryz.sizeOf24 rfl rfl rfl rfl rfl (by show 0 + 1 ≤ 1; decide) rfl (all_one rfl) (.tl .hd) ?_
          refine TL.nil (Plan.e0 (HLe.refl _) ?_)
          refine Plan.s1 7 [] kA kA rfl ?_
          refine R.stX (old := [.slice none 0 0]) (l := [.slice A18_0_0 r18.length p18_0_0]) (new := [.slice A18_0_0 r18.length p18_0_0]) (et := 24) Tryz.sizeOf24 rfl rfl rfl rfl rfl (by show 0 + 1 ≤ 1; decide) rfl (all_one rfl) .hd ?_
          refine TL.nil (Plan.e0 (HLe.refl _) ?_)
          refine Plan.done (Post.thnN ?_)
          exact ⟨(b7, .slice A16_0_0 r16.length p16_0_0, r16, c16_0_0, b8, .slice A18_0_0 r18.length p18_0_0, r18, c18_0_0), (s16.trans s18), ⟨(Has.cons (.tl (.tl (.tl .hd))) (Has.cons (.tl .hd) (Has.cons (.tl .hd) (Has.cons .hd Has.nil)))), (OwnS.mono w16_0_0 s18), w18_0_0, (by first | omega | assumption), (by first | omega | assumption), (by subst er18; subst er16; rw [LR.seq_go, LR.seq_go])⟩, rfl, rfl, rfl, rfl, trivial⟩
        refine R.alloc Tryz.zeroValue24 rfl ?_
        intro b8
        refine TL.nil (Plan.e1 (HLe.refl _) ?_)
        refine Plan.s1 4 [6, 7] kA kA rfl ?_
        refine R.alloc Tryz.zeroValue24 rfl ?_
        intro b7
        refine TL.nil (Plan.e1 (HLe.refl _) ?_)
        refine Plan.s1 6 [7] kA kA rfl ?_
        refine R.stX (old := [.slice none 0 0]) (l := [.slice A16_0_0 r16.length p16_0_0]) (new := [.slice A16_0_0 r16.length p16_0_0]) (et := 24) Tryz.sizeOf24 rfl rfl rfl rfl rfl (by show 0 + 1 ≤ 1; decide) rfl (all_one rfl) .hd ?_
        refine TL.nil (Plan.e0 (HLe.refl _) ?_)
        refine Plan.s1 7 [] kA kA rfl ?_
        refine R.stX (old := [.slice none 0 0]) (l := [.slice A18_0_0 r18.length p18_0_0]) (new := [.slice A18_0_0 r18.length p18_0_0]) (et := 24) Tryz.sizeOf24 rfl rfl rfl rfl rfl (by show 0 + 1 ≤ 1; decide) rfl (all_one rfl) (.tl .hd) ?_
        refine TL.nil (Plan.e0 (HLe.refl _) ?_)
        refine Plan.done (Post.thnN ?_)
        exact ⟨(b7, .slice A16_0_0 r16.length p16_0_0, r16, c16_0_0, b8, .slice A18_0_0 r18.length p18_0_0, r18, c18_0_0), (s16.trans s18), ⟨(Has.cons (.tl (.tl (.tl .hd))) (Has.cons .hd (Has.cons (.tl .hd) (Has.cons .hd Has.nil)))), (OwnS.mono w16_0_0 s18), w18_0_0, (by first | omega | assumption), (by first | omega | assumption), (by subst er18; subst er16; rw [LR.seq_go, LR.seq_go])⟩, rfl, rfl, rfl, rfl, trivial⟩
      · refine R.alloc Tryz.zeroValue24 rfl ?_
        intro b7
        refine TL.nil (Plan.e1 (HLe.refl _) ?_)
        refine Plan.s2 3 5 [5, 6, 7] [3, 6, 7] kA kA kA rfl rfl ?_ ?_
        · obtain ⟨r18, er18⟩ : ∃ r, r = (windroselaw14_own_m a1) := ⟨_, rfl⟩
          refine TL.call [] rfl rfl rfl (windroselaw14_own_c _ a1 _ (ha1_0.mono (sb4_1.trans (sb3_2.trans s16)))) ?_
          intro v18 H18 L18 s18 q18
          rw [← er18] at q18
          obtain ⟨u18_0_0, c18_0_0, rfl, rfl, w18_0_0⟩ := q18
          obtain ⟨A18_0_0, p18_0_0, rfl, m18_0_0, n18_0_0⟩ := OwnS.shape w18_0_0
          have tow18 := own_len _ _ er18
          have toa18 := tow18.1
          have tob18 := tow18.2
          refine TL.nil (Plan.e1 (s18) ?_)
          refine Plan.s1 5 [6, 7] kA kA rfl ?_
          refine R.alloc Tryz.zeroValue24 rfl ?_
          intro b8
          refine TL.nil (Plan.e1 (HLe.refl _) ?_)
          refine Plan.s1 6 [7] kA kA rfl ?_
          refine R.stX (old := [.slice none 0 0]) (l := [.slice A16_0_0 r16.length p16_0_0]) (new := [.slice A16_0_0 r16.length p16_0_0]) (et := 24) Tryz.sizeOf24 rfl rfl rfl rfl rfl (by show 0 + 1 ≤ 1; decide) rfl (all_one rfl) (.tl (.tl .hd)) ?_
          refine TL.nil (Plan.e0 (HLe.refl _) ?_)
          refine Plan.s1 7 [] kA kA rfl ?_
          refine R.stX (old := [.slice none 0 0]) (l := [.slice A18_0_0 r18.length p18_0_0]) (new := [.slice A18_0_0 r18.length p18_0_0]) (et := 24) Tryz.sizeOf24 rfl rfl rfl rfl rfl (by show 0 + 1 ≤ 1; decide) rfl (all_one rfl) .hd ?_
          refine TL.nil (Plan.e0 (HLe.refl _) ?_)
          refine Plan.done (Post.thnN ?_)
          exact ⟨(b7, .slice A16_0_0 r16.length p16_0_0, r16, c16_0_0, b8, .slice A18_0_0 r18.length p18_0_0, r18, c18_0_0), (s16.trans s18), ⟨(Has.cons (.tl (.tl (.tl .hd))) (Has.cons (.tl (.tl .hd)) (Has.cons (.tl .hd) (Has.cons .hd Has.nil)))), (OwnS.mono w16_0_0 s18), w18_0_0, (by first | omega | assumption), (by first | omega | assumption), (by subst er18; subst er16; rw [LR.seq_go, LR.seq_go])⟩, rfl, rfl, rfl, rfl, trivial⟩
        refine R.alloc Tryz.zeroValue24 rfl ?_
        intro b8
        refine TL.nil (Plan.e1 (HLe.refl _) ?_)
        refine Plan.s1 3 [6, 7] kA kA rfl ?_
        obtain ⟨r18, er18⟩ : ∃ r, r = (windroselaw14_own_m a1) := ⟨_, rfl⟩
        refine TL.call [] rfl rfl rfl (windroselaw14_own_c _ a1 _ (ha1_0.mono (sb4_1.trans (sb3_2.trans s16)))) ?_
        intro v18 H18 L18 s18 q18
        rw [← er18] at q18
        obtain ⟨u18_0_0, c18_0_0, rfl, rfl, w18_0_0⟩ := q18
        obtain ⟨A18_0_0, p18_0_0, rfl, m18_0_0, n18_0_0⟩ := OwnS.shape w18_0_0
        have tow18 := own_len _ _ er18
        have toa18 := tow18.1
        have tob18 := tow18.2
        refine TL.nil (Plan.e1 (s18) ?_)
        refine Plan.s1 6 [7] kA kA rfl ?_
        refine R.stX (old := [.slice none 0 0]) (l := [.slice A16_0_0 r16.length p16_0_0]) (new := [.slice A16_0_0 r16.length p16_0_0]) (et := 24) Tryz.sizeOf24 rfl rfl rfl rfl rfl (by show 0 + 1 ≤ 1; decide) rfl (all_one rfl) (.tl (.tl .hd)) ?_
        refine TL.nil (Plan.e0 (HLe.refl _) ?_)
        refine Plan.s1 7 [] kA kA rfl ?_
        refine R.stX (old := [.slice none 0 0]) (l := [.slice A18_0_0 r18.length p18_0_0]) (new := [.slice A18_0_0 r18.length p18_0_0]) (et := 24) Tryz.sizeOf24 rfl rfl rfl rfl rfl (by show 0 + 1 ≤ 1; decide) rfl (all_one rfl) (.tl .hd) ?_
        refine TL.nil (Plan.e0 (HLe.refl _) ?_)
        refine Plan.done (Post.thnN ?_)
        exact ⟨(b7, .slice A16_0_0 r16.length p16_0_0, r16, c16_0_0, b8, .slice A18_0_0 r18.length p18_0_0, r18, c18_0_0), (s16.trans s18), ⟨(Has.cons (.tl (.tl (.tl .hd))) (Has.cons (.tl (.tl .hd)) (Has.cons .hd (Has.cons .hd Has.nil)))), (OwnS.mono w16_0_0 s18), w18_0_0, (by first | omega | assumption), (by first | omega | assumption), (by subst er18; subst er16; rw [LR.seq_go, LR.seq_go])⟩, rfl, rfl, rfl, rfl, trivial⟩
      refine R.alloc Tryz.zeroValue24 rfl ?_
      intro b8
      refine TL.nil (Plan.e1 (HLe.refl _) ?_)
      refine Plan.s2 3 4 [4, 6, 7] [3, 6, 7] kA kA kA rfl rfl ?_ ?_
      · obtain ⟨r18, er18⟩ : ∃ r, r = (windroselaw14_own_m a1) := ⟨_, rfl⟩
        refine TL.call [] rfl rfl rfl (windroselaw14_own_c _ a1 _ (ha1_0.mono (sb4_1.trans (sb3_2.trans s16)))) ?_
        intro v18 H18 L18 s18 q18
        rw [← er18] at q18
        obtain ⟨u18_0_0, c18_0_0, rfl, rfl, w18_0_0⟩ := q18
        obtain ⟨A18_0_0, p18_0_0, rfl, m18_0_0, n18_0_0⟩ := OwnS.shape w18_0_0
        have tow18 := own_len _ _ er18
        have toa18 := tow18.1
        have tob18 := tow18.2
        refine TL.nil (Plan.e1 (s18) ?_)
        refine Plan.s1 4 [6, 7] kA kA rfl ?_
        refine R.alloc Tryz.zeroValue24 rfl ?_
        intro b7
        refine TL.nil (Plan.e1 (HLe.refl _) ?_)
        refine Plan.s1 6 [7] kA kA rfl ?_
        refine R.stX (old := [.slice none 0 0]) (l := [.slice A16_0_0 r16.length p16_0_0]) (new := [.slice A16_0_0 r16.length p16_0_0]) (et := 24) Tryz.sizeOf24 rfl rfl rfl rfl rfl (by show 0 + 1 ≤ 1; decide) rfl (all_one rfl) .hd ?_
        refine TL.nil (Plan.e0 (HLe.refl _) ?_)
        refine Plan.s1 7 [] kA kA rfl ?_
        refine R.stX (old := [.slice none 0 0]) (l := [.slice A18_0_0 r18.length p18_0_0]) (new := [.slice A18_0_0 r18.length p18_0_0]) (et := 24) Tryz.sizeOf24 rfl rfl rfl rfl rfl (by show 0 + 1 ≤ 1; decide) rfl (all_one rfl) (.tl (.tl .hd)) ?_
        refine TL.nil (Plan.e0 (HLe.refl _) ?_)
        refine Plan.done (Post.thnN ?_)
        exact ⟨(b7, .slice A16_0_0 r16.length p16_0_0, r16, c16_0_0, b8, .slice A18_0_0 r18.length p18_0_0, r18, c18_0_0), (s16.trans s18), ⟨(Has.cons (.tl (.tl (.tl .hd))) (Has.cons .hd (Has.cons .hd (Has.cons .hd Has.nil)))), (OwnS.mono w16_0_0 s18), w18_0_0, (by first | omega | assumption), (by first | omega | assumption), (by subst er18; subst er16; rw [LR.seq_go, LR.seq_go])⟩, rfl, rfl, rfl, rfl, trivial⟩
      refine R.alloc Tryz.zeroValue24 rfl ?_
      intro b7
      refine TL.nil (Plan.e1 (HLe.refl _) ?_)
      refine Plan.s1 3 [6, 7] kA kA rfl ?_
      obtain ⟨r18, er18⟩ : ∃ r, r = (windroselaw14_own_m a1) := ⟨_, rfl⟩
      refine TL.call [] rfl rfl rfl (windroselaw14_own_c _ a1 _ (ha1_0.mono (sb4_1.trans (sb3_2.trans s16)))) ?_
      intro v18 H18 L18 s18 q18
      rw [← er18] at q18
      obtain ⟨u18_0_0, c18_0_0, rfl, rfl, w18_0_0⟩ := q18
      obtain ⟨A18_0_0, p18_0_0, rfl, m18_0_0, n18_0_0⟩ := OwnS.shape w18_0_0
      have tow18 := own_len _ _ er18
      have toa18 := tow18.1
      have tob18 := tow18.2
      refine TL.nil (Plan.e1 (s18) ?_)
      refine Plan.s1 6 [7] kA kA rfl ?_
      refine R.stX (old := [.slice none 0 0]) (l := [.slice A16_0_0 r16.length p16_0_0]) (new := [.slice A16_0_0 r16.length p16_0_0]) (et := 24) Tryz.sizeOf24 rfl rfl rfl rfl rfl (by show 0 + 1 ≤ 1; decide) rfl (all_one rfl) (.tl .hd) ?_
      refine TL.nil (Plan.e0 (HLe.refl _) ?_)
      refine Plan.s1 7 [] kA kA rfl ?_
      refine R.stX (old := [.slice none 0 0]) (l := [.slice A18_0_0 r18.length p18_0_0]) (new := [.slice A18_0_0 r18.length p18_0_0]) (et := 24) Tryz.sizeOf24 rfl rfl rfl rfl rfl (by show 0 + 1 ≤ 1; decide) rfl (all_one rfl) (.tl (.tl .hd)) ?_
      refine TL.nil (Plan.e0 (HLe.refl _) ?_)
      refine Plan.done (Post.thnN ?_)
      exact ⟨(b7, .slice A16_0_0 r16.length p16_0_0, r16, c16_0_0, b8, .slice A18_0_0 r18.length p18_0_0, r18, c18_0_0), (s16.trans s18), ⟨(Has.cons (.tl (.tl (.tl .hd))) (Has.cons (.tl .hd) (Has.cons .hd (Has.cons .hd Has.nil)))), (OwnS.mono w16_0_0 s18), w18_0_0, (by first | omega | assumption), (by first | omega | assumption), (by subst er18; subst er16; rw [LR.seq_go, LR.seq_go])⟩, rfl, rfl, rfl, rfl, trivial⟩
    · refine R.alloc Tryz.zeroValue24 rfl ?_
      intro b7
      refine TL.nil (Plan.e1 (HLe.refl _) ?_)
      refine Plan.s2 1 5 [3, 5, 6, 7] [1, 3, 6, 7] kA kA kA rfl rfl ?_ ?_
      · obtain ⟨r16, er16⟩ : ∃ r, r = (windroselaw14_own_m a0) := ⟨_, rfl⟩
        refine TL.call [] rfl rfl rfl (windroselaw14_own_c _ a0 _ (ha0_0.mono (sb4_1.trans sb3_2))) ?_
        intro v16 H16 L16 s16 q16
        rw [← er16] at q16
        obtain ⟨u16_0_0, c16_0_0, rfl, rfl, w16_0_0⟩ := q16
        obtain ⟨A16_0_0, p16_0_0, rfl, m16_0_0, n16_0_0⟩ := OwnS.shape w16_0_0
        have tow16 := own_len _ _ er16
        have toa16 := tow16.1
        have tob16 := tow16.2
        refine TL.nil (Plan.e1 (s16) ?_)
        refine Plan.s2 3 5 [5, 6, 7] [3, 6, 7] kA kA kA rfl rfl ?_ ?_
        · obtain ⟨r18, er18⟩ : ∃ r, r = (windroselaw14_own_m a1) := ⟨_, rfl⟩
          refine TL.call [] rfl rfl rfl (windroselaw14_own_c _ a1 _ (ha1_0.mono (sb4_1.trans (sb3_2.trans s16)))) ?_
          intro v18 H18 L18 s18 q18
          rw [← er18] at q18
          obtain ⟨u18_0_0, c18_0_0, rfl, rfl, w18_0_0⟩ := q18
          obtain ⟨A18_0_0, p18_0_0, rfl, m18_0_0, n18_0_0⟩ := OwnS.shape w18_0_0
          have tow18 := own_len _ _ er18
          have toa18 := tow18.1
          have tob18 := tow18.2
          refine TL.nil (Plan.e1 (s18) ?_)
          refine Plan.s1 5 [6, 7] kA kA rfl ?_
          refine R.alloc Tryz.zeroValue24 rfl ?_
          intro b8
          refine TL.nil (Plan.e1 (HLe.refl _) ?_)
          refine Plan.s1 6 [7] kA kA rfl ?_
          refine R.stX (old := [.slice none 0 0]) (l := [.slice A16_0_0 r16.length p16_0_0]) (new := [.slice A16_0_0 r16.length p16_0_0]) (et := 24) Tryz.sizeOf24 rfl rfl rfl rfl rfl (by show 0 + 1 ≤ 1; decide) rfl (all_one rfl) (.tl (.tl (.tl .hd))) ?_
          refine TL.nil (Plan.e0 (HLe.refl _) ?_)
          refine Plan.s1 7 [] kA kA rfl ?_
          refine R.stX (old := [.slice none 0 0]) (l := [.slice A18_0_0 r18.length p18_0_0]) (new := [.slice A18_0_0 r18.length p18_0_0]) (et := 24) Tryz.sizeOf24 rfl rfl rfl rfl rfl (by show 0 + 1 ≤ 1; decide) rfl (all_one rfl) .hd ?_
          refine TL.nil (Plan.e0 (HLe.refl _) ?_)
          refine Plan.done (Post.thnN ?_)
          exact ⟨(b7, .slice A16_0_0 r16.length p16_0_0, r16, c16_0_0, b8, .slice A18_0_0 r18.length p18_0_0, r18, c18_0_0), (s16.trans s18), ⟨(Has.cons (.tl (.tl .hd)) (Has.cons (.tl (.tl .hd)) (Has.cons (.tl .hd) (Has.cons .hd Has.nil)))), (OwnS.mono w16_0_0 s18), w18_0_0, (by first | omega | assumption), (by first | omega | assumption), (by subst er18; subst er16; rw [LR.seq_go, LR.seq_go])⟩, rfl, rfl, rfl, rfl, trivial⟩
        refine R.alloc Tryz.zeroValue24 rfl ?_
        intro b8
        refine TL.nil (Plan.e1 (HLe.refl _) ?_)
        refine Plan.s1 3 [6, 7] kA kA rfl ?_
        obtain ⟨r18, er18⟩ : ∃ r, r = (windroselaw14_own_m a1) := ⟨_, rfl⟩
        refine TL.call [] rfl rfl rfl (windroselaw14_own_c _ a1 _ (ha1_0.mono (sb4_1.trans (sb3_2.trans s16)))) ?_
        intro v18 H18 L18 s18 q18
        rw [← er18] at q18
        obtain ⟨u18_0_0, c18_0_0, rfl, rfl, w18_0_0⟩ := q18
        obtain ⟨A18_0_0, p18_0_0, rfl, m18_0_0, n18_0_0⟩ := OwnS.shape w18_0_0
        have tow18 := own_len _ _ er18
        have toa18 := tow18.1
        have tob18 := tow18.2
        refine TL.nil (Plan.e1 (s18) ?_)
        refine Plan.s1 6 [7] kA kA rfl ?_
        refine R.stX (old := [.slice none 0 0]) (l := [.slice A16_0_0 r16.length p16_0_0]) (new := [.slice A16_0_0 r16.length p16_0_0]) (et := 24) Tryz.sizeOf24 rfl rfl rfl rfl rfl (by show 0 + 1 ≤ 1; decide) rfl (all_one rfl) (.tl (.tl (.tl .hd))) ?_
        refine TL.nil (Plan.e0 (HLe.refl _) ?_)
        refine Plan.s1 7 [] kA kA rfl ?_
        refine R.stX (old := [.slice none 0 0]) (l := [.slice A18_0_0 r18.length p18_0_0]) (new := [.slice A18_0_0 r18.length p18_0_0]) (et := 24) Tryz.sizeOf24 rfl rfl rfl rfl rfl (by show 0 + 1 ≤ 1; decide) rfl (all_one rfl) (.tl .hd) ?_
        refine TL.nil (Plan.e0 (HLe.refl _) ?_)
        refine Plan.done (Post.thnN ?_)
        exact ⟨(b7, .slice A16_0_0 r16.length p16_0_0, r16, c16_0_0, b8, .slice A18_0_0 r18.length p18_0_0, r18, c18_0_0), (s16.trans s18), ⟨(Has.cons (.tl (.tl .hd)) (Has.cons (.tl (.tl .hd)) (Has.cons .hd (Has.cons .hd Has.nil)))), (OwnS.mono w16_0_0 s18), w18_0_0, (by first | omega | assumption), (by first | omega | assumption), (by subst er18; subst er16; rw [LR.seq_go, LR.seq_go])⟩, rfl, rfl, rfl, rfl, trivial⟩
      refine R.alloc Tryz.zeroValue24 rfl ?_
      intro b8
      refine TL.nil (Plan.e1 (HLe.refl _) ?_)
      refine Plan.s1 1 [3, 6, 7] kA kA rfl ?_
      obtain ⟨r16, er16⟩ : ∃ r, r = (windroselaw14_own_m a0) := ⟨_, rfl⟩
      refine TL.call [] rfl rfl rfl (windroselaw14_own_c _ a0 _ (ha0_0.mono (sb4_1.trans sb3_2))) ?_
      intro v16 H16 L16 s16 q16
      rw [← er16] at q16
      obtain ⟨u16_0_0, c16_0_0, rfl, rfl, w16_0_0⟩ := q16
      obtain ⟨A16_0_0, p16_0_0, rfl, m16_0_0, n16_0_0⟩ := OwnS.shape w16_0_0
      have tow16 := own_len _ _ er16
      have toa16 := tow16.1
      have tob16 := tow16.2
      refine TL.nil (Plan.e1 (s16) ?_)
      refine Plan.s1 3 [6, 7] kA kA rfl ?_
      obtain ⟨r18, er18⟩ : ∃ r, r = (windroselaw14_own_m a1) := ⟨_, rfl⟩
      refine TL.call [] rfl rfl rfl (windroselaw14_own_c _ a1 _ (ha1_0.mono (sb4_1.trans (sb3_2.trans s16)))) ?_
      intro v18 H18 L18 s18 q18
      rw [← er18] at q18
      obtain ⟨u18_0_0, c18_0_0, rfl, rfl, w18_0_0⟩ := q18
      obtain ⟨A18_0_0, p18_0_0, rfl, m18_0_0, n18_0_0⟩ := OwnS.shape w18_0_0
      have tow18 := own_len _ _ er18
      have toa18 := tow18.1
      have tob18 := tow18.2
      refine TL.nil (Plan.e1 (s18) ?_)
      refine Plan.s1 6 [7] kA kA rfl ?_
      refine R.stX (old := [.slice none 0 0]) (l := [.slice A16_0_0 r16.length p16_0_0]) (new := [.slice A16_0_0 r16.length p16_0_0]) (et := 24) Tryz.sizeOf24 rfl rfl rfl rfl rfl (by show 0 + 1 ≤ 1; decide) rfl (all_one rfl) (.tl (.tl (.tl .hd))) ?_
      refine TL.nil (Plan.e0 (HLe.refl _) ?_)
      refine Plan.s1 7 [] kA kA rfl ?_
      refine R.stX (old := [.slice none 0 0]) (l := [.slice A18_0_0 r18.length p18_0_0]) (new := [.slice A18_0_0 r18.length p18_0_0]) (et := 24) Tryz.sizeOf24 rfl rfl rfl rfl rfl (by show 0 + 1 ≤ 1; decide) rfl (all_one rfl) (.tl (.tl .hd)) ?_
      refine TL.nil (Plan.e0 (HLe.refl _) ?_)
      refine Plan.done (Post.thnN ?_)
      exact ⟨(b7, .slice A16_0_0 r16.length p16_0_0, r16, c16_0_0, b8, .slice A18_0_0 r18.length p18_0_0, r18, c18_0_0), (s16.trans s18), ⟨(Has.cons (.tl .hd) (Has.cons (.tl (.tl .hd)) (Has.cons .hd (Has.cons .hd Has.nil)))), (OwnS.mono w16_0_0 s18), w18_0_0, (by first | omega | assumption), (by first | omega | assumption), (by subst er18; subst er16; rw [LR.seq_go, LR.seq_go])⟩, rfl, rfl, rfl, rfl, trivial⟩
    refine R.alloc Tryz.zeroValue24 rfl ?_
    intro b8
    refine TL.nil (Plan.e1 (HLe.refl _) ?_)
    refine Plan.s2 1 4 [3, 4, 6, 7] [1, 3, 6, 7] kA kA kA rfl rfl ?_ ?_
    · obtain ⟨r16, er16⟩ : ∃ r, r = (windroselaw14_own_m a0) := ⟨_, rfl⟩
      refine TL.call [] rfl rfl rfl (windroselaw14_own_c _ a0 _ (ha0_0.mono (sb4_1.trans sb3_2))) ?_
      intro v16 H16 L16 s16 q16
      rw [← er16] at q16
      obtain ⟨u16_0_0, c16_0_0, rfl, rfl, w16_0_0⟩ := q16
      obtain ⟨A16_0_0, p16_0_0, rfl, m16_0_0, n16_0_0⟩ := OwnS.shape w16_0_0
      have tow16 := own_len _ _ er16
      have toa16 := tow16.1
      have tob16 := tow16.2
      refine TL.nil (Plan.e1 (s16) ?_)
      refine Plan.s2 3 4 [4, 6, 7] [3, 6, 7] kA kA kA rfl rfl ?_ ?_
      · obtain ⟨r18, er18⟩ : ∃ r, r = (windroselaw14_own_m a1) := ⟨_, rfl⟩
        refine TL.call [] rfl rfl rfl (windroselaw14_own_c _ a1 _ (ha1_0.mono (sb4_1.trans (sb3_2.trans s16)))) ?_
        intro v18 H18 L18 s18 q18
        rw [← er18] at q18
        obtain ⟨u18_0_0, c18_0_0, rfl, rfl, w18_0_0⟩ := q18
        obtain ⟨A18_0_0, p18_0_0, rfl, m18_0_0, n18_0_0⟩ := OwnS.shape w18_0_0
        have tow18 := own_len _ _ er18
        have toa18 := tow18.1
        have tob18 := tow18.2
        refine TL.nil (Plan.e1 (s18) ?_)
        refine Plan.s1 4 [6, 7] kA kA rfl ?_
        refine R.alloc Tryz.zeroValue24 rfl ?_
        intro b7
        refine TL.nil (Plan.e1 (HLe.refl _) ?_)
        refine Plan.s1 6 [7] kA kA rfl ?_
        refine R.stX (old := [.slice none 0 0]) (l := [.slice A16_0_0 r16.length p16_0_0]) (new := [.slice A16_0_0 r16.length p16_0_0]) (et := 24) Tryz.sizeOf24 rfl rfl rfl rfl rfl (by show 0 + 1 ≤ 1; decide) rfl (all_one rfl) .hd ?_
        refine TL.nil (Plan.e0 (HLe.refl _) ?_)
        refine Plan.s1 7 [] kA kA rfl ?_
        refine R.stX (old := [.slice none 0 0]) (l := [.slice A18_0_0 r18.length p18_0_0]) (new := [.slice A18_0_0 r18.length p18_0_0]) (et := 24) Tryz.sizeOf24 rfl rfl rfl rfl rfl (by show 0 + 1 ≤ 1; decide) rfl (all_one rfl) (.tl (.tl (.tl .hd))) ?_
        refine TL.nil (Plan.e0 (HLe.refl _) ?_)
        refine Plan.done (Post.thnN ?_)
        exact ⟨(b7, .slice A16_0_0 r16.length p16_0_0, r16, c16_0_0, b8, .slice A18_0_0 r18.length p18_0_0, r18, c18_0_0), (s16.trans s18), ⟨(Has.cons (.tl (.tl .hd)) (Has.cons .hd (Has.cons .hd (Has.cons .hd Has.nil)))), (OwnS.mono w16_0_0 s18), w18_0_0, (by first | omega | assumption), (by first | omega | assumption), (by subst er18; subst er16; rw [LR.seq_go, LR.seq_go])⟩, rfl, rfl, rfl, rfl, trivial⟩
      refine R.alloc Tryz.zeroValue24 rfl ?_
      intro b7
      refine TL.nil (Plan.e1 (HLe.refl _) ?_)
      refine Plan.s1 3 [6, 7] kA kA rfl ?_
      obtain ⟨r18, er18⟩ : ∃ r, r = (windroselaw14_own_m a1) := ⟨_, rfl⟩
      refine TL.call [] rfl rfl rfl (windroselaw14_own_c _ a1 _ (ha1_0.mono (sb4_1.trans (sb3_2.trans s16)))) ?_
      intro v18 H18 L18 s18 q18
      rw [← er18] at q18
      obtain ⟨u18_0_0, c18_0_0, rfl, rfl, w18_0_0⟩ := q18
      obtain ⟨A18_0_0, p18_0_0, rfl, m18_0_0, n18_0_0⟩ := OwnS.shape w18_0_0
      have tow18 := own_len _ _ er18
      have toa18 := tow18.1
      have tob18 := tow18.2
      refine TL.nil (Plan.e1 (s18) ?_)
      refine Plan.s1 6 [7] kA kA rfl ?_
      refine R.stX (old := [.slice none 0 0]) (l := [.slice A16_0_0 r16.length p16_0_0]) (new := [.slice A16_0_0 r16.length p16_0_0]) (et := 24) Tryz.sizeOf24 rfl rfl rfl rfl rfl (by show 0 + 1 ≤ 1; decide) rfl (all_one rfl) (.tl .hd) ?_
      refine TL.nil (Plan.e0 (HLe.refl _) ?_)
      refine Plan.s1 7 [] kA kA rfl ?_
      refine R.stX (old := [.slice none 0 0]) (l := [.slice A18_0_0 r18.length p18_0_0]) (new := [.slice A18_0_0 r18.length p18_0_0]) (et := 24) Tryz.sizeOf24 rfl rfl rfl rfl rfl (by show 0 + 1 ≤ 1; decide) rfl (all_one rfl) (.tl (.tl (.tl .hd))) ?_
      refine TL.nil (Plan.e0 (HLe.refl _) ?_)
      refine Plan.done (Post.thnN ?_)
      exact ⟨(b7, .slice A16_0_0 r16.length p16_0_0, r16, c16_0_0, b8, .slice A18_0_0 r18.length p18_0_0, r18, c18_0_0), (s16.trans s18), ⟨(Has.cons (.tl (.tl .hd)) (Has.cons (.tl .hd) (Has.cons .hd (Has.cons .hd Has.nil)))), (OwnS.mono w16_0_0 s18), w18_0_0, (by first | omega | assumption), (by first | omega | assumption), (by subst er18; subst er16; rw [LR.seq_go, LR.seq_go])⟩, rfl, rfl, rfl, rfl, trivial⟩
    refine R.alloc Tryz.zeroValue24 rfl ?_
    intro b7
    refine TL.nil (Plan.e1 (HLe.refl _) ?_)
    refine Plan.s1 1 [3, 6, 7] kA kA rfl ?_
    obtain ⟨r16, er16⟩ : ∃ r, r = (windroselaw14_own_m a0) := ⟨_, rfl⟩
    refine TL.call [] rfl rfl rfl (windroselaw14_own_c _ a0 _ (ha0_0.mono (sb4_1.trans sb3_2))) ?_
    intro v16 H16 L16 s16 q16
    rw [← er16] at q16
    obtain ⟨u16_0_0, c16_0_0, rfl, rfl, w16_0_0⟩ := q16
    obtain ⟨A16_0_0, p16_0_0, rfl, m16_0_0, n16_0_0⟩ := OwnS.shape w16_0_0
    have tow16 := own_len _ _ er16
    have toa16 := tow16.1
    have tob16 := tow16.2
    refine TL.nil (Plan.e1 (s16) ?_)
    refine Plan.s1 3 [6, 7] kA kA rfl ?_
    obtain ⟨r18, er18⟩ : ∃ r, r = (windroselaw14_own_m a1) := ⟨_, rfl⟩
    refine TL.call [] rfl rfl rfl (windroselaw14_own_c _ a1 _ (ha1_0.mono (sb4_1.trans (sb3_2.trans s16)))) ?_
    intro v18 H18 L18 s18 q18
    rw [← er18] at q18
    obtain ⟨u18_0_0, c18_0_0, rfl, rfl, w18_0_0⟩ := q18
    obtain ⟨A18_0_0, p18_0_0, rfl, m18_0_0, n18_0_0⟩ := OwnS.shape w18_0_0
    have tow18 := own_len _ _ er18
    have toa18 := tow18.1
    have tob18 := tow18.2
    refine TL.nil (Plan.e1 (s18) ?_)
    refine Plan.s1 6 [7] kA kA rfl ?_
    refine R.stX (old := [.slice none 0 0]) (l := [.slice A16_0_0 r16.length p16_0_0]) (new := [.slice A16_0_0 r16.length p16_0_0]) (et := 24) Tryz.sizeOf24 rfl rfl rfl rfl rfl (by show 0 + 1 ≤ 1; decide) rfl (all_one rfl) (.tl (.tl .hd)) ?_
    refine TL.nil (Plan.e0 (HLe.refl _) ?_)
    refine Plan.s1 7 [] kA kA rfl ?_
    refine R.stX (old := [.slice none 0 0]) (l := [.slice A18_0_0 r18.length p18_0_0]) (new := [.slice A18_0_0 r18.length p18_0_0]) (et := 24) Tryz.sizeOf24 rfl rfl rfl rfl rfl (by show 0 + 1 ≤ 1; decide) rfl (all_one rfl) (.tl (.tl (.tl .hd))) ?_
    refine TL.nil (Plan.e0 (HLe.refl _) ?_)
    refine Plan.done (Post.thnN ?_)
    exact ⟨(b7, .slice A16_0_0 r16.length p16_0_0, r16, c16_0_0, b8, .slice A18_0_0 r18.length p18_0_0, r18, c18_0_0), (s16.trans s18), ⟨(Has.cons (.tl .hd) (Has.cons (.tl .hd) (Has.cons .hd (Has.cons .hd Has.nil)))), (OwnS.mono w16_0_0 s18), w18_0_0, (by first | omega | assumption), (by first | omega | assumption), (by subst er18; subst er16; rw [LR.seq_go, LR.seq_go])⟩, rfl, rfl, rfl, rfl, trivial⟩
  intro ⟨b7c1, v7c1_0, x7c1_0, c7c1_0, b8c1, v8c1_0, x8c1_0, c8c1_0⟩ σ_c1 H_c1 L_c1 ds_c1 s_c1 hI_c1
  obtain ⟨hLc1, w7c1_0, w8c1_0, hBc1_0, hBc1_1, hTc1⟩ := hI_c1
  obtain ⟨A7c1_0, p7c1_0, rfl, m7c1_0, n7c1_0_⟩ := OwnS.shape w7c1_0
  obtain ⟨A8c1_0, p8c1_0, rfl, m8c1_0, n8c1_0_⟩ := OwnS.shape w8c1_0
  refine T.has hLc1 ?_
  refine T.seq ?_
  refine T.seq ?_
  refine T.region ?_
  refine R.ldX (cs := [.slice A7c1_0 x7c1_0.length p7c1_0]) (l := [.slice A7c1_0 x7c1_0.length p7c1_0]) Tryz.isAgg24 Tryz.sizeOf24 rfl rfl (.tl .hd) rfl rfl ?_
  refine TL.shut .hd ?_
  intro HF7c1_0_3 sF7c1_0_3 qF7c1_0_3
  have fF7c1_0_3 := OwnS.read w7c1_0 sF7c1_0_3 qF7c1_0_3
  refine R.callv rfl rfl rfl (index_Check_c _ x7c1_0 _ fF7c1_0_3 (by first | omega | assumption | (simp; done) | (simp; omega) | (simp at *; omega)) (by first | assumption | exact rows_le (by assumption) oA | (intro r h; simp at h; done))) ?_
  refine R.asE rfl cA ?_
  refine TL.shut .hd ?_
  intro Hb7c1_4 sb7c1_4 qb7c1_4
  have hb7c1_4 : Hb7c1_4 b7c1 = some (.cells #[.slice A7c1_0 x7c1_0.length p7c1_0] 24) := shut1 qb7c1_4
  refine TL.shut .hd ?_
  intro HF8c1_0_5 sF8c1_0_5 qF8c1_0_5
  have fF8c1_0_5 := OwnS.read (OwnS.mono w8c1_0 (sF7c1_0_3.trans sb7c1_4)) sF8c1_0_5 qF8c1_0_5
  refine TL.shut .hd ?_
  intro Hb8c1_6 sb8c1_6 qb8c1_6
  have hb8c1_6 : Hb8c1_6 b8c1 = some (.cells #[.slice A8c1_0 x8c1_0.length p8c1_0] 24) := shut1 qb8c1_6
  refine TL.nil (Post.thnN ?_)
  refine T.seq ?_
  refine T.cutK (ι := Bool) (fun b49c2 H' L' ds' => Has L' [] ∧ (if ((decide (((index_Check_m x7c1_0) : Int) = 0)) != (windroseref14_Right_m x7c1_0)) = true then true else (if ((index_Check_m x7c1_0) : Int) ≠ 0 then (if ((index_Check_m x7c1_0) : Int) ≠ 240 then true else (if ((index_Same_m x7c1_0 x8c1_0) != (windroseref14_Same_m x7c1_0 x8c1_0)) = true then true else (LR.seq (windroselaw14_own_m a0) (fun r46 => (!(index_Same_m x7c1_0 r46)))))) else (if ((index_Same_m x7c1_0 x8c1_0) != (windroseref14_Same_m x7c1_0 x8c1_0)) = true then true else (LR.seq (windroselaw14_own_m a0) (fun r46 => (!(index_Same_m x7c1_0 r46)))))) : Bool) = b49c2) (fun b49c2 => [(2, .slice Aa2 a2.length ca2), (3, .pointer (some ⟨b3, 0, none⟩)), (7, .pointer (some ⟨b7c1, 0, none⟩)), (49, .bool (b49c2))]) ?_ ?_
  · refine T.draw Tryz_mixed kA ?_
    refine Plan.v 0 [1, 2, 3, 4, 5, 6, 7, 8, 9, 10, 11, 12, 13, 14, 15, 16, 17, 18, 19, 20, 21, 22, 23, 24, 25, 26, 27, 28] kA kA kA kA rfl (fun _ _ h_ => R.mvE rfl cA (TL.nil h_)) ?_
    refine Plan.v 1 [2, 3, 4, 5, 6, 7, 8, 9, 10, 11, 12, 13, 14, 15, 16, 17, 18, 19, 20, 21, 22, 23, 24, 25, 26, 27, 28] kA kA kA kA rfl (fun _ _ h_ => R.eql rfl rfl rfl (TL.nil h_)) ?_
    refine Plan.v 2 [3, 4, 5, 6, 7, 8, 9, 10, 11, 12, 13, 14, 15, 16, 17, 18, 19, 20, 21, 22, 23, 24, 25, 26, 27, 28] kA kA kA kA rfl (fun _ _ h_ => R.ldXH (cs := [.slice A7c1_0 x7c1_0.length p7c1_0]) (l := [.slice A7c1_0 x7c1_0.length p7c1_0]) Tryz.isAgg24 Tryz.sizeOf24 rfl rfl ((sF8c1_0_5.trans sb8c1_6) _ _ hb7c1_4) rfl rfl (TL.nil h_)) ?_
    refine Plan.v 3 [4, 5, 6, 7, 8, 9, 10, 11, 12, 13, 14, 15, 16, 17, 18, 19, 20, 21, 22, 23, 24, 25, 26, 27, 28] kA kA kA kA rfl (fun _ _ h_ => R.callv rfl rfl rfl (windroseref14_Right_c _ x7c1_0 _ (fF7c1_0_3.mono (sb7c1_4.trans (sF8c1_0_5.trans sb8c1_6))) bA) (TL.nil h_)) ?_
    refine Plan.v 4 [5, 6, 7, 8, 9, 10, 11, 12, 13, 14, 15, 16, 17, 18, 19, 20, 21, 22, 23, 24, 25, 26, 27, 28] kA kA kA kA rfl (fun _ _ h_ => R.neqB Tryz.underlying4 rfl rfl rfl (TL.nil h_)) ?_
    refine Plan.v 5 [6, 7, 8, 9, 10, 11, 12, 13, 14, 15, 16, 17, 18, 19, 20, 21, 22, 23, 24, 25, 26, 27, 28] kA kA kA kA rfl (fun _ _ h_ => R.mvE rfl cA (TL.nil h_)) ?_
    refine Plan.gsplit 26 rfl (fun g26 => ?_) (fun g26 => ?_)
    · refine Plan.v 6 [7, 8, 9, 10, 11, 12, 13, 14, 15, 16, 17, 18, 19, 20, 21, 22, 23, 24, 25, 26, 27, 28] kA kA kA kA rfl (fun _ _ h_ => TL.off rfl rfl rfl (TL.nil h_)) ?_
      refine Plan.v 7 [8, 9, 10, 11, 12, 13, 14, 15, 16, 17, 18, 19, 20, 21, 22, 23, 24, 25, 26, 27, 28] kA kA kA kA rfl (fun _ _ h_ => TL.off rfl rfl rfl (TL.nil h_)) ?_
      refine Plan.v 8 [9, 10, 11, 12, 13, 14, 15, 16, 17, 18, 19, 20, 21, 22, 23, 24, 25, 26, 27, 28] kA kA kA kA rfl (fun _ _ h_ => TL.off rfl rfl rfl (TL.nil h_)) ?_
      refine Plan.v 9 [10, 11, 12, 13, 14, 15, 16, 17, 18, 19, 20, 21, 22, 23, 24, 25, 26, 27, 28] kA kA kA kA rfl (fun _ _ h_ => TL.offU rfl rfl (TL.nil h_)) ?_
      refine Plan.v 10 [11, 12, 13, 14, 15, 16, 17, 18, 19, 20, 21, 22, 23, 24, 25, 26, 27, 28] kA kA kA kA rfl (fun _ _ h_ => TL.offU rfl rfl (TL.nil h_)) ?_
      refine Plan.v 11 [12, 13, 14, 15, 16, 17, 18, 19, 20, 21, 22, 23, 24, 25, 26, 27, 28] kA kA kA kA rfl (fun _ _ h_ => TL.off rfl rfl rfl (TL.nil h_)) ?_
      refine Plan.v 12 [13, 14, 15, 16, 17, 18, 19, 20, 21, 22, 23, 24, 25, 26, 27, 28] kA kA kA kA rfl (fun _ _ h_ => R.pkTE rfl rfl cA (TL.nil h_)) ?_
      refine Plan.v 13 [14, 15, 16, 17, 18, 19, 20, 21, 22, 23, 24, 25, 26, 27, 28] kA kA kA kA rfl (fun _ _ h_ => R.mvE rfl cA (TL.nil h_)) ?_
      refine Plan.v 14 [15, 16, 17, 18, 19, 20, 21, 22, 23, 24, 25, 26, 27, 28] kA kA kA kA rfl (fun _ _ h_ => TL.off rfl rfl rfl (TL.nil h_)) ?_
      refine Plan.v 15 [16, 17, 18, 19, 20, 21, 22, 23, 24, 25, 26, 27, 28] kA kA kA kA rfl (fun _ _ h_ => TL.off rfl rfl rfl (TL.nil h_)) ?_
      refine Plan.v 16 [17, 18, 19, 20, 21, 22, 23, 24, 25, 26, 27, 28] kA kA kA kA rfl (fun _ _ h_ => TL.off rfl rfl rfl (TL.nil h_)) ?_
      refine Plan.v 17 [18, 19, 20, 21, 22, 23, 24, 25, 26, 27, 28] kA kA kA kA rfl (fun _ _ h_ => TL.off rfl rfl rfl (TL.nil h_)) ?_
      refine Plan.v 18 [19, 20, 21, 22, 23, 24, 25, 26, 27, 28] kA kA kA kA rfl (fun _ _ h_ => TL.off rfl rfl rfl (TL.nil h_)) ?_
      refine Plan.v 19 [20, 21, 22, 23, 24, 25, 26, 27, 28] kA kA kA kA rfl (fun _ _ h_ => TL.off rfl rfl rfl (TL.nil h_)) ?_
      refine Plan.v 20 [21, 22, 23, 24, 25, 26, 27, 28] kA kA kA kA rfl (fun _ _ h_ => TL.off rfl rfl rfl (TL.nil h_)) ?_
      refine Plan.v 21 [22, 23, 24, 25, 26, 27, 28] kA kA kA kA rfl (fun _ _ h_ => R.pkTE rfl rfl cA (TL.nil h_)) ?_
      refine Plan.v 22 [23, 24, 25, 26, 27, 28] kA kA kA kA rfl (fun _ _ h_ => R.mvE rfl cA (TL.nil h_)) ?_
      refine Plan.v 23 [24, 25, 26, 27, 28] kA kA kA kA rfl (fun _ _ h_ => TL.off rfl rfl rfl (TL.nil h_)) ?_
      refine Plan.v 24 [25, 26, 27, 28] kA kA kA kA rfl (fun _ _ h_ => TL.off rfl rfl rfl (TL.nil h_)) ?_
      refine Plan.v 25 [26, 27, 28] kA kA kA kA rfl (fun _ _ h_ => TL.off rfl rfl rfl (TL.nil h_)) ?_
      refine Plan.v 26 [27, 28] kA kA kA kA rfl (fun _ _ h_ => TL.off rfl rfl rfl (TL.nil h_)) ?_
      refine Plan.v 27 [28] kA kA kA kA rfl (fun _ _ h_ => TL.off rfl rfl rfl (TL.nil h_)) ?_
      refine Plan.v 28 [] kA kA kA kA rfl (fun _ _ h_ => R.pkTE rfl rfl cA (TL.nil h_)) ?_
      refine Plan.done (Post.thnN ?_)
      exact ⟨true, HLe.refl _, ⟨Has.nil, (by rw [if_t g26])⟩, rfl, rfl, rfl, rfl, trivial⟩
    refine Plan.v 6 [7, 8, 9, 10, 11, 12, 13, 14, 15, 16, 17, 18, 19, 20, 21, 22, 23, 24, 25, 26, 27, 28] kA kA kA kA rfl (fun _ _ h_ => R.mvE rfl cA (TL.nil h_)) ?_
    refine Plan.v 7 [8, 9, 10, 11, 12, 13, 14, 15, 16, 17, 18, 19, 20, 21, 22, 23, 24, 25, 26, 27, 28] kA kA kA kA rfl (fun _ _ h_ => R.neq rfl rfl rfl (TL.nil h_)) ?_
    refine Plan.v 8 [9, 10, 11, 12, 13, 14, 15, 16, 17, 18, 19, 20, 21, 22, 23, 24, 25, 26, 27, 28] kA kA kA kA rfl (fun _ _ h_ => R.mvE rfl cA (TL.nil h_)) ?_
    refine Plan.gsplitD 29 rfl (fun g29 => ?_) (fun g29 => ?_)
    · refine Plan.v 9 [10, 11, 12, 13, 14, 15, 16, 17, 18, 19, 20, 21, 22, 23, 24, 25, 26, 27, 28] kA kA kA kA rfl (fun _ _ h_ => R.mvE rfl cA (TL.nil h_)) ?_
      refine Plan.v 10 [11, 12, 13, 14, 15, 16, 17, 18, 19, 20, 21, 22, 23, 24, 25, 26, 27, 28] kA kA kA kA rfl (fun _ _ h_ => R.neq rfl rfl rfl (TL.nil h_)) ?_
      refine Plan.v 11 [12, 13, 14, 15, 16, 17, 18, 19, 20, 21, 22, 23, 24, 25, 26, 27, 28] kA kA kA kA rfl (fun _ _ h_ => R.pkTE rfl rfl cA (TL.nil h_)) ?_
      refine Plan.v 12 [13, 14, 15, 16, 17, 18, 19, 20, 21, 22, 23, 24, 25, 26, 27, 28] kA kA kA kA rfl (fun _ _ h_ => R.pkFE rfl rfl cA (TL.nil h_)) ?_
      refine Plan.v 13 [14, 15, 16, 17, 18, 19, 20, 21, 22, 23, 24, 25, 26, 27, 28] kA kA kA kA rfl (fun _ _ h_ => R.mvE rfl cA (TL.nil h_)) ?_
      refine Plan.gsplitD 34 rfl (fun g34 => ?_) (fun g34 => ?_)
      · refine Plan.v 14 [15, 16, 17, 18, 19, 20, 21, 22, 23, 24, 25, 26, 27, 28] kA kA kA kA rfl (fun _ _ h_ => TL.off rfl rfl rfl (TL.nil h_)) ?_
        refine Plan.v 15 [16, 17, 18, 19, 20, 21, 22, 23, 24, 25, 26, 27, 28] kA kA kA kA rfl (fun _ _ h_ => TL.off rfl rfl rfl (TL.nil h_)) ?_
        refine Plan.v 16 [17, 18, 19, 20, 21, 22, 23, 24, 25, 26, 27, 28] kA kA kA kA rfl (fun _ _ h_ => TL.off rfl rfl rfl (TL.nil h_)) ?_
        refine Plan.v 17 [18, 19, 20, 21, 22, 23, 24, 25, 26, 27, 28] kA kA kA kA rfl (fun _ _ h_ => TL.off rfl rfl rfl (TL.nil h_)) ?_
        refine Plan.v 18 [19, 20, 21, 22, 23, 24, 25, 26, 27, 28] kA kA kA kA rfl (fun _ _ h_ => TL.off rfl rfl rfl (TL.nil h_)) ?_
        refine Plan.v 19 [20, 21, 22, 23, 24, 25, 26, 27, 28] kA kA kA kA rfl (fun _ _ h_ => TL.off rfl rfl rfl (TL.nil h_)) ?_
        refine Plan.v 20 [21, 22, 23, 24, 25, 26, 27, 28] kA kA kA kA rfl (fun _ _ h_ => TL.off rfl rfl rfl (TL.nil h_)) ?_
        refine Plan.v 21 [22, 23, 24, 25, 26, 27, 28] kA kA kA kA rfl (fun _ _ h_ => R.pkTE rfl rfl cA (TL.nil h_)) ?_
        refine Plan.v 22 [23, 24, 25, 26, 27, 28] kA kA kA kA rfl (fun _ _ h_ => R.mvE rfl cA (TL.nil h_)) ?_
        refine Plan.v 23 [24, 25, 26, 27, 28] kA kA kA kA rfl (fun _ _ h_ => TL.off rfl rfl rfl (TL.nil h_)) ?_
        refine Plan.v 24 [25, 26, 27, 28] kA kA kA kA rfl (fun _ _ h_ => TL.off rfl rfl rfl (TL.nil h_)) ?_
        refine Plan.v 25 [26, 27, 28] kA kA kA kA rfl (fun _ _ h_ => TL.off rfl rfl rfl (TL.nil h_)) ?_
        refine Plan.v 26 [27, 28] kA kA kA kA rfl (fun _ _ h_ => TL.off rfl rfl rfl (TL.nil h_)) ?_
        refine Plan.v 27 [28] kA kA kA kA rfl (fun _ _ h_ => TL.off rfl rfl rfl (TL.nil h_)) ?_
        refine Plan.v 28 [] kA kA kA kA rfl (fun _ _ h_ => R.pkTE rfl rfl cA (TL.nil h_)) ?_
        refine Plan.done (Post.thnN ?_)
        exact ⟨true, HLe.refl _, ⟨Has.nil, (by rw [if_f g26, if_pos g29, if_pos g34])⟩, rfl, rfl, rfl, rfl, trivial⟩
      refine Plan.v 14 [15, 16, 17, 18, 19, 20, 21, 22, 23, 24, 25, 26, 27, 28] kA kA kA kA rfl (fun _ _ h_ => R.ldXH (cs := [.slice A7c1_0 x7c1_0.length p7c1_0]) (l := [.slice A7c1_0 x7c1_0.length p7c1_0]) Tryz.isAgg24 Tryz.sizeOf24 rfl rfl ((sF8c1_0_5.trans sb8c1_6) _ _ hb7c1_4) rfl rfl (TL.nil h_)) ?_
      refine Plan.v 15 [16, 17, 18, 19, 20, 21, 22, 23, 24, 25, 26, 27, 28] kA kA kA kA rfl (fun _ _ h_ => R.ldXH (cs := [.slice A8c1_0 x8c1_0.length p8c1_0]) (l := [.slice A8c1_0 x8c1_0.length p8c1_0]) Tryz.isAgg24 Tryz.sizeOf24 rfl rfl hb8c1_6 rfl rfl (TL.nil h_)) ?_
      refine Plan.v 16 [17, 18, 19, 20, 21, 22, 23, 24, 25, 26, 27, 28] kA kA kA kA rfl (fun _ _ h_ => R.callv rfl rfl rfl (index_Same_c _ x7c1_0 _ (fF7c1_0_3.mono (sb7c1_4.trans (sF8c1_0_5.trans sb8c1_6))) x8c1_0 _ (fF8c1_0_5.mono sb8c1_6)) (TL.nil h_)) ?_
      refine Plan.v 17 [18, 19, 20, 21, 22, 23, 24, 25, 26, 27, 28] kA kA kA kA rfl (fun _ _ h_ => R.ldXH (cs := [.slice A7c1_0 x7c1_0.length p7c1_0]) (l := [.slice A7c1_0 x7c1_0.length p7c1_0]) Tryz.isAgg24 Tryz.sizeOf24 rfl rfl ((sF8c1_0_5.trans sb8c1_6) _ _ hb7c1_4) rfl rfl (TL.nil h_)) ?_
      refine Plan.v 18 [19, 20, 21, 22, 23, 24, 25, 26, 27, 28] kA kA kA kA rfl (fun _ _ h_ => R.ldXH (cs := [.slice A8c1_0 x8c1_0.length p8c1_0]) (l := [.slice A8c1_0 x8c1_0.length p8c1_0]) Tryz.isAgg24 Tryz.sizeOf24 rfl rfl hb8c1_6 rfl rfl (TL.nil h_)) ?_
      refine Plan.v 19 [20, 21, 22, 23, 24, 25, 26, 27, 28] kA kA kA kA rfl (fun _ _ h_ => R.callv rfl rfl rfl (windroseref14_Same_c _ x7c1_0 _ (fF7c1_0_3.mono (sb7c1_4.trans (sF8c1_0_5.trans sb8c1_6))) x8c1_0 _ (fF8c1_0_5.mono sb8c1_6)) (TL.nil h_)) ?_
      refine Plan.v 20 [21, 22, 23, 24, 25, 26, 27, 28] kA kA kA kA rfl (fun _ _ h_ => R.neqB Tryz.underlying4 rfl rfl rfl (TL.nil h_)) ?_
      refine Plan.v 21 [22, 23, 24, 25, 26, 27, 28] kA kA kA kA rfl (fun _ _ h_ => R.pkFE rfl rfl cA (TL.nil h_)) ?_
      refine Plan.v 22 [23, 24, 25, 26, 27, 28] kA kA kA kA rfl (fun _ _ h_ => R.mvE rfl cA (TL.nil h_)) ?_
      refine Plan.gsplit 43 rfl (fun g43 => ?_) (fun g43 => ?_)
      · refine Plan.v 23 [24, 25, 26, 27, 28] kA kA kA kA rfl (fun _ _ h_ => TL.off rfl rfl rfl (TL.nil h_)) ?_
        refine Plan.v 24 [25, 26, 27, 28] kA kA kA kA rfl (fun _ _ h_ => TL.off rfl rfl rfl (TL.nil h_)) ?_
        refine Plan.v 25 [26, 27, 28] kA kA kA kA rfl (fun _ _ h_ => TL.off rfl rfl rfl (TL.nil h_)) ?_
        refine Plan.v 26 [27, 28] kA kA kA kA rfl (fun _ _ h_ => TL.off rfl rfl rfl (TL.nil h_)) ?_
        refine Plan.v 27 [28] kA kA kA kA rfl (fun _ _ h_ => TL.off rfl rfl rfl (TL.nil h_)) ?_
        refine Plan.v 28 [] kA kA kA kA rfl (fun _ _ h_ => R.pkTE rfl rfl cA (TL.nil h_)) ?_
        refine Plan.done (Post.thnN ?_)
        exact ⟨true, HLe.refl _, ⟨Has.nil, (by rw [if_f g26, if_pos g29, if_neg g34, if_t g43])⟩, rfl, rfl, rfl, rfl, trivial⟩
      refine Plan.v 23 [24, 25, 26, 27, 28] kA kA kA kA rfl (fun _ _ h_ => R.ldXH (cs := [.slice A7c1_0 x7c1_0.length p7c1_0]) (l := [.slice A7c1_0 x7c1_0.length p7c1_0]) Tryz.isAgg24 Tryz.sizeOf24 rfl rfl ((sF8c1_0_5.trans sb8c1_6) _ _ hb7c1_4) rfl rfl (TL.nil h_)) ?_
      refine Plan.v 24 [25, 26, 27, 28] kA kA kA kA rfl (fun _ _ h_ => R.ldXH (cs := [.slice Aa0_0 a0.length ca0_0]) (l := [.slice Aa0_0 a0.length ca0_0]) Tryz.isAgg24 Tryz.sizeOf24 rfl rfl ((s_c1.trans (sF7c1_0_3.trans (sb7c1_4.trans (sF8c1_0_5.trans sb8c1_6)))) _ _ hb3_2) rfl rfl (TL.nil h_)) ?_
      refine Plan.s1 25 [26, 27, 28] kA kA rfl ?_
      obtain ⟨r46, er46⟩ : ∃ r, r = (windroselaw14_own_m a0) := ⟨_, rfl⟩
      refine TL.call [] rfl rfl rfl (windroselaw14_own_c _ a0 _ (ha0_0.mono (sb4_1.trans (sb3_2.trans (s_c1.trans (sF7c1_0_3.trans (sb7c1_4.trans (sF8c1_0_5.trans sb8c1_6)))))))) ?_
      intro v46 H46 L46 s46 q46
      rw [← er46] at q46
      obtain ⟨u46_0_0, c46_0_0, rfl, rfl, w46_0_0⟩ := q46
      obtain ⟨A46_0_0, p46_0_0, rfl, m46_0_0, n46_0_0⟩ := OwnS.shape w46_0_0
      have tow46 := own_len _ _ er46
      have toa46 := tow46.1
      have tob46 := tow46.2
      refine TL.nil (Plan.e1 (s46) ?_)
      refine Plan.s1 26 [27, 28] kA kA rfl ?_
      refine TL.shut .hd ?_
      intro HF46_0_0_8 sF46_0_0_8 qF46_0_0_8
      have fF46_0_0_8 := OwnS.read w46_0_0 sF46_0_0_8 qF46_0_0_8
      refine R.callv rfl rfl rfl (index_Same_c _ x7c1_0 _ (fF7c1_0_3.mono (sb7c1_4.trans (sF8c1_0_5.trans (sb8c1_6.trans (s46.trans sF46_0_0_8))))) r46 _ fF46_0_0_8) ?_
      refine TL.nil (Plan.e1 (sF46_0_0_8) ?_)
      refine Plan.v 27 [28] kA kA kA kA rfl (fun _ _ h_ => R.not rfl rfl (TL.nil h_)) ?_
      refine Plan.v 28 [] kA kA kA kA rfl (fun _ _ h_ => R.pkFE rfl rfl cA (TL.nil h_)) ?_
      refine Plan.done (Post.thnN ?_)
      exact ⟨(!(index_Same_m x7c1_0 r46)), (s46.trans sF46_0_0_8), ⟨Has.nil, (by subst er46; rw [if_f g26, if_pos g29, if_neg g34, if_f g43, LR.seq_go])⟩, rfl, rfl, rfl, rfl, trivial⟩
    refine Plan.v 9 [10, 11, 12, 13, 14, 15, 16, 17, 18, 19, 20, 21, 22, 23, 24, 25, 26, 27, 28] kA kA kA kA rfl (fun _ _ h_ => TL.off rfl rfl rfl (TL.nil h_)) ?_
    refine Plan.v 10 [11, 12, 13, 14, 15, 16, 17, 18, 19, 20, 21, 22, 23, 24, 25, 26, 27, 28] kA kA kA kA rfl (fun _ _ h_ => TL.off rfl rfl rfl (TL.nil h_)) ?_
    refine Plan.v 11 [12, 13, 14, 15, 16, 17, 18, 19, 20, 21, 22, 23, 24, 25, 26, 27, 28] kA kA kA kA rfl (fun _ _ h_ => R.pkFE rfl rfl cA (TL.nil h_)) ?_
    refine Plan.v 12 [13, 14, 15, 16, 17, 18, 19, 20, 21, 22, 23, 24, 25, 26, 27, 28] kA kA kA kA rfl (fun _ _ h_ => R.pkFE rfl rfl cA (TL.nil h_)) ?_
    refine Plan.v 13 [14, 15, 16, 17, 18, 19, 20, 21, 22, 23, 24, 25, 26, 27, 28] kA kA kA kA rfl (fun _ _ h_ => R.mvE rfl cA (TL.nil h_)) ?_
    refine Plan.v 14 [15, 16, 17, 18, 19, 20, 21, 22, 23, 24, 25, 26, 27, 28] kA kA kA kA rfl (fun _ _ h_ => R.ldXH (cs := [.slice A7c1_0 x7c1_0.length p7c1_0]) (l := [.slice A7c1_0 x7c1_0.length p7c1_0]) Tryz.isAgg24 Tryz.sizeOf24 rfl rfl ((sF8c1_0_5.trans sb8c1_6) _ _ hb7c1_4) rfl rfl (TL.nil h_)) ?_
    refine Plan.v 15 [16, 17, 18, 19, 20, 21, 22, 23, 24, 25, 26, 27, 28] kA kA kA kA rfl (fun _ _ h_ => R.ldXH (cs := [.slice A8c1_0 x8c1_0.length p8c1_0]) (l := [.slice A8c1_0 x8c1_0.length p8c1_0]) Tryz.isAgg24 Tryz.sizeOf24 rfl rfl hb8c1_6 rfl rfl (TL.nil h_)) ?_
    refine Plan.v 16 [17, 18, 19, 20, 21, 22, 23, 24, 25, 26, 27, 28] kA kA kA kA rfl (fun _ _ h_ => R.callv rfl rfl rfl (index_Same_c _ x7c1_0 _ (fF7c1_0_3.mono (sb7c1_4.trans (sF8c1_0_5.trans sb8c1_6))) x8c1_0 _ (fF8c1_0_5.mono sb8c1_6)) (TL.nil h_)) ?_
    refine Plan.v 17 [18, 19, 20, 21, 22, 23, 24, 25, 26, 27, 28] kA kA kA kA rfl (fun _ _ h_ => R.ldXH (cs := [.slice A7c1_0 x7c1_0.length p7c1_0]) (l := [.slice A7c1_0 x7c1_0.length p7c1_0]) Tryz.isAgg24 Tryz.sizeOf24 rfl rfl ((sF8c1_0_5.trans sb8c1_6) _ _ hb7c1_4) rfl rfl (TL.nil h_)) ?_
    refine Plan.v 18 [19, 20, 21, 22, 23, 24, 25, 26, 27, 28] kA kA kA kA rfl (fun _ _ h_ => R.ldXH (cs := [.slice A8c1_0 x8c1_0.length p8c1_0]) (l := [.slice A8c1_0 x8c1_0.length p8c1_0]) Tryz.isAgg24 Tryz.sizeOf24 rfl rfl hb8c1_6 rfl rfl (TL.nil h_)) ?_
    refine Plan.v 19 [20, 21, 22, 23, 24, 25, 26, 27, 28] kA kA kA kA rfl (fun _ _ h_ => R.callv rfl rfl rfl (windroseref14_Same_c _ x7c1_0 _ (fF7c1_0_3.mono (sb7c1_4.trans (sF8c1_0_5.trans sb8c1_6))) x8c1_0 _ (fF8c1_0_5.mono sb8c1_6)) (TL.nil h_)) ?_
    refine Plan.v 20 [21, 22, 23, 24, 25, 26, 27, 28] kA kA kA kA rfl (fun _ _ h_ => R.neqB Tryz.underlying4 rfl rfl rfl (TL.nil h_)) ?_
    refine Plan.v 21 [22, 23, 24, 25, 26, 27, 28] kA kA kA kA rfl (fun _ _ h_ => R.pkFE rfl rfl cA (TL.nil h_)) ?_
    refine Plan.v 22 [23, 24, 25, 26, 27, 28] kA kA kA kA rfl (fun _ _ h_ => R.mvE rfl cA (TL.nil h_)) ?_
    refine Plan.gsplit 43 rfl (fun g43 => ?_) (fun g43 => ?_)
    · refine Plan.v 23 [24, 25, 26, 27, 28] kA kA kA kA rfl (fun _ _ h_ => TL.off rfl rfl rfl (TL.nil h_)) ?_
      refine Plan.v 24 [25, 26, 27, 28] kA kA kA kA rfl (fun _ _ h_ => TL.off rfl rfl rfl (TL.nil h_)) ?_
      refine Plan.v 25 [26, 27, 28] kA kA kA kA rfl (fun _ _ h_ => TL.off rfl rfl rfl (TL.nil h_)) ?_
      refine Plan.v 26 [27, 28] kA kA kA kA rfl (fun _ _ h_ => TL.off rfl rfl rfl (TL.nil h_)) ?_
      refine Plan.v 27 [28] kA kA kA kA rfl (fun _ _ h_ => TL.off rfl rfl rfl (TL.nil h_)) ?_
      refine Plan.v 28 [] kA kA kA kA rfl (fun _ _ h_ => R.pkTE rfl rfl cA (TL.nil h_)) ?_
      refine Plan.done (Post.thnN ?_)
      exact ⟨true, HLe.refl _, ⟨Has.nil, (by rw [if_f g26, if_neg g29, if_t g43])⟩, rfl, rfl, rfl, rfl, trivial⟩
    refine Plan.v 23 [24, 25, 26, 27, 28] kA kA kA kA rfl (fun _ _ h_ => R.ldXH (cs := [.slice A7c1_0 x7c1_0.length p7c1_0]) (l := [.slice A7c1_0 x7c1_0.length p7c1_0]) Tryz.isAgg24 Tryz.sizeOf24 rfl rfl ((sF8c1_0_5.trans sb8c1_6) _ _ hb7c1_4) rfl rfl (TL.nil h_)) ?_
    refine Plan.v 24 [25, 26, 27, 28] kA kA kA kA rfl (fun _ _ h_ => R.ldXH (cs := [.slice Aa0_0 a0.length ca0_0]) (l := [.slice Aa0_0 a0.length ca0_0]) Tryz.isAgg24 Tryz.sizeOf24 rfl rfl ((s_c1.trans (sF7c1_0_3.trans (sb7c1_4.trans (sF8c1_0_5.trans sb8c1_6)))) _ _ hb3_2) rfl rfl (TL.nil h_)) ?_
    refine Plan.s1 25 [26, 27, 28] kA kA rfl ?_
    obtain ⟨r46, er46⟩ : ∃ r, r = (windroselaw14_own_m a0) := ⟨_, rfl⟩
    refine TL.call [] rfl rfl rfl (windroselaw14_own_c _ a0 _ (ha0_0.mono (sb4_1.trans (sb3_2.trans (s_c1.trans (sF7c1_0_3.trans (sb7c1_4.trans (sF8c1_0_5.trans sb8c1_6)))))))) ?_
    intro v46 H46 L46 s46 q46
    rw [← er46] at q46
    obtain ⟨u46_0_0, c46_0_0, rfl, rfl, w46_0_0⟩ := q46
    obtain ⟨A46_0_0, p46_0_0, rfl, m46_0_0, n46_0_0⟩ := OwnS.shape w46_0_0
    have tow46 := own_len _ _ er46
    have toa46 := tow46.1
    have tob46 := tow46.2
    refine TL.nil (Plan.e1 (s46) ?_)
    refine Plan.s1 26 [27, 28] kA kA rfl ?_
    refine TL.shut .hd ?_
    intro HF46_0_0_10 sF46_0_0_10 qF46_0_0_10
    have fF46_0_0_10 := OwnS.read w46_0_0 sF46_0_0_10 qF46_0_0_10
    refine R.callv rfl rfl rfl (index_Same_c _ x7c1_0 _ (fF7c1_0_3.mono (sb7c1_4.trans (sF8c1_0_5.trans (sb8c1_6.trans (s46.trans sF46_0_0_10))))) r46 _ fF46_0_0_10) ?_
    refine TL.nil (Plan.e1 (sF46_0_0_10) ?_)
    refine Plan.v 27 [28] kA kA kA kA rfl (fun _ _ h_ => R.not rfl rfl (TL.nil h_)) ?_
    refine Plan.v 28 [] kA kA kA kA rfl (fun _ _ h_ => R.pkFE rfl rfl cA (TL.nil h_)) ?_
    refine Plan.done (Post.thnN ?_)
    exact ⟨(!(index_Same_m x7c1_0 r46)), (s46.trans sF46_0_0_10), ⟨Has.nil, (by subst er46; rw [if_f g26, if_neg g29, if_f g43, LR.seq_go])⟩, rfl, rfl, rfl, rfl, trivial⟩
  intro b49c2 σ_c2 H_c2 L_c2 ds_c2 s_c2 hI_c2
  obtain ⟨hLc2, hTc2⟩ := hI_c2
  refine T.has hLc2 ?_
  refine T.cond rfl (fun c49 => ?_) (fun c49 => ?_)
  · refine T.set 49 (.bool true) (congrArg Value.bool c49) ?_
    have hZ49 := hTc2.trans c49
    try simp only [or_f, or_t, and_f, and_t, decide_eq_true_eq, decide_eq_false_iff_not, Bool.not_eq_true'] at hZ49
    refine T.seq ?_
    refine T.region ?_
    refine R.asE rfl cA ?_
    refine TL.nil (Post.thnN ?_)
    refine T.has Has.nil ?_
    refine T.ret (Post.thnR ?_)
    have hM : windroselaw14_IndexMay_m a0 a1 a2 = false := by rw [windroselaw14_IndexMay_m, if_f c14, hTc1, LR.seq_go, hTc2, LR.seq_go, if_t c49]
    exact fin1L (v := .bool false) [] rfl rfl (List.Sublist.refl _) ⟨rfl, by first | rw [hM] | rfl⟩
  refine T.set 49 (.bool false) (congrArg Value.bool c49) ?_
  have hZ49 := hTc2.trans c49
  try simp only [or_f, or_t, and_f, and_t, decide_eq_true_eq, decide_eq_false_iff_not, Bool.not_eq_true'] at hZ49
  refine T.skip (Post.thnN ?_)
  refine T.seq ?_
  refine T.seq ?_
  refine T.region ?_
  refine R.mvE rfl cA ?_
  refine R.len Tryz.underlying26 rfl rfl ?_
  refine R.mvE rfl cA ?_
  refine TL.nil (Post.thnN ?_)
  refine T.cutK (ι := Unit) (fun _ H' L' ds' => Has L' [] ∧ (LR.on (windroselaw14_IndexMay_l4 a2 0 ()) (fun r => r) (fun ol4 => .go ol4) : LR (Bool) (Unit)) = .go ()) (fun _ => [(3, .pointer (some ⟨b3, 0, none⟩)), (7, .pointer (some ⟨b7c1, 0, none⟩))]) ?_ ?_
  · refine T.block ?_
    refine T.loop (ι := Nat) (fun kl4 H' L' ds' => kl4 ≤ a2.length ∧ Has L' [] ∧ windroselaw14_IndexMay_l4 (a2.drop kl4) kl4 () = windroselaw14_IndexMay_l4 a2 0 ()) (fun kl4 => [(52, .int .i64 (kl4 : Int)), (3, .pointer (some ⟨b3, 0, none⟩)), (7, .pointer (some ⟨b7c1, 0, none⟩)), (50, .slice Aa2 a2.length ca2), (51, .int .i64 (a2.length : Int))]) (fun kl4 => a2.length - kl4) 0 ?_ ?_ ?_
    · exact ⟨oA, Has.nil, (by rfl)⟩
    · exact ⟨rfl, rfl, rfl, rfl, rfl, trivial⟩
    intro kl4 σ_l4 H_l4 L_l4 ds_l4 s_l4 hI_l4
    obtain ⟨hkl4, hI_l4⟩ := hI_l4
    obtain ⟨hLl4, hQl4⟩ := hI_l4
    refine T.has hLl4 ?_
    refine T.seq ?_
    refine T.region ?_
    refine R.lss rfl rfl rfl ?_
    refine TL.nil (Post.thnN ?_)
    refine T.seq ?_
    refine T.condD rfl (fun c53 => ?_) (fun c53 => ?_)
    · have hltl4 : kl4 < a2.length := by omega
      obtain ⟨yl4, hyl4⟩ := getk (xs := a2) (k := kl4) oA
      refine T.skip (Post.thnN ?_)
      refine T.seq ?_
      refine T.block ?_
      refine T.seq ?_
      refine T.region ?_
      refine R.mvE rfl cA ?_
      obtain ⟨b55, o55, i55, k55⟩ := RdS.elem (ha2.mono (sb4_1.trans (sb3_2.trans (s_c1.trans (sF7c1_0_3.trans (sb7c1_4.trans (sF8c1_0_5.trans (sb8c1_6.trans (s_c2.trans s_l4))))))))) hyl4
      obtain ⟨l55, g55, k55⟩ := k55
      obtain ⟨z55_0, rfl, r55_0⟩ := g55
      obtain ⟨A55_0, p55_0, rfl, m55_0, n55_0, r55_0⟩ := r55_0.shape
      refine R.ixp Tryz.underlying26 Tryz.sizeOf30 rfl rfl rfl oA i55 ?_
      refine R.ldC Tryz.isAgg30 rfl rfl (k55 0 _ rfl) ?_
      refine R.asE rfl cA ?_
      refine R.asE rfl cA ?_
      refine TL.nil (Post.thnN ?_)
      refine T.seq ?_
      refine T.seq ?_
      refine T.region ?_
      refine R.mvE rfl cA ?_
      refine R.eql rfl rfl rfl ?_
      refine TL.nil (Post.thnN ?_)
      refine T.condD rfl (fun c58 => ?_) (fun c58 => ?_)
      · refine T.set 58 (.bool true) (congrArg Value.bool (decide_eq_true c58)) ?_
        refine T.exit (Post.thnE (Post.blkE rfl (Post.thnE (Post.thnE (Post.blkX ?_)))))
        have hEl4 : windroselaw14_IndexMay_l4 a2 0 () = .go () := (by rw [← hQl4, drop_cons hyl4, windroselaw14_IndexMay_l4]; rw [if_pos c58])
        refine id (Post.thnN ?_)
        exact ⟨(), s_l4, ⟨Has.nil, (by rw [hEl4, LR.on_go])⟩, rfl, rfl, trivial⟩
      refine T.set 58 (.bool false) (congrArg Value.bool (decide_eq_false c58)) ?_
      refine T.skip (Post.thnN ?_)
      refine T.seq ?_
      refine T.region ?_
      refine R.mvE rfl cA ?_
      obtain ⟨r60, er60⟩ : ∃ r, r = (windroselaw14_few_m yl4) := ⟨_, rfl⟩
      refine TL.call [] rfl rfl rfl (windroselaw14_few_c _ _ yl4 r55_0) ?_
      intro v60 H60 L60 s60 q60
      rw [← er60] at q60
      obtain ⟨u60_0_0, c60_0_0, rfl, rfl, w60_0_0⟩ := q60
      obtain ⟨A60_0_0, p60_0_0, rfl, m60_0_0, n60_0_0⟩ := OwnS.shape w60_0_0
      have tfw60 := few_len _ _ er60
      refine R.asE rfl cA ?_
      refine TL.nil (Post.thnN ?_)
      refine T.seq ?_
      refine T.region ?_
      refine R.asE rfl cA ?_
      refine TL.nil (Post.thnN ?_)
      refine T.seq ?_
      refine T.seq ?_
      refine T.region ?_
      refine R.mvE rfl cA ?_
      refine TL.shut .hd ?_
      intro HF60_0_0_11 sF60_0_0_11 qF60_0_0_11
      have fF60_0_0_11 := OwnS.read w60_0_0 sF60_0_0_11 qF60_0_0_11
      refine R.callv rfl rfl rfl (windroseref03_Right_c _ _ r60 fF60_0_0_11) ?_
      refine TL.nil (Post.thnN ?_)
      refine T.cutK (ι := Value × (List Int)) (fun ⟨v12c5, x12c5⟩ H' L' ds' => Has L' [] ∧ RdS (intE .u64) H' v12c5 x12c5 ∧ (if (windroseref03_Right_m r60) = true then (LR.seq (windroseref14_Keys_m r60) (fun r64 => r64)) else [] : (List Int)) = x12c5) (fun ⟨v12c5, x12c5⟩ => [(3, .pointer (some ⟨b3, 0, none⟩)), (7, .pointer (some ⟨b7c1, 0, none⟩)), (11, .slice A60_0_0 r60.length p60_0_0), (12, v12c5), (50, .slice Aa2 a2.length ca2), (51, .int .i64 (a2.length : Int)), (52, .int .i64 (kl4 : Int))]) ?_ ?_
      · refine T.cond rfl (fun c62 => ?_) (fun c62 => ?_)
        · refine T.set 62 (.bool true) (congrArg Value.bool c62) ?_
          refine T.region ?_
          refine R.mvE rfl cA ?_
          obtain ⟨r64, er64⟩ : ∃ r, r = (windroseref14_Keys_m r60) := ⟨_, rfl⟩
          refine R.callp rfl rfl rfl (windroseref14_Keys_c _ _ r60 fF60_0_0_11 bA) ?_
          intro v64 H64 s64 q64
          rw [← er64] at q64
          obtain ⟨u64_0_0, rfl, w64_0_0⟩ := q64
          obtain ⟨A64_0_0, p64_0_0, rfl, m64_0_0, n64_0_0, w64_0_0⟩ := RdS.shape w64_0_0
          refine R.asE rfl cA ?_
          refine TL.nil (Post.thnN ?_)
          exact ⟨(.slice A64_0_0 r64.length p64_0_0, r64), s64, ⟨Has.nil, w64_0_0, (by subst er64; rw [if_t c62, LR.seq_go])⟩, rfl, rfl, rfl, rfl, rfl, rfl, rfl, trivial⟩
        refine T.set 62 (.bool false) (congrArg Value.bool c62) ?_
        refine T.skip (Post.thnN ?_)
        exact ⟨(.slice none 0 0, []), HLe.refl _, ⟨Has.nil, RdS.nil, (by rw [if_f c62])⟩, rfl, rfl, rfl, rfl, rfl, rfl, rfl, trivial⟩
      intro ⟨v12c5, x12c5⟩ σ_c5 H_c5 L_c5 ds_c5 s_c5 hI_c5
      obtain ⟨hLc5, w12c5, hTc5⟩ := hI_c5
      obtain ⟨A12c5, p12c5, rfl, m12c5, n12c5_, w12c5⟩ := RdS.shape w12c5
      refine T.has hLc5 ?_
      refine T.seq ?_
      refine T.region ?_
      refine R.mvE rfl cA ?_
      obtain ⟨r66, er66⟩ : ∃ r, r = (index_Keys_m r60) := ⟨_, rfl⟩
      refine TL.call [] rfl rfl rfl (index_Keys_c _ _ r60 (fF60_0_0_11.mono s_c5)) ?_
      intro v66 H66 L66 s66 q66
      rw [← er66] at q66
      obtain ⟨u66_0_0, c66_0_0, rfl, rfl, w66_0_0⟩ := q66
      obtain ⟨A66_0_0, p66_0_0, rfl, m66_0_0, n66_0_0⟩ := OwnS.shape w66_0_0
      have tK66 := Keys_len _ _ er66
      refine R.mvE rfl cA ?_
      refine TL.shut .hd ?_
      intro HF66_0_0_12 sF66_0_0_12 qF66_0_0_12
      have fF66_0_0_12 := OwnS.read w66_0_0 sF66_0_0_12 qF66_0_0_12
      refine R.callv rfl rfl rfl (slices_Equal_Id_d _ _ r66 fF66_0_0_12 _ x12c5 (w12c5.mono (s66.trans sF66_0_0_12))) ?_
      refine R.notD rfl rfl ?_
      refine TL.nil (Post.thnN ?_)
      refine T.condD rfl (fun c69 => ?_) (fun c69 => ?_)
      · refine T.set 69 (.bool true) (congrArg Value.bool (decide_eq_true c69)) ?_
        refine T.seq ?_
        refine T.region ?_
        refine R.asE rfl cA ?_
        refine TL.nil (Post.thnN ?_)
        refine T.has Has.nil ?_
        refine T.ret (Post.blkR (Post.thnR (Post.thnR (Post.blkR (Post.thnR ?_)))))
        have hXl4 : windroselaw14_IndexMay_l4 a2 0 () = .ret (.ret false) := by subst er66; subst er60; rw [← hQl4, drop_cons hyl4, windroselaw14_IndexMay_l4]; rw [if_neg c58, LR.seq_go, hTc5, LR.seq_go, LR.seq_go, if_pos c69]
        have hM : windroselaw14_IndexMay_m a0 a1 a2 = false := by rw [windroselaw14_IndexMay_m, if_f c14, hTc1, LR.seq_go, hTc2, LR.seq_go, if_f c49, hXl4, LR.on_ret, LR.on_ret]
        exact fin1L (v := .bool false) [] rfl rfl (List.Sublist.refl _) ⟨rfl, by first | rw [hM] | rfl⟩
      refine T.set 69 (.bool false) (congrArg Value.bool (decide_eq_false c69)) ?_
      refine T.skip (Post.blkN ?_)
      refine id (Post.thnN ?_)
      refine T.region ?_
      refine R.addI rfl rfl rfl oA ?_
      refine R.mvE rfl cA ?_
      refine TL.nil (Post.thnN ?_)
      exact ⟨kl4 + 1, (s_l4.trans (s60.trans (sF60_0_0_11.trans (s_c5.trans (s66.trans sF66_0_0_12))))), ⟨oA, Has.nil, (by subst er66; subst er60; rw [← hQl4, drop_cons hyl4, windroselaw14_IndexMay_l4]; rw [if_neg c58, LR.seq_go, hTc5, LR.seq_go, LR.seq_go, if_neg c69])⟩, by show a2.length - (kl4 + 1) < a2.length - kl4; omega, rfl, rfl, rfl, rfl, rfl, trivial⟩
    refine T.exit (Post.thnE (Post.thnE (Post.blkX ?_)))
    have hEl4 : windroselaw14_IndexMay_l4 a2 0 () = .go () := (hQl4.symm.trans (by rw [show kl4 = a2.length by omega, List.drop_length, windroselaw14_IndexMay_l4]))
    refine id (Post.thnN ?_)
    exact ⟨(), s_l4, ⟨Has.nil, (by rw [hEl4, LR.on_go])⟩, rfl, rfl, trivial⟩
  intro _ σ_c3 H_c3 L_c3 ds_c3 s_c3 hI_c3
  obtain ⟨hLc3, hTc3⟩ := hI_c3
  refine T.has hLc3 ?_
  refine T.seq ?_
  refine T.draw Tryz_mixed kA ?_
  refine Plan.v 0 [1, 2, 3, 4] kA kA kA kA rfl (fun _ _ h_ => R.ldXH (cs := [.slice A7c1_0 x7c1_0.length p7c1_0]) (l := [.slice A7c1_0 x7c1_0.length p7c1_0]) Tryz.isAgg24 Tryz.sizeOf24 rfl rfl ((sF8c1_0_5.trans (sb8c1_6.trans (s_c2.trans s_c3))) _ _ hb7c1_4) rfl rfl (TL.nil h_)) ?_
  refine Plan.v 1 [2, 3, 4] kA kA kA kA rfl (fun _ _ h_ => R.ldXH (cs := [.slice Aa0_0 a0.length ca0_0]) (l := [.slice Aa0_0 a0.length ca0_0]) Tryz.isAgg24 Tryz.sizeOf24 rfl rfl ((s_c1.trans (sF7c1_0_3.trans (sb7c1_4.trans (sF8c1_0_5.trans (sb8c1_6.trans (s_c2.trans s_c3)))))) _ _ hb3_2) rfl rfl (TL.nil h_)) ?_
  refine Plan.s1 2 [3, 4] kA kA rfl ?_
  obtain ⟨r73, er73⟩ : ∃ r, r = (windroselaw14_own_m a0) := ⟨_, rfl⟩
  refine TL.call [] rfl rfl rfl (windroselaw14_own_c _ a0 _ (ha0_0.mono (sb4_1.trans (sb3_2.trans (s_c1.trans (sF7c1_0_3.trans (sb7c1_4.trans (sF8c1_0_5.trans (sb8c1_6.trans (s_c2.trans s_c3)))))))))) ?_
  intro v73 H73 L73 s73 q73
  rw [← er73] at q73
  obtain ⟨u73_0_0, c73_0_0, rfl, rfl, w73_0_0⟩ := q73
  obtain ⟨A73_0_0, p73_0_0, rfl, m73_0_0, n73_0_0⟩ := OwnS.shape w73_0_0
  have tow73 := own_len _ _ er73
  have toa73 := tow73.1
  have tob73 := tow73.2
  refine TL.nil (Plan.e1 (s73) ?_)
  refine Plan.s1 3 [4] kA kA rfl ?_
  refine TL.shut .hd ?_
  intro HF73_0_0_14 sF73_0_0_14 qF73_0_0_14
  have fF73_0_0_14 := OwnS.read w73_0_0 sF73_0_0_14 qF73_0_0_14
  refine R.callv rfl rfl rfl (windroseref14_Same_c _ x7c1_0 _ (fF7c1_0_3.mono (sb7c1_4.trans (sF8c1_0_5.trans (sb8c1_6.trans (s_c2.trans (s_c3.trans (s73.trans sF73_0_0_14))))))) r73 _ fF73_0_0_14) ?_
  refine TL.nil (Plan.e1 (sF73_0_0_14) ?_)
  refine Plan.v 4 [] kA kA kA kA rfl (fun _ _ h_ => R.asE rfl cA (TL.nil h_)) ?_
  refine Plan.done (Post.thnN ?_)
  refine T.has Has.nil ?_
  refine T.ret ?_
  have hM : windroselaw14_IndexMay_m a0 a1 a2 = (windroseref14_Same_m x7c1_0 r73) := by subst er73; rw [windroselaw14_IndexMay_m, if_f c14, hTc1, LR.seq_go, hTc2, LR.seq_go, if_f c49, hTc3, LR.on_go, LR.seq_go]
  exact fin1L (v := .bool ((windroseref14_Same_m x7c1_0 r73))) [] rfl rfl (List.Sublist.refl _) ⟨rfl, by first | rw [hM] | rfl⟩
end Go.SX

set_option linter.unusedVariables false
set_option linter.unusedSimpArgs false
namespace Go.SX
open Go
theorem same1_eq (r s : Int × List Int) : index_Same_1_m r s = decide (r = s) := by
  unfold index_Same_1_m
  by_cases e : r.1 = s.1
  · rw [if_pos e, decide_eq_decide]
    exact ⟨fun q => Prod.ext e q, fun q => by rw [q]⟩
  · rw [if_neg e]; exact (decide_eq_false (fun q => e (by rw [q]))).symm
theorem eqF_iff (b : Ix) : ∀ (xs : Ix) (k : Nat), (LR.on (slices_EqualFunc_Listed_l1 b (fun z0 z1 => index_Same_1_m z0 z1) xs k ()) (fun r => r) (fun _ => true) = true ↔ ∀ i r, xs[i]? = some r → r = b.getD (k + i) (0, []))
  | [], k => ⟨fun _ i r h => by simp at h, fun _ => rfl⟩
  | y :: ys, k => by
    rw [slices_EqualFunc_Listed_l1, same1_eq]
    by_cases e : y = b.getD k (0, [])
    · rw [decide_eq_true e, Bool.not_true, if_neg Bool.false_ne_true, eqF_iff b ys (k + 1)]
      constructor
      · intro q i r hi
        cases i with
        | zero => obtain rfl : y = r := by simpa using hi
                  exact e
        | succ i =>
          have := q i r (by simpa using hi)
          rw [show k + (i + 1) = k + 1 + i by omega]; exact this
      · intro q i r hi
        have := q (i + 1) r (by simpa using hi)
        rw [show k + (i + 1) = k + 1 + i by omega] at this; exact this
    · rw [decide_eq_false e, Bool.not_false, if_pos rfl, LR.on_ret]
      refine ⟨fun q => (by cases q), fun q => ?_⟩
      exact absurd (q 0 y rfl) e
theorem same_eq (a b : Ix) : index_Same_m a b = decide (a = b) := by
  unfold index_Same_m
  rw [LR.seq_go]
  unfold slices_EqualFunc_Listed_m
  by_cases hl : a.length = b.length
  · rw [if_neg (fun q => q (by omega))]
    have h := eqF_iff b a 0
    by_cases e : a = b
    · subst e
      rw [decide_eq_true rfl, h]; intro i r hi; rw [Nat.zero_add, List.getD_eq_getElem?_getD, hi]; rfl
    · rw [decide_eq_false e, ← Bool.not_eq_true, h]
      refine fun q => e (List.ext_getElem? (fun i => ?_))
      by_cases hi : i < a.length
      · have h1 : a[i]? = some a[i] := List.getElem?_eq_getElem hi
        have := q i _ h1
        rw [Nat.zero_add, List.getD_eq_getElem?_getD, List.getElem?_eq_getElem (by omega : i < b.length)] at this
        rw [h1, List.getElem?_eq_getElem (by omega : i < b.length), this]; rfl
      · rw [List.getElem?_eq_none (by omega), List.getElem?_eq_none (by omega)]
  · rw [if_pos (fun q => hl (by omega))]
    exact (decide_eq_false (fun e => hl (by rw [e]))).symm
theorem im_l4 : ∀ (l : List (List Int)) (k : Nat), (∀ r ∈ l, ∀ x ∈ r, U x) → windroselaw14_IndexMay_l4 l k () = .go ()
  | [], _, _ => rfl
  | y :: ys, k, h => by
    rw [windroselaw14_IndexMay_l4]
    by_cases hk : (k : Int) = 6
    · rw [if_pos hk]
    · rw [if_neg hk]
      simp only [LR.seq_go]
      have hu : ∀ x ∈ windroselaw14_few_m y, U x := fun x hx => h y (List.mem_cons_self ..) x (by simp only [windroselaw14_few_m] at hx; exact List.mem_of_mem_take hx)
      have e : index_Keys_m (windroselaw14_few_m y) = if windroseref03_Right_m (windroselaw14_few_m y) = true then windroseref14_Keys_m (windroselaw14_few_m y) else [] := by
        by_cases hc : types_Check_m (windroselaw14_few_m y) = 0
        · rw [if_pos ((r03_right hu).2 hc), r14_keys hu hc]
        · rw [if_neg (fun q => hc ((r03_right hu).1 q)), Keys_none hc]
      rw [← e, if_neg (fun q => q rfl)]
      exact im_l4 ys (k + 1) (fun r hr => h r (List.mem_cons_of_mem _ hr))
theorem indexMay_true (a0 a1 : Ix) (a2 : List (List Int)) (h0 : ∀ r ∈ a0, U r.1) (h1 : ∀ r ∈ a1, U r.1) (h2 : ∀ r ∈ a2, ∀ x ∈ r, U x) : windroselaw14_IndexMay_m a0 a1 a2 = true := by
  unfold windroselaw14_IndexMay_m
  rw [w14_true, Bool.not_true, if_neg Bool.false_ne_true]
  simp only [LR.seq_go]
  have hu := own14_U h0
  rw [same_eq, same_eq, r14_same, r14_same, decide_eq_true (rfl : windroselaw14_own_m a0 = windroselaw14_own_m a0)]
  generalize windroselaw14_own_m a0 = x at *
  generalize windroselaw14_own_m a1 = y at *
  have hb : ∀ b : Bool, (if (b != b) = true then true else (!true)) = false := fun b => by cases b <;> rfl
  have hc : decide (index_Check_m x = 0) = windroseref14_Right_m x := by
    cases e : windroseref14_Right_m x with
    | true => exact decide_eq_true ((check_iff x).1.2 ((r14_right hu).1 e))
    | false => exact decide_eq_false (fun q => by rw [(r14_right hu).2 ((check_iff x).1.1 q)] at e; cases e)
  rw [hc, if_neg (show ¬ ((windroseref14_Right_m x != windroseref14_Right_m x) = true) by cases windroseref14_Right_m x <;> decide), hb]
  have h3 : (if index_Check_m x ≠ 0 then (if index_Check_m x ≠ 240 then true else false) else false) = false := by
    by_cases e : index_Check_m x ≠ 0
    · rw [if_pos e, if_neg (fun q => q ((check_iff x).2 e))]
    · rw [if_neg e]
  rw [h3, if_neg Bool.false_ne_true, im_l4 a2 0 h2]
  rfl
end Go.SX

set_option linter.unusedVariables false
set_option linter.unusedSimpArgs false
namespace Go.SX
open Go Go.ChangeShapes Go.WideShapes Go.ChangeAt Go.RowKit

/-- All that stands in a world's memory can be read. -/
def heapOf (W : World) : Heap := fun b => W.heap[b]?
theorem sat_heapOf (W : World) : Sat (heapOf W) [] W := ⟨fun _ _ h => h, fun p h => (by cases h), List.nodup_nil, fun p h => (by cases h)⟩

/-- A contract of a function that hands back v, at a world. -/
theorem calls_of_Fv {P : Program} {f : FuncId} {fn : Func} {c : Code} {vs : List Value} {v : Value} {W : World} (hf : P.funcs[f]? = some fn) (hb : fn.body = some c) (hname : (fn.name == "runtime.NumGoroutine") = false)
    (h : Fv P (fnv f) vs (heapOf W) v) : Calls P f vs.toArray W fun e W' => e = .returned v ∧ Below W.heap.size W W' := by
  obtain ⟨nx, w1, h1, h2⟩ := h W (sat_heapOf W)
  have he := Go.Proofs.enters_of (P := P) hf hname hb vs.toArray W
  have hrun : Sem.run P (do let d ← Deferred.ofValue (fnv f) vs.toArray; invoke d.target d.args) W = .ok (.enter f vs.toArray) W := by
    simp [Deferred.ofValue, invoke, he]
  rw [hrun] at h1
  injection h1 with h1 h3
  subst h1; subst h3
  refine callsIn_wide.1 (CallsIn.mono h2 ?_)
  rintro e w' ⟨u, H', L', rfl, hst, rfl, rfl⟩
  exact ⟨rfl, hst.chg.os, hst.chg.tape, hst.chg.output, hst.chg.size, fun b hb => hst.chg.same b hb (by simp [keys])⟩

section
variable {H : Type} {enc : TypeId × Value → H} {P : Program}

theorem trodAll_below (hl : laidOutB P = true) {W W' : World} (hb : Below W.heap.size W W') {sp : Nat → Bool} : ∀ {ts : List TypeId} {vs : List Value} {ds : List (DataW H)} {p : List MemPlace},
    (∀ t ∈ ts, P.readableRec t = true ∧ t < P.types.size) → DataW.TrodAll enc P W 0 (fun _ => true) true ts vs ds p → (∀ q ∈ p, q.block < W.heap.size ∧ sp q.block = true) → DataW.TrodAll enc P W' 0 sp true ts vs ds p
  | [], _, _, _, _, h, _ => by
    obtain ⟨rfl, rfl, rfl⟩ := trodAll_nil h
    exact trodAll_mk0
  | t :: ts, _, _, _, ht, h, hp => by
    obtain ⟨v, vs, d, ds, a, b, rfl, rfl, rfl, h1, h2⟩ := trodAll_cons h
    have h3 := WideElems.Trod_stays (sp' := sp) hl (ht t (List.mem_cons_self ..)).1 (ht t (List.mem_cons_self ..)).2 h1 (fun x hx => hb.same (hp x (List.mem_append_left _ hx)).1) (fun x hx => (hp x (List.mem_append_left _ hx)).2)
    exact ⟨a, b, h3, trodAll_below hl hb (fun t' h' => ht t' (List.mem_cons_of_mem _ h')) h2 (fun x hx => hp x (List.mem_append_right _ hx)), rfl⟩

/-- What is asked behind a call that turned nothing of what there was, and says true. -/
theorem post_true {f : Func} {s : ChangeSpec} {fresh handsOn again : Bool} {W W' : World} {args : Array Value} {ds gs : List (DataW H)} {before : List MemPlace} {tb : TypeId} (hl : laidOutB P = true)
    (hW : DataW.Whole enc P f.params.toList s.vars false W args.toList ds gs before) (hvars : s.vars = []) (hpar : ∀ t ∈ f.params.toList, P.readableRec t = true ∧ t < P.types.size)
    (hs : s.fn H (ds ++ gs) = { results := [.lit (.bool true)], args := ds }) (hrt : f.resultTypes = #[tb]) (htb : P.underlying tb = some .bool) (hb : Below W.heap.size W W') :
    s.post enc P f false fresh handsOn again W args (.bool true) W' := by
  have hlt := hW.lt
  have hW0 := hW
  obtain ⟨p, q, hA, hV, rfl, hfz, hnd⟩ := hW
  rw [hvars] at hV
  obtain ⟨rfl, rfl⟩ := trodVars_none hV
  rw [List.append_nil] at hfz hlt
  have hres : ∀ (b : Nat) (sp : Nat → Bool) (hd : Bool), DataW.TrodAll enc P W' b sp hd f.resultTypes.toList ((Value.bool true).resultList f.resultTypes.size) [.lit (.bool true)] [] := by
    intro b sp hd
    rw [hrt]
    exact trodAll_mk1 (shut_bool htb true)
  have hargs : ∀ sp : Nat → Bool, (∀ x ∈ p, sp x.block = true) → DataW.TrodAll enc P W' 0 sp true f.params.toList args.toList ds p := fun sp hsp =>
    trodAll_below hl hb hpar hA (fun x hx => ⟨hlt x hx, hsp x hx⟩)
  have hvr : ∀ sp : Nat → Bool, DataW.TrodVars enc P W' sp s.vars ([] : List (DataW H)) [] := fun sp => by rw [hvars]; rfl
  refine ⟨ds, [], p ++ [], [], p, [], hW0, ?_, ?_, ?_, World.keptBut_mono (fun x hx => ⟨hx, ?_⟩) (hb.frame (· ∈ p ++ [])), fun _ => ?_⟩
  · rw [hs]; exact hres _ _ _
  · rw [hs]; exact hargs _ (fun x hx => by simpa using hlt x hx)
  · rw [hs]; exact hvr _
  · exact Or.inr (by simpa using hx)
  · refine ⟨ok_one hrt rfl (okWide_bool_mk htb true), _, _, ([] ++ p) ++ [], ⟨[] ++ p, [], trodAll_append (hargs _ (fun _ _ => rfl)) (hres _ _ _), hvr _, rfl, ?_, fun h => by cases h⟩, ?_⟩
    · intro b off hp
      have hp' : MemPlace.cell b off ∈ p := by simpa using hp
      have := hb.frozen (p := ⟨b, off, none⟩) (hlt _ hp')
      rw [this]
      exact hfz b off hp'
    · intro x hx _
      simpa using hx

theorem cellAt_heapOf {W : World} {b o : Nat} {v : Value} (h : W.cell? ⟨b, o, none⟩ = some v) : cellAt (heapOf W) b o = some v := by
  unfold World.cell? at h
  unfold cellAt heapOf
  simp only at h
  revert h
  cases hb : W.heap[b]? with
  | none => intro h; simp at h
  | some ob => cases ob <;> intro h <;> simp_all

end
theorem u_of_wf {x : Int} (h : (Lit.int .u64 x).wf = true) : 0 ≤ x ∧ x < 18446744073709551616 := by
  simp [Lit.wf, IntKind.min, IntKind.max, IntKind.signed, IntKind.bits] at h; omega
end Go.SX

set_option linter.unusedVariables false
set_option linter.unusedSimpArgs false
namespace Go.SX
open Go Go.ChangeShapes Go.WideShapes Go.ChangeAt Go.RowKit Go.Deep
/-- What can be read at the type stands as E says. -/
def Opn (P : Program) (t : TypeId) {α : Type} (E : ER α) (Q : α → Prop) : Prop :=
  ∀ (H : Type) (enc : TypeId × Value → H) (W : World) (sp : Nat → Bool) (hd : Bool) (n : Nat) (cs : List Value) (x : DataW H × List MemPlace), DataW.trod enc P W 0 sp hd n t cs = some x → ∃ a, E.R (heapOf W) cs a ∧ Q a
theorem Opn.int {P : Program} {t : TypeId} {k : IntKind} (ht : P.underlying t = some (.int k)) : Opn P t (intE k) (fun x => (Lit.int k x).wf = true) := fun H enc W sp hd n cs x h => by
  obtain ⟨n, rfl, _, hw⟩ := DataW.trod_int ht h
  exact ⟨n, rfl, hw⟩
theorem Opn.bool {P : Program} {t : TypeId} (ht : P.underlying t = some .bool) : Opn P t boolE (fun _ => True) := fun H enc W sp hd n cs x h => by
  obtain ⟨b, rfl, _⟩ := DataW.trod_bool ht h
  exact ⟨b, rfl, trivial⟩
theorem Opn.weak {P : Program} {t : TypeId} {α : Type} {E : ER α} {Q Q' : α → Prop} (h : Opn P t E Q) (hq : ∀ a, Q a → Q' a) : Opn P t E Q' := fun H enc W sp hd n cs x hx => by
  obtain ⟨a, h1, h2⟩ := h H enc W sp hd n cs x hx
  exact ⟨a, h1, hq a h2⟩
/-- A struct of two ints. -/
theorem Opn.pair {P : Program} {t i : TypeId} {f0 f1 : Field} (ht : P.underlying t = some (.struct #[f0, f1])) (ct : P.cellsOf t = 2) (o0 : f0.offset = 0) (o1 : f1.offset = 1) (t0 : f0.type = i) (t1 : f1.type = i)
    (hi : P.underlying i = some (.int .i64)) (ci : P.cellsOf i = 1) : Opn P t pairE (fun _ => True) := fun H enc W sp hd n cs x h => by
  obtain ⟨xs, m, _, _, hl, hxl, hf⟩ := DataW.trod_struct ht h
  rw [ct] at hl
  match cs, hl, xs, hxl with
  | [v0, v1], _, [y0, y1], _ =>
    have g0 := hf 0 f0 rfl
    have g1 := hf 1 f1 rfl
    rw [o0, t0, ci] at g0
    rw [o1, t1, ci] at g1
    simp at g0 g1
    obtain ⟨a, ha, _⟩ := DataW.trod_int hi g0
    obtain ⟨b, hb, _⟩ := DataW.trod_int hi g1
    simp at ha hb
    subst ha; subst hb
    exact ⟨(a, b), rfl, trivial⟩
/-- An array of two ints. -/
theorem Opn.two {P : Program} {t i : TypeId} (ht : P.underlying t = some (.array 2 i)) (ct : P.cellsOf t = 2) (hi : P.underlying i = some (.int .i64)) (ci : P.cellsOf i = 1) : Opn P t pairE (fun _ => True) := fun H enc W sp hd n cs x h => by
  obtain ⟨xs, m, _, _, hl, hxl, hf⟩ := DataW.trod_array ht h
  rw [ct] at hl
  match cs, hl, xs, hxl with
  | [v0, v1], _, [y0, y1], _ =>
    have g0 := hf 0 (by omega)
    have g1 := hf 1 (by omega)
    rw [ci] at g0 g1
    simp at g0 g1
    obtain ⟨a, ha, _⟩ := DataW.trod_int hi g0
    obtain ⟨b, hb, _⟩ := DataW.trod_int hi g1
    simp at ha hb
    subst ha; subst hb
    exact ⟨(a, b), rfl, trivial⟩
/-- A slice. -/
theorem Opn.slice {P : Program} {t e : TypeId} {α : Type} {E : ER α} {Q : α → Prop} (ht : P.underlying t = some (.slice e)) (hc : P.cellsOf e = E.size) (he : Opn P e E Q) (hs : 0 < E.size) : Opn P t (slE E) (fun xs => ∀ x ∈ xs, Q x) := fun H enc W sp hd n cs x h => by
  rcases open_slice ht h with ⟨rfl, _⟩ | ⟨a, len, cap, m, n', D, Pl, rfl, _, hl, hm, hmm, _, hx⟩
  · exact ⟨[], ⟨_, rfl, RdS.nil⟩, fun x hx => by simp at hx⟩
  · have key : ∀ i, i < len → ∃ x, (∃ b o, a = ⟨b, o, none⟩ ∧ ElemAt E (heapOf W) b (o + i * E.size) x) ∧ Q x := fun i hi => by
      obtain ⟨cs', h1, h2⟩ := hx i (by rw [hmm]; split <;> omega)
      obtain ⟨x, h3, h4⟩ := he H enc W sp hd n' cs' _ h2
      refine ⟨x, ?_, h4⟩
      rw [hc] at h1
      obtain ⟨_, hlen, hcell⟩ := World.cells?_some h1
      obtain ⟨ab, ao, asp⟩ := a
      cases asp with
      | none =>
        refine ⟨ab, ao, rfl, cs', h3, fun j u hj => ?_⟩
        have hjl : j < E.size := by rw [← hlen]; exact (List.getElem?_eq_some_iff.1 hj).1
        have h5 := hcell j hjl
        rw [hj, add_add, Addr.add_lit] at h5
        have := cellAt_heapOf h5
        rw [show ao + i * E.size + j = ao + (i * E.size + j) by omega]
        exact this
      | some s =>
        exfalso
        obtain ⟨cs0, k1, _⟩ := hx 0 (by rw [hmm]; split <;> omega)
        rw [hc, Nat.zero_mul, Addr.add_zero'] at k1
        obtain ⟨_, klen, kcell⟩ := World.cells?_some k1
        have h5 := kcell 0 hs
        rw [Addr.add_zero'] at h5
        obtain ⟨u, hu⟩ : ∃ u, cs0[0]? = some u := ⟨cs0[0], List.getElem?_eq_getElem (by omega)⟩
        rw [hu] at h5
        unfold World.cell? at h5
        revert h5
        cases hb : W.heap[ab]? with
        | none => intro h; simp [hb] at h
        | some ob => cases ob <;> intro h <;> simp [hb] at h
    obtain ⟨f, hf⟩ : ∃ f : Nat → Option α, ∀ i, i < len → ∃ x, f i = some x ∧ (∃ b o, a = ⟨b, o, none⟩ ∧ ElemAt E (heapOf W) b (o + i * E.size) x) ∧ Q x := by
      classical
      refine ⟨fun i => if hi : i < len then some (Classical.choose (key i hi)) else none, fun i hi => ?_⟩
      exact ⟨_, dif_pos hi, Classical.choose_spec (key i hi)⟩
    have hxs : ∀ n, n ≤ len → ∃ xs : List α, xs.length = n ∧ ∀ i, i < n → xs[i]? = f i := fun n => by
      induction n with
      | zero => exact fun _ => ⟨[], rfl, fun i hi => absurd hi (Nat.not_lt_zero _)⟩
      | succ n ih =>
        intro hn
        obtain ⟨xs, h1, h2⟩ := ih (by omega)
        obtain ⟨x, h3, _⟩ := hf n (by omega)
        refine ⟨xs ++ [x], by simp [h1], fun i hi => ?_⟩
        by_cases h : i < n
        · rw [List.getElem?_append_left (by omega)]; exact h2 i h
        · obtain rfl : i = n := by omega
          rw [List.getElem?_append_right (by omega), h1, Nat.sub_self, h3]; rfl
    obtain ⟨xs, h1, h2⟩ := hxs len (Nat.le_refl _)
    subst h1
    refine ⟨xs, ⟨_, rfl, some a, cap, rfl, hl, hm, fun i x hx => ?_⟩, fun x hx => ?_⟩
    · have hi : i < xs.length := (List.getElem?_eq_some_iff.1 hx).1
      obtain ⟨y, h3, ⟨b, o, h4, h5⟩, _⟩ := hf i hi
      rw [h2 i hi, h3] at hx
      injection hx with hx
      subst hx
      exact ⟨b, o, by rw [h4], h5⟩
    · obtain ⟨i, hi, rfl⟩ := List.mem_iff_getElem.1 hx
      obtain ⟨y, h3, _, h4⟩ := hf i hi
      have := h2 i hi
      rw [h3, List.getElem?_eq_getElem hi] at this
      injection this with this
      rw [this]; exact h4
section
variable {P : Program} {H : Type} {enc : TypeId × Value → H} {W : World} {r : Reach} {b0 : Nat} {t : TypeId} {v : Value} {d : DataW H} {p : List MemPlace} {α : Type} {E : ER α} {Q : α → Prop}
/-- A slice that is handed in. -/
theorem open_sl {e : TypeId} (ht : P.underlying t = some (.slice e)) (ho : Opn P t (slE E) (fun xs => ∀ x ∈ xs, Q x)) (hval : Value.okWide P W r b0 t v) (h : DataW.Trod enc P W 0 (fun _ => true) true t v d p) :
    ∃ xs : List α, RdS E (heapOf W) v xs ∧ ∀ x ∈ xs, Q x := by
  obtain ⟨a0, len, cap, rfl⟩ := okWide_slice ht hval
  obtain ⟨n, hn⟩ := h
  obtain ⟨xs, ⟨u, h1, h2⟩, h3⟩ := ho H enc W _ _ n _ _ hn
  have : Value.slice a0 len cap = u := by simpa [Value.cells] using h1
  rw [this]
  exact ⟨xs, h2, h3⟩
/-- A struct, or an array, that is handed in. -/
theorem open_agg (hu : (∃ fs, P.underlying t = some (.struct fs)) ∨ ∃ n e, P.underlying t = some (.array n e)) (ho : Opn P t E Q) (hval : Value.okWide P W r b0 t v) (h : DataW.Trod enc P W 0 (fun _ => true) true t v d p) :
    ∃ cs a, v = .agg cs ∧ E.R (heapOf W) cs.toList a ∧ Q a := by
  have hv : ∃ cs, v = .agg cs := by
    unfold Value.okWide at hval
    rcases hu with ⟨fs, hu⟩ | ⟨n, e, hu⟩
    · rw [hu] at hval; obtain ⟨cs, h1, _⟩ := hval; exact ⟨cs, h1⟩
    · rw [hu] at hval; obtain ⟨cs, h1, _⟩ := hval; exact ⟨cs, h1⟩
  obtain ⟨cs, rfl⟩ := hv
  obtain ⟨n, hn⟩ := h
  obtain ⟨a, h1, h2⟩ := ho H enc W _ _ n _ _ hn
  exact ⟨cs, a, rfl, h1, h2⟩
end
end Go.SX

set_option linter.unusedVariables false
set_option linter.unusedSimpArgs false
namespace Go.SX
open Go Go.ChangeShapes Go.WideShapes Go.ChangeAt Go.RowKit Go.Deep
/-- A struct of one thing stands as that does. -/
theorem Opn.st1 {P : Program} {t i : TypeId} {f0 : Field} {α : Type} {E : ER α} {Q : α → Prop} (ht : P.underlying t = some (.struct #[f0])) (ct : P.cellsOf t = E.size) (o0 : f0.offset = 0) (t0 : f0.type = i)
    (hi : Opn P i E Q) (ci : P.cellsOf i = E.size) : Opn P t E Q := fun H enc W sp hd n cs x h => by
  obtain ⟨xs, m, _, _, hl, hxl, hf⟩ := DataW.trod_struct ht h
  rw [ct] at hl
  have hx1 : xs.length = 1 := hxl
  match xs, hx1 with
  | [y0], _ =>
    have g0 := hf 0 f0 rfl
    rw [o0, t0, ci] at g0
    have e : (cs.drop 0).take E.size = cs := by rw [List.drop_zero, List.take_of_length_le (by omega)]
    simp only [List.drop_zero] at g0
    rw [List.take_of_length_le (by omega)] at g0
    exact hi H enc W _ _ _ _ _ g0
/-- A struct of two things that are one cell each. -/
theorem Opn.st2 {P : Program} {t i j : TypeId} {f0 f1 : Field} {α β : Type} {E0 : ER α} {E1 : ER β} {Q0 : α → Prop} {Q1 : β → Prop} (E : ER (α × β)) (ht : P.underlying t = some (.struct #[f0, f1])) (ct : P.cellsOf t = 2) (o0 : f0.offset = 0) (o1 : f1.offset = 1) (t0 : f0.type = i) (t1 : f1.type = j)
    (hi : Opn P i E0 Q0) (ci : P.cellsOf i = 1) (hj : Opn P j E1 Q1) (cj : P.cellsOf j = 1) (hE : ∀ H v0 v1 a b, E0.R H [v0] a → E1.R H [v1] b → E.R H [v0, v1] (a, b)) : Opn P t E (fun x => Q0 x.1 ∧ Q1 x.2) := fun H enc W sp hd n cs x h => by
  obtain ⟨xs, m, _, _, hl, hxl, hf⟩ := DataW.trod_struct ht h
  rw [ct] at hl
  match cs, hl, xs, hxl with
  | [v0, v1], _, [y0, y1], _ =>
    have g0 := hf 0 f0 rfl
    have g1 := hf 1 f1 rfl
    rw [o0, t0, ci] at g0
    rw [o1, t1, cj] at g1
    simp at g0 g1
    obtain ⟨a, ha, qa⟩ := hi H enc W _ _ _ _ _ g0
    obtain ⟨b, hb, qb⟩ := hj H enc W _ _ _ _ _ g1
    exact ⟨(a, b), hE _ _ _ _ _ ha hb, qa, qb⟩
theorem agg_one {α : Type} {E : ER α} {cs : Array Value} {xs : List α} {H : Heap} (h : (slE E).R H cs.toList xs) : ∃ v, cs = #[v] ∧ RdS E H v xs := by
  obtain ⟨v, h1, h2⟩ := h
  exact ⟨v, Array.toList_inj.1 h1, h2⟩
end Go.SX

set_option linter.unusedVariables false
namespace Go.Proofs.YtmigaagkfglabaaGreat
open Go.ChangeShapes Go.WideShapes Go.ChangeAt Go.RowKit Go.SX

theorem indexMay_own : ownKnob Tryz.prog.godebug = none := by kernel_rfl
theorem indexMay_laid : laidOutB Tryz.prog = true := by kernel_rfl

set_option maxRecDepth 100000 in
theorem indexMay_lifted (os : Os) (started : os.Started) (H : Type) (enc : TypeId × Value → H) :
    ReturnsInHanded {} Tryz.checked os 4 .any (Rows.indexMaySpec.pre6 enc Tryz.prog Tryz.f4 Rows.indexMayRow.domain false) (Rows.indexMaySpec.post enc Tryz.prog Tryz.f4 false true false false) := by
  refine returnsInHanded_of_change (C := Tryz.checked) indexMay_own started (by kernel_rfl) Tryz.func4
    (ChangeSpec.witness6 (enc := enc) (C := Tryz.checked) false ⟨#[], #[.agg #[.slice none 0 0], .agg #[.slice none 0 0], .slice none 0 0], []⟩ 8 (by kernel_rfl) (by kernel_rfl) (by kernel_rfl) (by kernel_rfl)) ?_
  intro W base args ds gs before hval0 hW hcnd _
  have hval : ∀ (j : Nat) t v, Tryz.f4.params[j]? = some t → args[j]? = some v → Value.okWide Tryz.prog W .any base t v := hval0
  have hW' := hW
  obtain ⟨p, q, hA0, hV, rfl, hfz, hnd⟩ := hW
  have hA : DataW.TrodAll enc Tryz.prog W 0 (fun _ => true) true Tryz.f4.params.toList args.toList ds p := hA0
  rw [Tryz.params4] at hA hval
  clear hA0 hval0
  obtain ⟨v0, vs0, d0, ds0, p0, q0, e0, rfl, rfl, h0, r0⟩ := trodAll_cons hA
  obtain ⟨v1, vs1, d1, ds1, p1, q1, e1, rfl, rfl, h1, r1⟩ := trodAll_cons r0
  subst e1
  obtain ⟨v2, vs2, d2, ds2, p2, q2, e2, rfl, rfl, h2, r2⟩ := trodAll_cons r1
  subst e2
  obtain ⟨e3, rfl, rfl⟩ := trodAll_nil r2
  subst e3
  obtain rfl : args = #[v0, v1, v2] := by cases args; simp_all
  obtain ⟨rfl, rfl⟩ := trodVars_none hV
  obtain ⟨cs0, xs0, rfl, hx0, hw0⟩ := open_agg (.inl ⟨_, Tryz.underlying24⟩) (Opn.st1 Tryz.underlying24 (by kernel_rfl) rfl rfl (Opn.slice Tryz.underlying22 (by kernel_rfl) (Opn.st2 listedE Tryz.underlying45 (by kernel_rfl) rfl rfl rfl rfl (Opn.int Tryz.underlying43) (by kernel_rfl) (Opn.slice Tryz.underlying25 (by kernel_rfl) (Opn.int Tryz.underlying3) (by decide)) (by kernel_rfl) (fun H v0 v1 a b h0 h1 => by cases (show [v0] = [.int .u64 a] from h0); obtain ⟨w1, hw1, hr1⟩ := h1; cases hw1; exact ⟨_, rfl, hr1⟩)) (by decide)) (by kernel_rfl)) (hval 0 24 v0 rfl rfl) h0
  obtain ⟨u0, rfl, hr0⟩ := agg_one hx0
  obtain ⟨cs1, xs1, rfl, hx1, hw1⟩ := open_agg (.inl ⟨_, Tryz.underlying24⟩) (Opn.st1 Tryz.underlying24 (by kernel_rfl) rfl rfl (Opn.slice Tryz.underlying22 (by kernel_rfl) (Opn.st2 listedE Tryz.underlying45 (by kernel_rfl) rfl rfl rfl rfl (Opn.int Tryz.underlying43) (by kernel_rfl) (Opn.slice Tryz.underlying25 (by kernel_rfl) (Opn.int Tryz.underlying3) (by decide)) (by kernel_rfl) (fun H v0 v1 a b h0 h1 => by cases (show [v0] = [.int .u64 a] from h0); obtain ⟨w1, hw1, hr1⟩ := h1; cases hw1; exact ⟨_, rfl, hr1⟩)) (by decide)) (by kernel_rfl)) (hval 1 24 v1 rfl rfl) h1
  obtain ⟨u1, rfl, hr1⟩ := agg_one hx1
  obtain ⟨xs2, hr2, hw2⟩ := open_sl Tryz.underlying26 (Opn.slice Tryz.underlying26 (by kernel_rfl) (Opn.slice Tryz.underlying30 (by kernel_rfl) (Opn.int Tryz.underlying43) (by decide)) (by decide)) (hval 2 26 v2 rfl rfl) h2
  have hpar : ∀ t ∈ Tryz.f4.params.toList, Tryz.prog.readableRec t = true ∧ t < Tryz.prog.types.size := by
    intro t ht
    rw [Tryz.params4] at ht
    simp only [List.mem_cons, List.not_mem_nil, or_false] at ht
    rcases ht with rfl | rfl | rfl
    · exact ⟨by kernel_rfl, of_decide_eq_true (by kernel_rfl)⟩
    · exact ⟨by kernel_rfl, of_decide_eq_true (by kernel_rfl)⟩
    · exact ⟨by kernel_rfl, of_decide_eq_true (by kernel_rfl)⟩
  refine (calls_of_Fv Tryz.func4 rfl (by kernel_rfl) (Fv.to (windroselaw14_IndexMay_c _ xs0 _ hr0 xs1 _ hr1 _ xs2 hr2) (congrArg Value.bool (indexMay_true xs0 xs1 xs2 (fun r hr => u_of_wf (hw0 r hr).1) (fun r hr => u_of_wf (hw1 r hr).1) (fun r hr x hx => u_of_wf (hw2 r hr x hx)))))).mono fun e W' ⟨he, hb⟩ => ?_
  subst he
  exact ⟨_, rfl, post_true indexMay_laid hW' rfl hpar rfl rfl Tryz.underlying4 hb⟩

theorem indexMay_holds : Rows.IndexMaySaid :=
  OpenClaim.holds_of_wide 4 Tryz.f4 rfl rfl rfl rfl rfl rfl rfl ⟨rfl, rfl, rfl, rfl, rfl⟩ rfl rfl rfl rfl rfl (by kernel_rfl) Tryz.func4 (by kernel_rfl)
    (of_decide_eq_true (by kernel_rfl)) (by unfold Func.isWrapper; first | (rw [if_pos (by decide +kernel)]; kernel_rfl) | (rw [if_neg (by decide +kernel)]; exact ⟨rfl, rfl⟩))
    (fun os started H enc _ => indexMay_lifted os started H enc)
end Go.Proofs.YtmigaagkfglabaaGreat
