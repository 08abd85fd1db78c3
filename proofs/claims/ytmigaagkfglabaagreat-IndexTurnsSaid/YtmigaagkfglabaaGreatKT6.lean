/- 'IndexTurns' answers true, whatever it is handed, and what it is handed reads behind it as it did. -/
import Derived.RangeFuncNested
import Derived.RangeFuncBound
import Derived.RangeFuncCalls
import Derived.RangeFuncLeaves
import Derived.Shelf.Abstract
import Derived.Laws.AppendOwn
import Derived.Laws.OwnMore
import Derived.KernelRfl
import Derived.IntWalk
import Derived.Laws.Append
import Derived.WideLaws
import Derived.Laws.Slices
import Derived.Laws.MakeOwn
import Derived.OrdersIn
import Derived.Laws.Cover3
import Derived.Test.YtmigaagkfglabaaGreatProg
import Derived.Laws.StructEq
import Derived.Shelf.Sort.Plain
import Derived.Sort.OwnSortedInts
import Derived.Shelf.Slices.In.SortNone
import Derived.Maps.RangeRun
import Derived.Lib.AppendZeros
import Derived.Sort.AssemblyPlain
import Derived.Shelf.Small.Bits
import Derived.Sort.Walk7a
import Derived.Laws.Bits64
import Derived.Laws.Bits64b
import Derived.Shelf.Spec.SlicesInsert
import Derived.Shelf.Spec.SlicesInsertGrow
import Derived.ProofKit
import Derived.ChangeSlices
import Derived.Carry
import Derived.Deep.Slices
import Derived.OpenShut
import Derived.Test.YtmigaagkfglabaaGreatRows
import Derived.Test.YtmigaagkfglabaaGreatKT5
set_option linter.unusedVariables false
set_option linter.unusedSimpArgs false
namespace Go.SX
open Go Go.Proofs

def k_1f (a0 : Int) : Bool :=
  if (1 : Int) ≤ a0 then ((decide (a0 ≤ 1048576))) else false
set_option maxHeartbeats 3200000 in
theorem windroseref14_Table_c (H : Heap) (a0 : Int) : Fv Tryz.prog (fnv 12) [.int .i64 a0] H (.bool (k_1f a0)) := by
 refine Fc.of_body (N := 9) Tryz.func12 rfl kA rfl rfl ?_
 intro w0
 refine sR ?_
 refine R.asE rfl cA ?_
 refine nN ?_
 refine sR ?_
 refine R.mvE rfl cA ?_
 refine R.geq rfl rfl rfl ?_
 refine R.mvE rfl cA ?_
 refine TL.gsplitD 5 rfl (fun g5 => ?_) (fun g5 => ?_)
 ·refine R.mvE rfl cA ?_
  refine R.leq rfl rfl rfl ?_
  refine R.pkTE rfl rfl cA ?_
  refine R.asE rfl cA ?_
  refine nN ?_
  refine T.has Has.nil ?_
  refine T.ret ?_
  have hM : k_1f a0 = (decide (a0 ≤ 1048576)) := by rw [k_1f, if_pos g5]
  exact fin1L (v := .bool (decide (a0 ≤ 1048576))) [] rfl rfl (List.Sublist.refl _) ⟨rfl, by first | rw [hM] | rfl⟩
 refine TL.off rfl rfl rfl ?_
 refine TL.off rfl rfl rfl ?_
 refine R.pkFE rfl rfl cA ?_
 refine R.asE rfl cA ?_
 refine nN ?_
 refine T.has Has.nil ?_
 refine T.ret ?_
 have hM : k_1f a0 = false := by rw [k_1f, if_neg g5]
 exact fin1L (v := .bool false) [] rfl rfl (List.Sublist.refl _) ⟨rfl, by first | rw [hM] | rfl⟩
def k_70 (a0 : Int × (List Int)) : List Int → Nat → Unit → LR (Bool) (Unit)
  | [], kl1, sl1 => .go ()
  | yl1 :: ysl1, kl1, sl1 => LR.seq (if (!(k_1f yl1)) = true then true else (if (0 : Int) < (kl1 : Int) then ((decide (yl1 ≤ (a0.2.getD ((((kl1 : Int) - 1)).toNat) (0 : Int))))) else false) : Bool) (fun sc2 => if sc2 = true then (.ret false) else (k_70 a0 ysl1 (kl1 + 1) ()))
def k_2c (a0 : Int × (List Int)) : Bool :=
  LR.on (k_70 a0 a0.2 0 ()) (fun r => r) (fun ol1 => if (0 : Int) < (a0.2.length : Int) then (if ((k_7 a0.1) : Int) = 2 then true else (if ((k_7 a0.1) : Int) = 3 then true else ((decide (((k_7 a0.1) : Int) = 4))))) else false)
set_option maxHeartbeats 3200000 in
theorem windroseref14_row_c (H : Heap) (a0 : Int × (List Int)) (va0_1 : Value) (ha0_1 : RdS (intE .i64) H va0_1 a0.2) : Fv Tryz.prog (fnv 27) [.agg #[.int .u64 a0.1, va0_1]] H (.bool (k_2c a0)) := by
 refine Fc.of_body (N := 51) Tryz.func27 rfl kA rfl rfl ?_
 intro w0
 obtain ⟨Aa0_1, ca0_1, rfl, hca0_1, hda0_1, ha0_1⟩ := ha0_1.shape
 refine sR ?_
 refine R.box rfl cA ?_
 intro b1
 refine R.asE rfl cA ?_
 refine TL.shut .hd ?_
 intro Hb1_1 sb1_1 qb1_1
 have hb1_1 : Hb1_1 b1 = some (.cells #[.int .u64 (a0.1), .slice Aa0_1 a0.2.length ca0_1] 45) := shut1 qb1_1
 refine nN ?_
 refine sR ?_
 refine R.fldA Tryz.underlying45 rfl Tryz.sizeOf43 (by decide) rfl rfl ?_
 refine R.ldH Tryz.isAgg43 rfl rfl hb1_1 rfl ?_
 refine R.callv rfl rfl rfl (k_a4 _ (a0.1)) ?_
 refine R.asE rfl cA ?_
 refine nN ?_
 refine T.seq ?_
 refine sR ?_
 refine R.fldA Tryz.underlying45 rfl Tryz.sizeOf25 (by decide) rfl rfl ?_
 refine R.ldH Tryz.isAgg25 rfl rfl hb1_1 rfl ?_
 refine R.len Tryz.underlying25 rfl rfl ?_
 refine R.mvE rfl cA ?_
 refine nN ?_
 refine T.block ?_
 refine T.loop (ι := Nat) (fun kl1 H' L' ds' => kl1 ≤ a0.2.length ∧ Has L' [] ∧ k_70 a0 (a0.2.drop kl1) kl1 () = k_70 a0 a0.2 0 ()) (fun kl1 => [(12, .int .i64 (kl1 : Int)), (1, .pointer (some ⟨b1, 0, none⟩)), (3, .int .i64 (k_7 a0.1)), (10, .slice Aa0_1 a0.2.length ca0_1), (11, .int .i64 (a0.2.length : Int))]) (fun kl1 => a0.2.length - kl1) 0 ?_ ?_ ?_
 ·exact ⟨oA, Has.nil, (by rfl)⟩
 ·exact ⟨rfl, rfl, rfl, rfl, rfl, trivial⟩
 intro kl1 σ_l1 H_l1 L_l1 ds_l1 s_l1 hI_l1
 obtain ⟨hkl1, hI_l1⟩ := hI_l1
 obtain ⟨hLl1, hQl1⟩ := hI_l1
 refine T.has hLl1 ?_
 refine sR ?_
 refine R.lss rfl rfl rfl ?_
 refine nN ?_
 refine T.seq ?_
 refine T.condD rfl (fun c13 => ?_) (fun c13 => ?_)
 ·have hltl1 : kl1 < a0.2.length := by omega
  obtain ⟨yl1, hyl1⟩ := getk (xs := a0.2) (k := kl1) oA
  refine T.skip (Post.thnN ?_)
  refine T.seq ?_
  refine T.block ?_
  refine sR ?_
  refine R.mvE rfl cA ?_
  obtain ⟨b15, o15, i15, k15⟩ := RdS.elem (ha0_1.mono (sb1_1.trans s_l1)) hyl1
  obtain ⟨l15, g15, k15⟩ := k15
  obtain rfl : l15 = [.int .i64 yl1] := g15
  refine R.ixp Tryz.underlying25 Tryz.sizeOf3 rfl rfl rfl oA i15 ?_
  refine R.ldC Tryz.isAgg3 rfl rfl (k15 0 _ rfl) ?_
  refine R.asE rfl cA ?_
  refine R.asE rfl cA ?_
  refine nN ?_
  refine T.seq ?_
  refine T.cutK (ι := Bool) (fun b33c2 H' L' ds' => Has L' [] ∧ (if (!(k_1f yl1)) = true then true else (if (0 : Int) < (kl1 : Int) then ((decide (yl1 ≤ (a0.2.getD ((((kl1 : Int) - 1)).toNat) (0 : Int))))) else false) : Bool) = b33c2) (fun b33c2 => [(1, .pointer (some ⟨b1, 0, none⟩)), (3, .int .i64 (k_7 a0.1)), (10, .slice Aa0_1 a0.2.length ca0_1), (11, .int .i64 (a0.2.length : Int)), (12, .int .i64 (kl1 : Int)), (33, .bool (b33c2))]) ?_ ?_
  ·refine T.region ?_
   refine R.mvE rfl cA ?_
   refine R.callv rfl rfl rfl (windroseref14_Table_c _ (yl1)) ?_
   refine R.not rfl rfl ?_
   refine R.mvE rfl cA ?_
   refine TL.gsplit 20 rfl (fun g20 => ?_) (fun g20 => ?_)
   ·refine TL.off rfl rfl rfl ?_
    refine TL.off rfl rfl rfl ?_
    refine TL.off rfl rfl rfl ?_
    refine TL.offU rfl rfl ?_
    refine TL.offU rfl rfl ?_
    refine TL.offU rfl rfl ?_
    refine TL.offU rfl rfl ?_
    refine TL.offU rfl rfl ?_
    refine TL.offU rfl rfl ?_
    refine TL.offU rfl rfl ?_
    refine TL.offU rfl rfl ?_
    refine TL.off rfl rfl rfl ?_
    refine R.pkTE rfl rfl cA ?_
    refine nN ?_
    exact ⟨true, HLe.refl _, ⟨Has.nil, (by rw [if_t g20])⟩, rfl, rfl, rfl, rfl, rfl, rfl, trivial⟩
   refine R.mvE rfl cA ?_
   refine R.gtr rfl rfl rfl ?_
   refine R.mvE rfl cA ?_
   refine TL.gsplitD 23 rfl (fun g23 => ?_) (fun g23 => ?_)
   ·refine R.fldA Tryz.underlying45 rfl Tryz.sizeOf25 (by decide) rfl rfl ?_
    refine R.ldH Tryz.isAgg25 rfl rfl (s_l1 _ _ hb1_1) rfl ?_
    refine R.mvE rfl cA ?_
    refine R.subI rfl rfl rfl oA ?_
    have hl28 : (((kl1 : Int) - 1)).toNat < a0.2.length := bA
    obtain ⟨y28, e28, h28⟩ : ∃ y, y = (a0.2.getD ((((kl1 : Int) - 1)).toNat) (0 : Int)) ∧ a0.2[(((kl1 : Int) - 1)).toNat]? = some y := ⟨_, rfl, k_6 (by first | exact hl28 | simpa using hl28 | (simp only [List.length_set]; omega) | omega | (rw [(k_1 _).length_eq]; exact hl28))⟩
    obtain ⟨b28, o28, i28, k28⟩ := RdS.elem (ha0_1.mono (sb1_1.trans s_l1)) h28
    obtain ⟨l28, g28, k28⟩ := k28
    obtain rfl : l28 = [.int .i64 y28] := g28
    refine R.ixp Tryz.underlying25 Tryz.sizeOf3 rfl rfl rfl bA i28 ?_
    refine R.ldC Tryz.isAgg3 rfl rfl (k28 0 _ rfl) ?_
    refine R.mvE rfl cA ?_
    refine R.geq rfl rfl rfl ?_
    refine R.pkTE rfl rfl cA ?_
    refine R.pkFE rfl rfl cA ?_
    refine nN ?_
    exact ⟨(decide (yl1 ≤ y28)), HLe.refl _, ⟨Has.nil, (by subst e28; rw [if_f g20, if_pos g23])⟩, rfl, rfl, rfl, rfl, rfl, rfl, trivial⟩
   refine TL.off rfl rfl rfl ?_
   refine TL.off rfl rfl rfl ?_
   refine TL.off rfl rfl rfl ?_
   refine TL.off rfl rfl rfl ?_
   refine TL.off rfl rfl rfl ?_
   refine TL.off rfl rfl rfl ?_
   refine TL.off rfl rfl rfl ?_
   refine TL.off rfl rfl rfl ?_
   refine R.pkFE rfl rfl cA ?_
   refine R.pkFE rfl rfl cA ?_
   refine nN ?_
   exact ⟨false, HLe.refl _, ⟨Has.nil, (by rw [if_f g20, if_neg g23])⟩, rfl, rfl, rfl, rfl, rfl, rfl, trivial⟩
  intro b33c2 σ_c2 H_c2 L_c2 ds_c2 s_c2 hI_c2
  obtain ⟨hLc2, hTc2⟩ := hI_c2
  refine T.has hLc2 ?_
  refine T.cond rfl (fun c33 => ?_) (fun c33 => ?_)
  ·refine T.set 33 (.bool true) (congrArg Value.bool c33) ?_
   have hZ33 := hTc2.trans c33
   try simp only [or_f, or_t, k_bf, k_c0, decide_eq_true_eq, decide_eq_false_iff_not, Bool.not_eq_true'] at hZ33
   refine sR ?_
   refine R.asE rfl cA ?_
   refine nN ?_
   refine T.has Has.nil ?_
   refine T.ret (Post.blkR (Post.thnR (Post.thnR (Post.blkR (Post.thnR ?_)))))
   have hXl1 : k_70 a0 a0.2 0 () = .ret false := by rw [← hQl1, k_16 hyl1, k_70]; rw [hTc2, LR.seq_go, if_t c33]
   have hM : k_2c a0 = false := by rw [k_2c, hXl1, LR.on_ret]
   exact fin1L (v := .bool false) [] rfl rfl (List.Sublist.refl _) ⟨rfl, by first | rw [hM] | rfl⟩
  refine T.set 33 (.bool false) (congrArg Value.bool c33) ?_
  have hZ33 := hTc2.trans c33
  try simp only [or_f, or_t, k_bf, k_c0, decide_eq_true_eq, decide_eq_false_iff_not, Bool.not_eq_true'] at hZ33
  refine T.skip (Post.blkN ?_)
  refine id (Post.thnN ?_)
  refine T.region ?_
  refine R.addI rfl rfl rfl oA ?_
  refine R.mvE rfl cA ?_
  refine nN ?_
  exact ⟨kl1 + 1, (s_l1.trans s_c2), ⟨oA, Has.nil, (by rw [← hQl1, k_16 hyl1, k_70]; rw [hTc2, LR.seq_go, if_f c33])⟩, by show a0.2.length - (kl1 + 1) < a0.2.length - kl1; omega, rfl, rfl, rfl, rfl, rfl, trivial⟩
 refine T.exit (Post.thnE (Post.thnE (Post.blkX ?_)))
 have hEl1 : k_70 a0 a0.2 0 () = .go () := (hQl1.symm.trans (by rw [show kl1 = a0.2.length by omega, List.drop_length, k_70]))
 refine id (Post.thnN ?_)
 refine sR ?_
 refine R.fldA Tryz.underlying45 rfl Tryz.sizeOf25 (by decide) rfl rfl ?_
 refine R.ldH Tryz.isAgg25 rfl rfl (s_l1 _ _ hb1_1) rfl ?_
 refine R.len Tryz.underlying25 rfl rfl ?_
 refine R.gtr rfl rfl rfl ?_
 refine R.mvE rfl cA ?_
 refine TL.gsplitD 39 rfl (fun g39 => ?_) (fun g39 => ?_)
 ·refine R.mvE rfl cA ?_
  refine R.eql rfl rfl rfl ?_
  refine R.mvE rfl cA ?_
  refine TL.gsplitD 42 rfl (fun g42 => ?_) (fun g42 => ?_)
  ·refine TL.off rfl rfl rfl ?_
   refine TL.off rfl rfl rfl ?_
   refine R.pkTE rfl rfl cA ?_
   refine R.mvE rfl cA ?_
   refine TL.off rfl rfl rfl ?_
   refine TL.off rfl rfl rfl ?_
   refine R.pkTE rfl rfl cA ?_
   refine R.pkTE rfl rfl cA ?_
   refine R.asE rfl cA ?_
   refine nN ?_
   refine T.has Has.nil ?_
   refine T.ret ?_
   have hM : k_2c a0 = true := by rw [k_2c, hEl1, LR.on_go, if_pos g39, if_pos g42]
   exact fin1L (v := .bool true) [] rfl rfl (List.Sublist.refl _) ⟨rfl, by first | rw [hM] | rfl⟩
  refine R.mvE rfl cA ?_
  refine R.eql rfl rfl rfl ?_
  refine R.pkFE rfl rfl cA ?_
  refine R.mvE rfl cA ?_
  refine TL.gsplitD 46 rfl (fun g46 => ?_) (fun g46 => ?_)
  ·refine TL.off rfl rfl rfl ?_
   refine TL.off rfl rfl rfl ?_
   refine R.pkTE rfl rfl cA ?_
   refine R.pkTE rfl rfl cA ?_
   refine R.asE rfl cA ?_
   refine nN ?_
   refine T.has Has.nil ?_
   refine T.ret ?_
   have hM : k_2c a0 = true := by rw [k_2c, hEl1, LR.on_go, if_pos g39, if_neg g42, if_pos g46]
   exact fin1L (v := .bool true) [] rfl rfl (List.Sublist.refl _) ⟨rfl, by first | rw [hM] | rfl⟩
  refine R.mvE rfl cA ?_
  refine R.eql rfl rfl rfl ?_
  refine R.pkFE rfl rfl cA ?_
  refine R.pkTE rfl rfl cA ?_
  refine R.asE rfl cA ?_
  refine nN ?_
  refine T.has Has.nil ?_
  refine T.ret ?_
  have hM : k_2c a0 = (decide (((k_7 a0.1) : Int) = 4)) := by rw [k_2c, hEl1, LR.on_go, if_pos g39, if_neg g42, if_neg g46]
  exact fin1L (v := .bool (decide (((k_7 a0.1) : Int) = 4))) [] rfl rfl (List.Sublist.refl _) ⟨rfl, by first | rw [hM] | rfl⟩
 refine TL.off rfl rfl rfl ?_
 refine TL.off rfl rfl rfl ?_
 refine TL.off rfl rfl rfl ?_
 refine TL.offU rfl rfl ?_
 refine TL.offU rfl rfl ?_
 refine TL.off rfl rfl rfl ?_
 refine TL.off rfl rfl rfl ?_
 refine TL.offU rfl rfl ?_
 refine TL.offU rfl rfl ?_
 refine TL.off rfl rfl rfl ?_
 refine R.pkFE rfl rfl cA ?_
 refine R.asE rfl cA ?_
 refine nN ?_
 refine T.has Has.nil ?_
 refine T.ret ?_
 have hM : k_2c a0 = false := by rw [k_2c, hEl1, LR.on_go, if_neg g39]
 exact fin1L (v := .bool false) [] rfl rfl (List.Sublist.refl _) ⟨rfl, by first | rw [hM] | rfl⟩
def k_7f (a1 : Int) : List Int → Unit → LR (Bool) (Unit)
  | [], sl1 => .go ()
  | yl1 :: ysl1, sl1 => if yl1 = a1 then (.ret true) else (k_7f a1 ysl1 ())
def k_7d (a0 : List Int) (a1 : Int) : Bool :=
  LR.on (k_7f a1 a0 ()) (fun r => r) (fun ol1 => false)
set_option maxHeartbeats 3200000 in
theorem windroseref14_has_c (H : Heap) (va0 : Value) (a0 : List Int) (ha0 : RdS (intE .i64) H va0 a0) (a1 : Int) : Fv Tryz.prog (fnv 30) [va0, .int .i64 a1] H (.bool (k_7d a0 a1)) := by
 refine Fc.of_body (N := 17) Tryz.func30 rfl kA rfl rfl ?_
 intro w0
 obtain ⟨Aa0, ca0, rfl, hca0, hda0, ha0⟩ := ha0.shape
 refine sR ?_
 refine R.asE rfl cA ?_
 refine nN ?_
 refine T.seq ?_
 refine sR ?_
 refine R.mvE rfl cA ?_
 refine R.len Tryz.underlying25 rfl rfl ?_
 refine R.mvE rfl cA ?_
 refine nN ?_
 refine T.block ?_
 refine T.loop (ι := Nat) (fun kl1 H' L' ds' => kl1 ≤ a0.length ∧ Has L' [] ∧ k_7f a1 (a0.drop kl1) () = k_7f a1 a0 ()) (fun kl1 => [(9, .int .i64 (kl1 : Int)), (1, .int .i64 a1), (7, .slice Aa0 a0.length ca0), (8, .int .i64 (a0.length : Int))]) (fun kl1 => a0.length - kl1) 0 ?_ ?_ ?_
 ·exact ⟨oA, Has.nil, (by rfl)⟩
 ·exact ⟨rfl, rfl, rfl, rfl, trivial⟩
 intro kl1 σ_l1 H_l1 L_l1 ds_l1 s_l1 hI_l1
 obtain ⟨hkl1, hI_l1⟩ := hI_l1
 obtain ⟨hLl1, hQl1⟩ := hI_l1
 refine T.has hLl1 ?_
 refine sR ?_
 refine R.lss rfl rfl rfl ?_
 refine nN ?_
 refine T.seq ?_
 refine T.condD rfl (fun c10 => ?_) (fun c10 => ?_)
 ·have hltl1 : kl1 < a0.length := by omega
  obtain ⟨yl1, hyl1⟩ := getk (xs := a0) (k := kl1) oA
  refine T.skip (Post.thnN ?_)
  refine T.seq ?_
  refine T.block ?_
  refine sR ?_
  obtain ⟨b11, o11, i11, k11⟩ := RdS.elem (ha0.mono s_l1) hyl1
  obtain ⟨l11, g11, k11⟩ := k11
  obtain rfl : l11 = [.int .i64 yl1] := g11
  refine R.ixp Tryz.underlying25 Tryz.sizeOf3 rfl rfl rfl oA i11 ?_
  refine R.ldC Tryz.isAgg3 rfl rfl (k11 0 _ rfl) ?_
  refine R.asE rfl cA ?_
  refine nN ?_
  refine sR ?_
  refine R.mvE rfl cA ?_
  refine R.mvE rfl cA ?_
  refine R.eql rfl rfl rfl ?_
  refine nN ?_
  refine T.condD rfl (fun c15 => ?_) (fun c15 => ?_)
  ·refine T.set 15 (.bool true) (congrArg Value.bool (decide_eq_true c15)) ?_
   refine sR ?_
   refine R.asE rfl cA ?_
   refine nN ?_
   refine T.has Has.nil ?_
   refine T.ret (Post.blkR (Post.thnR (Post.thnR (Post.blkR (Post.thnR ?_)))))
   have hXl1 : k_7f a1 a0 () = .ret true := by rw [← hQl1, k_16 hyl1, k_7f]; rw [if_pos c15]
   have hM : k_7d a0 a1 = true := by rw [k_7d, hXl1, LR.on_ret]
   exact fin1L (v := .bool true) [] rfl rfl (List.Sublist.refl _) ⟨rfl, by first | rw [hM] | rfl⟩
  refine T.set 15 (.bool false) (congrArg Value.bool (decide_eq_false c15)) ?_
  refine T.skip (Post.blkN ?_)
  refine id (Post.thnN ?_)
  refine T.region ?_
  refine R.addI rfl rfl rfl oA ?_
  refine R.mvE rfl cA ?_
  refine nN ?_
  exact ⟨kl1 + 1, s_l1, ⟨oA, Has.nil, (by rw [← hQl1, k_16 hyl1, k_7f]; rw [if_neg c15])⟩, by show a0.length - (kl1 + 1) < a0.length - kl1; omega, rfl, rfl, rfl, rfl, trivial⟩
 refine T.exit (Post.thnE (Post.thnE (Post.blkX ?_)))
 have hEl1 : k_7f a1 a0 () = .go () := (hQl1.symm.trans (by rw [show kl1 = a0.length by omega, List.drop_length, k_7f]))
 refine id (Post.thnN ?_)
 refine sR ?_
 refine R.asE rfl cA ?_
 refine nN ?_
 refine T.has Has.nil ?_
 refine T.ret ?_
 have hM : k_7d a0 a1 = false := by rw [k_7d, hEl1, LR.on_go]
 exact fin1L (v := .bool false) [] rfl rfl (List.Sublist.refl _) ⟨rfl, by first | rw [hM] | rfl⟩
def k_46 (a1 : Int) : List (Int × (List Int)) → ((List Int)) → (List Int)
  | [], sl1 => sl1
  | yl1 :: ysl1, sl1 => LR.seq (if (k_7d yl1.2 a1) = true then ((decide (((k_7 yl1.1) : Int) ≠ 4))) else false : Bool) (fun sc2 => if sc2 = true then (k_46 a1 ysl1 ((sl1 ++ [yl1.1]))) else (k_46 a1 ysl1 sl1))
def k_8a (a0 : (List (Int × (List Int)))) (a1 : Int) : (List Int) :=
  LR.seq (k_46 a1 a0 []) (fun ol1 => ol1)
set_option maxHeartbeats 3200000 in
theorem windroseref14_Type_c (H : Heap) (a0 : (List (Int × (List Int)))) (va0_0 : Value) (ha0_0 : RdS listedE H va0_0 a0) (a1 : Int) (hl : a0.length ≤ 100000) : Fc Tryz.prog (fnv 28) [.agg #[va0_0], .int .i64 a1] H [] (fun v' H' L' => ∃ u0_0 c0_0, v' = u0_0 ∧ L' = [c0_0] ∧ OwnS (intE .u64) 43 H' u0_0 (k_8a a0 a1) c0_0) := by
 refine Fc.of_body (N := 32) Tryz.func28 rfl kA rfl rfl ?_
 intro w0
 obtain ⟨Aa0_0, ca0_0, rfl, hca0_0, hda0_0, ha0_0⟩ := ha0_0.shape
 refine sR ?_
 refine R.box rfl cA ?_
 intro b2
 refine R.asE rfl cA ?_
 refine TL.shut .hd ?_
 intro Hb2_1 sb2_1 qb2_1
 have hb2_1 : Hb2_1 b2 = some (.cells #[.slice Aa0_0 a0.length ca0_0] 24) := shut1 qb2_1
 refine nN ?_
 refine sR ?_
 refine R.asE rfl cA ?_
 refine nN ?_
 refine T.seq ?_
 refine sR ?_
 refine R.fldA Tryz.underlying24 rfl Tryz.sizeOf22 (by decide) rfl rfl ?_
 refine R.ldH Tryz.isAgg22 rfl rfl hb2_1 rfl ?_
 refine R.len Tryz.underlying22 rfl rfl ?_
 refine R.mvE rfl cA ?_
 refine nN ?_
 refine T.block ?_
 refine T.loop (ι := Nat × Value × (List Int) × Chunk) (fun ⟨kl1, v5l1, x5l1, c5l1⟩ H' L' ds' => kl1 ≤ a0.length ∧ Has L' [c5l1] ∧ OwnS (intE .u64) 43 H' v5l1 x5l1 c5l1 ∧ x5l1.length ≤ kl1 ∧ k_46 a1 (a0.drop kl1) x5l1 = k_46 a1 a0 []) (fun ⟨kl1, v5l1, x5l1, c5l1⟩ => [(11, .int .i64 (kl1 : Int)), (1, .int .i64 a1), (5, v5l1), (9, .slice Aa0_0 a0.length ca0_0), (10, .int .i64 (a0.length : Int))]) (fun ⟨kl1, v5l1, x5l1, c5l1⟩ => a0.length - kl1) (0, .slice none 0 0, [], []) ?_ ?_ ?_
 ·exact ⟨oA, (Has.none Has.nil), OwnS.nil, bA, (by rfl)⟩
 ·exact ⟨rfl, rfl, rfl, rfl, rfl, trivial⟩
 intro ⟨kl1, v5l1, x5l1, c5l1⟩ σ_l1 H_l1 L_l1 ds_l1 s_l1 hI_l1
 obtain ⟨hkl1, hI_l1⟩ := hI_l1
 obtain ⟨hLl1, w5l1, hBl1_0, hQl1⟩ := hI_l1
 obtain ⟨A5l1, p5l1, rfl, m5l1, n5l1_⟩ := OwnS.shape w5l1
 refine T.has hLl1 ?_
 refine sR ?_
 refine R.lss rfl rfl rfl ?_
 refine nN ?_
 refine T.seq ?_
 refine T.condD rfl (fun c12 => ?_) (fun c12 => ?_)
 ·have hltl1 : kl1 < a0.length := by omega
  obtain ⟨yl1, hyl1⟩ := getk (xs := a0) (k := kl1) oA
  refine T.skip (Post.thnN ?_)
  refine T.seq ?_
  refine T.block ?_
  refine sR ?_
  obtain ⟨b13, o13, i13, k13⟩ := RdS.elem (ha0_0.mono (sb2_1.trans s_l1)) hyl1
  obtain ⟨l13, g13, k13⟩ := k13
  obtain ⟨z13_1, rfl, r13_1⟩ := g13
  obtain ⟨A13_1, p13_1, rfl, m13_1, n13_1, r13_1⟩ := r13_1.shape
  refine R.ixp Tryz.underlying22 Tryz.sizeOf45 rfl rfl rfl oA i13 ?_
  refine R.ldK (l := [.int .u64 (yl1.1), .slice A13_1 yl1.2.length p13_1]) Tryz.isAgg45 Tryz.sizeOf45 rfl rfl k13 rfl ?_
  refine R.alloc Tryz.zeroValue45 rfl ?_
  intro b7
  refine R.stX (old := [.int .u64 0, .slice none 0 0]) (l := [.int .u64 (yl1.1), .slice A13_1 yl1.2.length p13_1]) (new := [.int .u64 (yl1.1), .slice A13_1 yl1.2.length p13_1]) (et := 45) Tryz.sizeOf45 rfl rfl rfl rfl rfl (by show 0 + 2 ≤ 2; decide) rfl (k_20 rfl) .hd ?_
  refine TL.shut .hd ?_
  intro Hb7_2 sb7_2 qb7_2
  have hb7_2 : Hb7_2 b7 = some (.cells #[.int .u64 (yl1.1), .slice A13_1 yl1.2.length p13_1] 45) := shut1 qb7_2
  refine nN ?_
  refine T.seq ?_
  refine T.cutK (ι := Bool) (fun b24c2 H' L' ds' => Has L' [c5l1] ∧ (if (k_7d yl1.2 a1) = true then ((decide (((k_7 yl1.1) : Int) ≠ 4))) else false : Bool) = b24c2) (fun b24c2 => [(1, .int .i64 a1), (5, .slice A5l1 x5l1.length p5l1), (7, .pointer (some ⟨b7, 0, none⟩)), (9, .slice Aa0_0 a0.length ca0_0), (10, .int .i64 (a0.length : Int)), (11, .int .i64 (kl1 : Int)), (24, .bool (b24c2))]) ?_ ?_
  ·refine T.region ?_
   refine R.fldA Tryz.underlying45 rfl Tryz.sizeOf25 (by decide) rfl rfl ?_
   refine R.ldH Tryz.isAgg25 rfl rfl hb7_2 rfl ?_
   refine R.mvE rfl cA ?_
   refine R.callv rfl rfl rfl (windroseref14_has_c _ _ yl1.2 (r13_1.mono sb7_2) (a1)) ?_
   refine R.mvE rfl cA ?_
   refine TL.gsplit 19 rfl (fun g19 => ?_) (fun g19 => ?_)
   ·refine R.fldA Tryz.underlying45 rfl Tryz.sizeOf43 (by decide) rfl rfl ?_
    refine R.ldH Tryz.isAgg43 rfl rfl hb7_2 rfl ?_
    refine R.callv rfl rfl rfl (k_a4 _ (yl1.1)) ?_
    refine R.neq rfl rfl rfl ?_
    refine R.pkTE rfl rfl cA ?_
    refine nN ?_
    exact ⟨(decide (((k_7 yl1.1) : Int) ≠ 4)), HLe.refl _, ⟨(Has.cons .hd Has.nil), (by rw [if_t g19])⟩, rfl, rfl, rfl, rfl, rfl, rfl, rfl, trivial⟩
   refine TL.off rfl rfl rfl ?_
   refine TL.off rfl rfl rfl ?_
   refine TL.off rfl rfl rfl ?_
   refine TL.off rfl rfl rfl ?_
   refine R.pkFE rfl rfl cA ?_
   refine nN ?_
   exact ⟨false, HLe.refl _, ⟨(Has.cons .hd Has.nil), (by rw [if_f g19])⟩, rfl, rfl, rfl, rfl, rfl, rfl, rfl, trivial⟩
  intro b24c2 σ_c2 H_c2 L_c2 ds_c2 s_c2 hI_c2
  obtain ⟨hLc2, hTc2⟩ := hI_c2
  refine T.has hLc2 ?_
  refine T.cond rfl (fun c24 => ?_) (fun c24 => ?_)
  ·refine T.set 24 (.bool true) (congrArg Value.bool c24) ?_
   have hZ24 := hTc2.trans c24
   try simp only [or_f, or_t, k_bf, k_c0, decide_eq_true_eq, decide_eq_false_iff_not, Bool.not_eq_true'] at hZ24
   refine T.region ?_
   refine R.mvE rfl cA ?_
   refine R.fldA Tryz.underlying45 rfl Tryz.sizeOf43 (by decide) rfl rfl ?_
   refine R.ldH Tryz.isAgg43 rfl rfl (s_c2 _ _ hb7_2) rfl ?_
   refine R.bs rfl (k_3f Tryz.underlying30 Tryz.sizeOf43 Tryz.zeroValue43 rfl rfl) ?_
   intro b28
   have w28 : OwnS (intE .u64) 43 H_c2 (.slice (some ⟨b28, 0, none⟩) 1 1) [yl1.1] [(b28, .cells #[.int .u64 (yl1.1)] 43)] := OwnS.lit (xs := [yl1.1]) (k_2a (a := [.int .u64 (yl1.1)]) rfl k_4d) (by show 1 ≤ maxLen; decide)
   obtain ⟨k29, y29, r29⟩ := Src.ownA w28
   refine R.app (E := (intE .u64)) (e := 43) (xs := x5l1) (ys := [yl1.1]) k_b3 rfl rfl rfl (OwnS.mono w5l1 (sb7_2.trans s_c2)) (.tl .hd) (r29 _ .hd) y29 (by (try simp only [List.length_append, List.length_cons, List.length_nil, List.length_replicate, List.length_take, List.length_drop]); omega) (by (try simp only [List.length_append, List.length_cons, List.length_nil, List.length_replicate, List.length_take, List.length_drop]); omega) ?_
   intro v29 c29 w29
   obtain ⟨A29, p29, rfl, m29, n29⟩ := OwnS.shape w29
   refine TL.del (.tl .hd) ?_
   refine R.asE rfl cA ?_
   refine TL.nil (Post.blkN ?_)
   refine id (Post.thnN ?_)
   refine T.region ?_
   refine R.addI rfl rfl rfl oA ?_
   refine R.mvE rfl cA ?_
   refine nN ?_
   exact ⟨(kl1 + 1, .slice A29 (x5l1 ++ [yl1.1]).length p29, (x5l1 ++ [yl1.1]), c29), (s_l1.trans (sb7_2.trans s_c2)), ⟨oA, (Has.cons .hd Has.nil), w29, bA, (by rw [← hQl1, k_16 hyl1, k_46]; rw [hTc2, LR.seq_go, if_t c24])⟩, by show a0.length - (kl1 + 1) < a0.length - kl1; omega, rfl, rfl, rfl, rfl, rfl, trivial⟩
  refine T.set 24 (.bool false) (congrArg Value.bool c24) ?_
  have hZ24 := hTc2.trans c24
  try simp only [or_f, or_t, k_bf, k_c0, decide_eq_true_eq, decide_eq_false_iff_not, Bool.not_eq_true'] at hZ24
  refine T.skip (Post.blkN ?_)
  refine id (Post.thnN ?_)
  refine T.region ?_
  refine R.addI rfl rfl rfl oA ?_
  refine R.mvE rfl cA ?_
  refine nN ?_
  exact ⟨(kl1 + 1, .slice A5l1 x5l1.length p5l1, x5l1, c5l1), (s_l1.trans (sb7_2.trans s_c2)), ⟨oA, (Has.cons .hd Has.nil), (OwnS.mono w5l1 (sb7_2.trans s_c2)), bA, (by rw [← hQl1, k_16 hyl1, k_46]; rw [hTc2, LR.seq_go, if_f c24])⟩, by show a0.length - (kl1 + 1) < a0.length - kl1; omega, rfl, rfl, rfl, rfl, rfl, trivial⟩
 refine T.exit (Post.thnE (Post.thnE (Post.blkX ?_)))
 have hEl1 : k_46 a1 a0 [] = x5l1 := (hQl1.symm.trans (by rw [show kl1 = a0.length by omega, List.drop_length, k_46]))
 refine id (Post.thnN ?_)
 refine sR ?_
 refine R.mvE rfl cA ?_
 refine R.asE rfl cA ?_
 refine nN ?_
 refine T.has (Has.cons .hd Has.nil) ?_
 refine T.ret ?_
 have hM : k_8a a0 a1 = x5l1 := by rw [k_8a, hEl1, LR.seq_go]
 exact fin1L (v := .slice A5l1 x5l1.length p5l1) [c5l1] rfl rfl (List.Sublist.refl _) ⟨.slice A5l1 x5l1.length p5l1, c5l1, by first | rw [hM] | rfl, rfl, by rw [hM]; exact w5l1⟩
theorem rtype_l1 (n : Int) : ∀ (l : List (Int × List Int)) (a : List Int), (k_46 n l a).length ≤ a.length + l.length
  | [], a => Nat.le_refl _
  | y :: ys, a => by
    rw [k_46]
    simp only [LR.seq_go]
    rw [List.length_cons]
    generalize (if k_7d y.2 n = true then decide (k_7 y.1 ≠ 4) else false) = b
    cases b with
    | true => have := rtype_l1 n ys (a ++ [y.1]); rw [List.length_append, List.length_cons, List.length_nil] at this; rw [if_pos rfl]; omega
    | false => have := rtype_l1 n ys a; rw [if_neg (by decide)]; omega
theorem rtype_len (a : List (Int × List Int)) (n : Int) (r : List Int) (e : r = k_8a a n) : r.length ≤ a.length := by
  have := rtype_l1 n a []
  rw [e]; unfold k_8a; rw [LR.seq_go]; rw [List.length_nil] at this; omega
def k_80 (a0 : List Int) (a1 : Int) : Nat → Int → Int
  | 0, _ => default
  | ml1 + 1, sl1 => LR.seq (if sl1 < (a0.length : Int) then ((decide ((a0.getD sl1.toNat (0 : Int)) < a1))) else false : Bool) (fun sc2 => if sc2 = true then (k_80 a0 a1 ml1 ((sl1 + 1))) else sl1)
def k_b (a0 : List Int) (a1 : Int) : (List Int) :=
  LR.seq (k_80 a0 a1 (((a0.length : Int) - 0).toNat + 1) 0) (fun ol1 => LR.seq (if ol1 < (a0.length : Int) then ((decide ((a0.getD ol1.toNat (0 : Int)) = a1))) else false : Bool) (fun sc3 => if sc3 = true then a0 else ((((a0.take ol1.toNat) ++ [a1]) ++ (a0.drop ol1.toNat)))))
set_option maxHeartbeats 3200000 in
theorem k_a9 (H : Heap) (va0 : Value) (a0 : List Int) (ha0 : RdS (intE .u64) H va0 a0) (a1 : Int) (hl : a0.length ≤ 2000000) : Fp Tryz.prog (fnv 43) [va0, .int .u64 a1] H (fun v' H' => ∃ u0_0, v' = u0_0 ∧ RdS (intE .u64) H' u0_0 (k_b a0 a1)) := by
 refine Fc.of_body (N := 45) Tryz.func43 rfl kA rfl rfl ?_
 intro w0
 obtain ⟨Aa0, ca0, rfl, hca0, hda0, ha0⟩ := ha0.shape
 refine sR ?_
 refine R.asE rfl cA ?_
 refine nN ?_
 refine sR ?_
 refine R.asE rfl cA ?_
 refine nN ?_
 refine T.seq ?_
 refine T.block ?_
 refine T.loop (ι := Nat × Int) (fun ⟨kl1, n5l1⟩ H' L' ds' => ((a0.length : Int) - n5l1).toNat < kl1 ∧ Has L' [] ∧ 0 ≤ n5l1 ∧ n5l1 ≤ (a0.length : Int) ∧ k_80 a0 a1 kl1 n5l1 = k_80 a0 a1 (((a0.length : Int) - 0).toNat + 1) 0) (fun ⟨kl1, n5l1⟩ => [(0, .slice Aa0 a0.length ca0), (1, .int .u64 a1), (5, .int .i64 n5l1)]) (fun ⟨kl1, n5l1⟩ => kl1) ((((a0.length : Int) - 0).toNat + 1), 0) ?_ ?_ ?_
 ·exact ⟨oA, Has.nil, bA, bA, (by rfl)⟩
 ·exact ⟨rfl, rfl, rfl, trivial⟩
 intro ⟨kl1, n5l1⟩ σ_l1 H_l1 L_l1 ds_l1 s_l1 hI_l1
 obtain ⟨hkl1, hI_l1⟩ := hI_l1
 obtain ⟨ml1, rfl⟩ : ∃ m, kl1 = m + 1 := ⟨kl1 - 1, by omega⟩
 obtain ⟨hLl1, hBl1_0, hBl1_1, hQl1⟩ := hI_l1
 refine T.has hLl1 ?_
 refine T.seq ?_
 refine T.seq ?_
 refine T.cutK (ι := Bool) (fun b17c2 H' L' ds' => Has L' [] ∧ (if n5l1 < (a0.length : Int) then ((decide ((a0.getD n5l1.toNat (0 : Int)) < a1))) else false : Bool) = b17c2) (fun b17c2 => [(0, .slice Aa0 a0.length ca0), (1, .int .u64 a1), (5, .int .i64 n5l1), (17, .bool (b17c2))]) ?_ ?_
 ·refine T.region ?_
  refine R.mvE rfl cA ?_
  refine R.mvE rfl cA ?_
  refine R.len Tryz.underlying30 rfl rfl ?_
  refine R.lss rfl rfl rfl ?_
  refine R.mvE rfl cA ?_
  refine TL.gsplitD 10 rfl (fun g10 => ?_) (fun g10 => ?_)
  ·refine R.mvE rfl cA ?_
   refine R.mvE rfl cA ?_
   have hl13 : n5l1.toNat < a0.length := bA
   obtain ⟨y13, e13, h13⟩ : ∃ y, y = (a0.getD n5l1.toNat (0 : Int)) ∧ a0[n5l1.toNat]? = some y := ⟨_, rfl, k_6 (by first | exact hl13 | simpa using hl13 | (simp only [List.length_set]; omega) | omega | (rw [(k_1 _).length_eq]; exact hl13))⟩
   obtain ⟨b13, o13, i13, k13⟩ := RdS.elem (ha0.mono s_l1) h13
   obtain ⟨l13, g13, k13⟩ := k13
   obtain rfl : l13 = [.int .u64 y13] := g13
   refine R.ixp Tryz.underlying30 Tryz.sizeOf43 rfl rfl rfl bA i13 ?_
   refine R.ldC Tryz.isAgg43 rfl rfl (k13 0 _ rfl) ?_
   refine R.mvE rfl cA ?_
   refine R.lss rfl rfl rfl ?_
   refine R.pkTE rfl rfl cA ?_
   refine nN ?_
   exact ⟨(decide (y13 < a1)), HLe.refl _, ⟨Has.nil, (by subst e13; rw [if_pos g10])⟩, rfl, rfl, rfl, rfl, trivial⟩
  refine TL.off rfl rfl rfl ?_
  refine TL.off rfl rfl rfl ?_
  refine TL.off rfl rfl rfl ?_
  refine TL.off rfl rfl rfl ?_
  refine TL.off rfl rfl rfl ?_
  refine TL.off rfl rfl rfl ?_
  refine R.pkFE rfl rfl cA ?_
  refine nN ?_
  exact ⟨false, HLe.refl _, ⟨Has.nil, (by rw [if_neg g10])⟩, rfl, rfl, rfl, rfl, trivial⟩
 intro b17c2 σ_c2 H_c2 L_c2 ds_c2 s_c2 hI_c2
 obtain ⟨hLc2, hTc2⟩ := hI_c2
 refine T.has hLc2 ?_
 refine T.cond rfl (fun c17 => ?_) (fun c17 => ?_)
 ·refine T.set 17 (.bool true) (congrArg Value.bool c17) ?_
  have hZ17 := hTc2.trans c17
  try simp only [or_f, or_t, k_bf, k_c0, decide_eq_true_eq, decide_eq_false_iff_not, Bool.not_eq_true'] at hZ17
  refine T.skip (Post.thnN ?_)
  refine T.block ?_
  refine T.region ?_
  refine R.mvE rfl cA ?_
  refine R.addI rfl rfl rfl oA ?_
  refine R.asE rfl cA ?_
  refine TL.nil (Post.blkN ?_)
  refine id (Post.thnN ?_)
  exact ⟨(ml1, (n5l1 + 1)), (s_l1.trans s_c2), ⟨(by first | omega | (simp; omega) | (simp at *; omega)), Has.nil, bA, bA, (by rw [← hQl1, k_80]; rw [hTc2, LR.seq_go, if_t c17])⟩, by show ml1 < ml1 + 1; omega, rfl, rfl, rfl, trivial⟩
 refine T.set 17 (.bool false) (congrArg Value.bool c17) ?_
 have hZ17 := hTc2.trans c17
 try simp only [or_f, or_t, k_bf, k_c0, decide_eq_true_eq, decide_eq_false_iff_not, Bool.not_eq_true'] at hZ17
 refine T.exit (Post.thnE (Post.thnE (Post.blkX ?_)))
 have hEl1 : k_80 a0 a1 (((a0.length : Int) - 0).toNat + 1) 0 = n5l1 := (by rw [← hQl1, k_80]; rw [hTc2, LR.seq_go, if_f c17])
 refine id (Post.thnN ?_)
 refine T.seq ?_
 refine T.seq ?_
 refine T.cutK (ι := Bool) (fun b31c3 H' L' ds' => Has L' [] ∧ (if n5l1 < (a0.length : Int) then ((decide ((a0.getD n5l1.toNat (0 : Int)) = a1))) else false : Bool) = b31c3) (fun b31c3 => [(0, .slice Aa0 a0.length ca0), (1, .int .u64 a1), (5, .int .i64 n5l1), (31, .bool (b31c3))]) ?_ ?_
 ·refine T.region ?_
  refine R.mvE rfl cA ?_
  refine R.mvE rfl cA ?_
  refine R.len Tryz.underlying30 rfl rfl ?_
  refine R.lss rfl rfl rfl ?_
  refine R.mvE rfl cA ?_
  refine TL.gsplitD 24 rfl (fun g24 => ?_) (fun g24 => ?_)
  ·refine R.mvE rfl cA ?_
   refine R.mvE rfl cA ?_
   have hl27 : n5l1.toNat < a0.length := bA
   obtain ⟨y27, e27, h27⟩ : ∃ y, y = (a0.getD n5l1.toNat (0 : Int)) ∧ a0[n5l1.toNat]? = some y := ⟨_, rfl, k_6 (by first | exact hl27 | simpa using hl27 | (simp only [List.length_set]; omega) | omega | (rw [(k_1 _).length_eq]; exact hl27))⟩
   obtain ⟨b27, o27, i27, k27⟩ := RdS.elem (ha0.mono (s_l1.trans s_c2)) h27
   obtain ⟨l27, g27, k27⟩ := k27
   obtain rfl : l27 = [.int .u64 y27] := g27
   refine R.ixp Tryz.underlying30 Tryz.sizeOf43 rfl rfl rfl bA i27 ?_
   refine R.ldC Tryz.isAgg43 rfl rfl (k27 0 _ rfl) ?_
   refine R.mvE rfl cA ?_
   refine R.eql rfl rfl rfl ?_
   refine R.pkTE rfl rfl cA ?_
   refine nN ?_
   exact ⟨(decide (y27 = a1)), HLe.refl _, ⟨Has.nil, (by subst e27; rw [if_pos g24])⟩, rfl, rfl, rfl, rfl, trivial⟩
  refine TL.off rfl rfl rfl ?_
  refine TL.off rfl rfl rfl ?_
  refine TL.off rfl rfl rfl ?_
  refine TL.off rfl rfl rfl ?_
  refine TL.off rfl rfl rfl ?_
  refine TL.off rfl rfl rfl ?_
  refine R.pkFE rfl rfl cA ?_
  refine nN ?_
  exact ⟨false, HLe.refl _, ⟨Has.nil, (by rw [if_neg g24])⟩, rfl, rfl, rfl, rfl, trivial⟩
 intro b31c3 σ_c3 H_c3 L_c3 ds_c3 s_c3 hI_c3
 obtain ⟨hLc3, hTc3⟩ := hI_c3
 refine T.has hLc3 ?_
 refine T.cond rfl (fun c31 => ?_) (fun c31 => ?_)
 ·refine T.set 31 (.bool true) (congrArg Value.bool c31) ?_
  have hZ31 := hTc3.trans c31
  try simp only [or_f, or_t, k_bf, k_c0, decide_eq_true_eq, decide_eq_false_iff_not, Bool.not_eq_true'] at hZ31
  refine sR ?_
  refine R.mvE rfl cA ?_
  refine R.asE rfl cA ?_
  refine nN ?_
  refine T.has Has.nil ?_
  refine T.ret (Post.thnR ?_)
  have hM : k_b a0 a1 = a0 := by rw [k_b, hEl1, LR.seq_go, hTc3, LR.seq_go, if_t c31]
  exact fin1L (v := .slice Aa0 a0.length ca0) [] rfl rfl (List.Sublist.refl _) ⟨rfl, .slice Aa0 a0.length ca0, by first | rw [hM] | rfl, by rw [hM]; exact (ha0.mono (s_l1.trans (s_c2.trans s_c3)))⟩
 refine T.set 31 (.bool false) (congrArg Value.bool c31) ?_
 have hZ31 := hTc3.trans c31
 try simp only [or_f, or_t, k_bf, k_c0, decide_eq_true_eq, decide_eq_false_iff_not, Bool.not_eq_true'] at hZ31
 refine T.skip (Post.thnN ?_)
 refine T.seq ?_
 refine T.draw k_2b kA ?_
 refine vM 1 [0, 2, 3, 4, 5, 6, 7, 8, 9, 10, 11, 12] rfl rfl cA ?_
 refine vM 2 [0, 3, 4, 5, 6, 7, 8, 9, 10, 11, 12] rfl rfl cA ?_
 have z36 := RdS.takeC (ha0.mono (s_l1.trans (s_c2.trans s_c3))) (i := n5l1.toNat) oA oA
 obtain ⟨x36, e36⟩ : ∃ x, x = (a0.take n5l1.toNat) := ⟨_, rfl⟩
 rw [← e36] at z36
 obtain ⟨A36, p36, q36, m36, n36, r36⟩ := RdS.shape z36
 have t36 : x36.length ≤ a0.length := by rw [e36]; simp; try omega
 have t36_ : x36.length = min n5l1.toNat a0.length := by rw [e36]; simp
 refine vA 3 [0, 4, 5, 6, 7, 8, 9, 10, 11, 12] rfl (fun _ _ h_ => R.sH Tryz.underlying30 Tryz.sizeOf43 rfl rfl rfl oA oA  (TL.nil h_)) ?_
 refine Plan.set 36 (.slice A36 x36.length p36) (by first | exact q36 | (rw [← q36]; simp; done) | (rw [← q36]; rfl)) ?_
 refine vM 5 [0, 4, 6, 7, 8, 9, 10, 11, 12] rfl rfl cA ?_
 refine vM 8 [0, 4, 6, 7, 9, 10, 11, 12] rfl rfl cA ?_
 refine vM 9 [0, 4, 6, 7, 10, 11, 12] rfl rfl cA ?_
 have z43 := RdS.drop (ha0.mono (s_l1.trans (s_c2.trans s_c3))) (i := n5l1.toNat) oA oA
 obtain ⟨x43, e43⟩ : ∃ x, x = (a0.drop n5l1.toNat) := ⟨_, rfl⟩
 rw [← e43] at z43
 obtain ⟨A43, p43, q43, m43, n43, r43⟩ := RdS.shape z43
 have t43 : x43.length ≤ a0.length := by rw [e43]; simp; try omega
 refine vA 10 [0, 4, 6, 7, 11, 12] rfl (fun _ _ h_ => R.sL Tryz.underlying30 Tryz.sizeOf43 rfl rfl rfl oA oA  (TL.nil h_)) ?_
 refine Plan.set 43 (.slice A43 x43.length p43) (by first | exact q43 | (rw [← q43]; simp; done) | (rw [← q43]; rfl)) ?_
 refine Plan.s2 0 6 [4, 6, 7, 11, 12] [0, 4, 7, 11, 12] kA kA kA rfl rfl ?_ ?_
 ·refine R.bs0 (E := (intE .u64)) rfl Tryz.underlying30 Tryz.sizeOf43 ?_
  intro v33 c33 w33
  obtain ⟨A33, p33, rfl, m33, n33⟩ := w33.shape
  refine TL.nil (Plan.e1 (HLe.refl _) ?_)
  refine Plan.s2 4 6 [6, 7, 11, 12] [4, 7, 11, 12] kA kA kA rfl rfl ?_ ?_
  ·obtain ⟨k37, y37, r37⟩ := Src.rdA r36
   refine R.app (E := (intE .u64)) (e := 43) (xs := []) (ys := x36) k_b3 rfl rfl rfl w33 .hd (r37 _) y37 (by (try simp only [List.length_append, List.length_cons, List.length_nil, List.length_replicate, List.length_take, List.length_drop]); omega) (by (try simp only [List.length_append, List.length_cons, List.length_nil, List.length_replicate, List.length_take, List.length_drop]); omega) ?_
   intro v37 c37 w37
   have w37 : OwnS (intE .u64) 43 H_c3 v37 x36 c37 := w37
   obtain ⟨A37, p37, rfl, m37, n37⟩ := OwnS.shape w37
   refine TL.nil (Plan.e1 (HLe.refl _) ?_)
   refine Plan.s1 6 [7, 11, 12] kA kA rfl ?_
   refine R.bs rfl (k_3f Tryz.underlying30 Tryz.sizeOf43 Tryz.zeroValue43 rfl rfl) ?_
   intro b39
   have w39 : OwnS (intE .u64) 43 H_c3 (.slice (some ⟨b39, 0, none⟩) 1 1) [a1] [(b39, .cells #[.int .u64 a1] 43)] := OwnS.lit (xs := [a1]) (k_2a (a := [.int .u64 a1]) rfl k_4d) (by show 1 ≤ maxLen; decide)
   refine TL.nil (Plan.e1 (HLe.refl _) ?_)
   refine Plan.s1 7 [11, 12] kA kA rfl ?_
   obtain ⟨k40, y40, r40⟩ := Src.ownA w39
   refine R.app (E := (intE .u64)) (e := 43) (xs := x36) (ys := [a1]) k_b3 rfl rfl rfl w37 (.tl .hd) (r40 _ .hd) y40 (by (try simp only [List.length_append, List.length_cons, List.length_nil, List.length_replicate, List.length_take, List.length_drop]); omega) (by (try simp only [List.length_append, List.length_cons, List.length_nil, List.length_replicate, List.length_take, List.length_drop]); omega) ?_
   intro v40 c40 w40
   obtain ⟨A40, p40, rfl, m40, n40⟩ := OwnS.shape w40
   refine TL.del (.tl .hd) ?_
   refine TL.nil (Plan.e1 (HLe.refl _) ?_)
   refine Plan.s1 11 [12] kA kA rfl ?_
   obtain ⟨k44, y44, r44⟩ := Src.rdA r43
   refine R.app (E := (intE .u64)) (e := 43) (xs := (x36 ++ [a1])) (ys := x43) k_b3 rfl rfl rfl w40 .hd (r44 _) y44 (by (try simp only [List.length_append, List.length_cons, List.length_nil, List.length_replicate, List.length_take, List.length_drop]); omega) (by (try simp only [List.length_append, List.length_cons, List.length_nil, List.length_replicate, List.length_take, List.length_drop]); omega) ?_
   intro v44 c44 w44
   obtain ⟨A44, p44, rfl, m44, n44⟩ := OwnS.shape w44
   refine TL.nil (Plan.e1 (HLe.refl _) ?_)
   refine vA 12 [] rfl (fun _ _ h_ => R.asE rfl cA (TL.nil h_)) ?_
   refine Plan.done (Post.thnN ?_)
   refine T.shut .hd ?_
   intro HF44_1 sF44_1 qF44_1
   have fF44_1 := OwnS.read w44 sF44_1 qF44_1
   refine T.has Has.nil ?_
   refine T.ret ?_
   have hM : k_b a0 a1 = ((x36 ++ [a1]) ++ x43) := by subst e43; subst e36; rw [k_b, hEl1, LR.seq_go, hTc3, LR.seq_go, if_f c31]
   exact fin1L (v := .slice A44 ((x36 ++ [a1]) ++ x43).length p44) [] rfl rfl (List.Sublist.refl _) ⟨rfl, .slice A44 ((x36 ++ [a1]) ++ x43).length p44, by first | rw [hM] | rfl, by rw [hM]; exact fF44_1⟩
  refine R.bs rfl (k_3f Tryz.underlying30 Tryz.sizeOf43 Tryz.zeroValue43 rfl rfl) ?_
  intro b39
  have w39 : OwnS (intE .u64) 43 H_c3 (.slice (some ⟨b39, 0, none⟩) 1 1) [a1] [(b39, .cells #[.int .u64 a1] 43)] := OwnS.lit (xs := [a1]) (k_2a (a := [.int .u64 a1]) rfl k_4d) (by show 1 ≤ maxLen; decide)
  refine TL.nil (Plan.e1 (HLe.refl _) ?_)
  refine Plan.s1 4 [7, 11, 12] kA kA rfl ?_
  obtain ⟨k37, y37, r37⟩ := Src.rdA r36
  refine R.app (E := (intE .u64)) (e := 43) (xs := []) (ys := x36) k_b3 rfl rfl rfl w33 (.tl .hd) (r37 _) y37 (by (try simp only [List.length_append, List.length_cons, List.length_nil, List.length_replicate, List.length_take, List.length_drop]); omega) (by (try simp only [List.length_append, List.length_cons, List.length_nil, List.length_replicate, List.length_take, List.length_drop]); omega) ?_
  intro v37 c37 w37
  have w37 : OwnS (intE .u64) 43 H_c3 v37 x36 c37 := w37
  obtain ⟨A37, p37, rfl, m37, n37⟩ := OwnS.shape w37
  refine TL.nil (Plan.e1 (HLe.refl _) ?_)
  refine Plan.s1 7 [11, 12] kA kA rfl ?_
  obtain ⟨k40, y40, r40⟩ := Src.ownA w39
  refine R.app (E := (intE .u64)) (e := 43) (xs := x36) (ys := [a1]) k_b3 rfl rfl rfl w37 .hd (r40 _ (.tl .hd)) y40 (by (try simp only [List.length_append, List.length_cons, List.length_nil, List.length_replicate, List.length_take, List.length_drop]); omega) (by (try simp only [List.length_append, List.length_cons, List.length_nil, List.length_replicate, List.length_take, List.length_drop]); omega) ?_
  intro v40 c40 w40
  obtain ⟨A40, p40, rfl, m40, n40⟩ := OwnS.shape w40
  refine TL.del (.tl .hd) ?_
  refine TL.nil (Plan.e1 (HLe.refl _) ?_)
  refine Plan.s1 11 [12] kA kA rfl ?_
  obtain ⟨k44, y44, r44⟩ := Src.rdA r43
  refine R.app (E := (intE .u64)) (e := 43) (xs := (x36 ++ [a1])) (ys := x43) k_b3 rfl rfl rfl w40 .hd (r44 _) y44 (by (try simp only [List.length_append, List.length_cons, List.length_nil, List.length_replicate, List.length_take, List.length_drop]); omega) (by (try simp only [List.length_append, List.length_cons, List.length_nil, List.length_replicate, List.length_take, List.length_drop]); omega) ?_
  intro v44 c44 w44
  obtain ⟨A44, p44, rfl, m44, n44⟩ := OwnS.shape w44
  refine TL.nil (Plan.e1 (HLe.refl _) ?_)
  refine vA 12 [] rfl (fun _ _ h_ => R.asE rfl cA (TL.nil h_)) ?_
  refine Plan.done (Post.thnN ?_)
  refine T.shut .hd ?_
  intro HF44_2 sF44_2 qF44_2
  have fF44_2 := OwnS.read w44 sF44_2 qF44_2
  refine T.has Has.nil ?_
  refine T.ret ?_
  have hM : k_b a0 a1 = ((x36 ++ [a1]) ++ x43) := by subst e43; subst e36; rw [k_b, hEl1, LR.seq_go, hTc3, LR.seq_go, if_f c31]
  exact fin1L (v := .slice A44 ((x36 ++ [a1]) ++ x43).length p44) [] rfl rfl (List.Sublist.refl _) ⟨rfl, .slice A44 ((x36 ++ [a1]) ++ x43).length p44, by first | rw [hM] | rfl, by rw [hM]; exact fF44_2⟩
 refine R.bs rfl (k_3f Tryz.underlying30 Tryz.sizeOf43 Tryz.zeroValue43 rfl rfl) ?_
 intro b39
 have w39 : OwnS (intE .u64) 43 H_c3 (.slice (some ⟨b39, 0, none⟩) 1 1) [a1] [(b39, .cells #[.int .u64 a1] 43)] := OwnS.lit (xs := [a1]) (k_2a (a := [.int .u64 a1]) rfl k_4d) (by show 1 ≤ maxLen; decide)
 refine TL.nil (Plan.e1 (HLe.refl _) ?_)
 refine Plan.s1 0 [4, 7, 11, 12] kA kA rfl ?_
 refine R.bs0 (E := (intE .u64)) rfl Tryz.underlying30 Tryz.sizeOf43 ?_
 intro v33 c33 w33
 obtain ⟨A33, p33, rfl, m33, n33⟩ := w33.shape
 refine TL.nil (Plan.e1 (HLe.refl _) ?_)
 refine Plan.s1 4 [7, 11, 12] kA kA rfl ?_
 obtain ⟨k37, y37, r37⟩ := Src.rdA r36
 refine R.app (E := (intE .u64)) (e := 43) (xs := []) (ys := x36) k_b3 rfl rfl rfl w33 .hd (r37 _) y37 (by (try simp only [List.length_append, List.length_cons, List.length_nil, List.length_replicate, List.length_take, List.length_drop]); omega) (by (try simp only [List.length_append, List.length_cons, List.length_nil, List.length_replicate, List.length_take, List.length_drop]); omega) ?_
 intro v37 c37 w37
 have w37 : OwnS (intE .u64) 43 H_c3 v37 x36 c37 := w37
 obtain ⟨A37, p37, rfl, m37, n37⟩ := OwnS.shape w37
 refine TL.nil (Plan.e1 (HLe.refl _) ?_)
 refine Plan.s1 7 [11, 12] kA kA rfl ?_
 obtain ⟨k40, y40, r40⟩ := Src.ownA w39
 refine R.app (E := (intE .u64)) (e := 43) (xs := x36) (ys := [a1]) k_b3 rfl rfl rfl w37 .hd (r40 _ (.tl .hd)) y40 (by (try simp only [List.length_append, List.length_cons, List.length_nil, List.length_replicate, List.length_take, List.length_drop]); omega) (by (try simp only [List.length_append, List.length_cons, List.length_nil, List.length_replicate, List.length_take, List.length_drop]); omega) ?_
 intro v40 c40 w40
 obtain ⟨A40, p40, rfl, m40, n40⟩ := OwnS.shape w40
 refine TL.del (.tl .hd) ?_
 refine TL.nil (Plan.e1 (HLe.refl _) ?_)
 refine Plan.s1 11 [12] kA kA rfl ?_
 obtain ⟨k44, y44, r44⟩ := Src.rdA r43
 refine R.app (E := (intE .u64)) (e := 43) (xs := (x36 ++ [a1])) (ys := x43) k_b3 rfl rfl rfl w40 .hd (r44 _) y44 (by (try simp only [List.length_append, List.length_cons, List.length_nil, List.length_replicate, List.length_take, List.length_drop]); omega) (by (try simp only [List.length_append, List.length_cons, List.length_nil, List.length_replicate, List.length_take, List.length_drop]); omega) ?_
 intro v44 c44 w44
 obtain ⟨A44, p44, rfl, m44, n44⟩ := OwnS.shape w44
 refine TL.nil (Plan.e1 (HLe.refl _) ?_)
 refine vA 12 [] rfl (fun _ _ h_ => R.asE rfl cA (TL.nil h_)) ?_
 refine Plan.done (Post.thnN ?_)
 refine T.shut .hd ?_
 intro HF44_3 sF44_3 qF44_3
 have fF44_3 := OwnS.read w44 sF44_3 qF44_3
 refine T.has Has.nil ?_
 refine T.ret ?_
 have hM : k_b a0 a1 = ((x36 ++ [a1]) ++ x43) := by subst e43; subst e36; rw [k_b, hEl1, LR.seq_go, hTc3, LR.seq_go, if_f c31]
 exact fin1L (v := .slice A44 ((x36 ++ [a1]) ++ x43).length p44) [] rfl rfl (List.Sublist.refl _) ⟨rfl, .slice A44 ((x36 ++ [a1]) ++ x43).length p44, by first | rw [hM] | rfl, by rw [hM]; exact fF44_3⟩
theorem rput_len (a : List Int) (x : Int) (r : List Int) (e : r = k_b a x) : r.length ≤ a.length + 1 := by
  have h : ∀ (b : Bool) (k : Nat), (if b = true then a else (a.take k ++ [x]) ++ a.drop k).length ≤ a.length + 1 := by
    intro b k
    cases b with
    | true => rw [if_pos rfl]; omega
    | false => rw [if_neg (by decide)]; simp only [List.length_append, List.length_take, List.length_drop, List.length_cons, List.length_nil]; omega
  unfold k_b at e
  simp only [LR.seq_go] at e
  rw [e]
  exact h _ _
def k_3a  : List Int → ((List Int)) → (List Int)
  | [], sl1 => sl1
  | yl1 :: ysl1, sl1 => LR.seq (k_b sl1 yl1) (fun r16 => if ((k_7 yl1) : Int) = 3 then (LR.seq (k_1b yl1) (fun r22 => LR.seq (k_b r16 ((k_c 9223372036854775808 r22.1 0))) (fun r28 => LR.seq (k_b r28 ((k_c 9223372036854775808 0 r22.2))) (fun r32 => LR.seq (k_b r32 ((k_c 9223372036854775808 0 0))) (fun r35 => k_3a ysl1 r35))))) else (k_3a ysl1 r16))
def k_21 (a0 : List Int) : (List Int) :=
  LR.seq (k_3a a0 []) (fun ol1 => ol1)
set_option maxHeartbeats 3200000 in
theorem k_cd (H : Heap) (va0 : Value) (a0 : List Int) (ha0 : RdS (intE .u64) H va0 a0) (hl : a0.length ≤ 100000) : Fp Tryz.prog (fnv 15) [va0] H (fun v' H' => ∃ u0_0, v' = u0_0 ∧ RdS (intE .u64) H' u0_0 (k_21 a0)) := by
 refine Fc.of_body (N := 38) Tryz.func15 rfl kA rfl rfl ?_
 intro w0
 obtain ⟨Aa0, ca0, rfl, hca0, hda0, ha0⟩ := ha0.shape
 refine sR ?_
 refine R.asE rfl cA ?_
 refine nN ?_
 refine sR ?_
 refine R.asE rfl cA ?_
 refine nN ?_
 refine T.seq ?_
 refine sR ?_
 refine R.mvE rfl cA ?_
 refine R.len Tryz.underlying30 rfl rfl ?_
 refine R.mvE rfl cA ?_
 refine nN ?_
 refine T.block ?_
 refine T.loop (ι := Nat × Value × (List Int)) (fun ⟨kl1, v3l1, x3l1⟩ H' L' ds' => kl1 ≤ a0.length ∧ Has L' [] ∧ RdS (intE .u64) H' v3l1 x3l1 ∧ x3l1.length ≤ 4 * kl1 ∧ k_3a (a0.drop kl1) x3l1 = k_3a a0 []) (fun ⟨kl1, v3l1, x3l1⟩ => [(10, .int .i64 (kl1 : Int)), (3, v3l1), (8, .slice Aa0 a0.length ca0), (9, .int .i64 (a0.length : Int))]) (fun ⟨kl1, v3l1, x3l1⟩ => a0.length - kl1) (0, .slice none 0 0, []) ?_ ?_ ?_
 ·exact ⟨oA, Has.nil, RdS.nil, bA, (by rfl)⟩
 ·exact ⟨rfl, rfl, rfl, rfl, trivial⟩
 intro ⟨kl1, v3l1, x3l1⟩ σ_l1 H_l1 L_l1 ds_l1 s_l1 hI_l1
 obtain ⟨hkl1, hI_l1⟩ := hI_l1
 obtain ⟨hLl1, w3l1, hBl1_0, hQl1⟩ := hI_l1
 obtain ⟨A3l1, p3l1, rfl, m3l1, n3l1_, w3l1⟩ := RdS.shape w3l1
 refine T.has hLl1 ?_
 refine sR ?_
 refine R.lss rfl rfl rfl ?_
 refine nN ?_
 refine T.seq ?_
 refine T.condD rfl (fun c11 => ?_) (fun c11 => ?_)
 ·have hltl1 : kl1 < a0.length := by omega
  obtain ⟨yl1, hyl1⟩ := getk (xs := a0) (k := kl1) oA
  refine T.skip (Post.thnN ?_)
  refine T.seq ?_
  refine T.block ?_
  refine sR ?_
  obtain ⟨b12, o12, i12, k12⟩ := RdS.elem (ha0.mono s_l1) hyl1
  obtain ⟨l12, g12, k12⟩ := k12
  obtain rfl : l12 = [.int .u64 yl1] := g12
  refine R.ixp Tryz.underlying30 Tryz.sizeOf43 rfl rfl rfl oA i12 ?_
  refine R.ldC Tryz.isAgg43 rfl rfl (k12 0 _ rfl) ?_
  refine R.asE rfl cA ?_
  refine nN ?_
  refine sR ?_
  refine R.mvE rfl cA ?_
  refine R.mvE rfl cA ?_
  obtain ⟨r16, er16⟩ : ∃ r, r = (k_b x3l1 yl1) := ⟨_, rfl⟩
  refine R.callp rfl rfl rfl (k_a9 _ _ x3l1 w3l1 (yl1) bA) ?_
  intro v16 H16 s16 q16
  rw [← er16] at q16
  obtain ⟨u16_0_0, rfl, w16_0_0⟩ := q16
  obtain ⟨A16_0_0, p16_0_0, rfl, m16_0_0, n16_0_0, w16_0_0⟩ := RdS.shape w16_0_0
  have trp16 := rput_len _ _ _ er16
  refine R.asE rfl cA ?_
  refine nN ?_
  refine sR ?_
  refine R.mvE rfl cA ?_
  refine R.callv rfl rfl rfl (k_a4 _ (yl1)) ?_
  refine R.eql rfl rfl rfl ?_
  refine nN ?_
  refine T.condD rfl (fun c19 => ?_) (fun c19 => ?_)
  ·refine T.set 19 (.bool true) (congrArg Value.bool (decide_eq_true c19)) ?_
   refine sR ?_
   refine R.mvE rfl cA ?_
   obtain ⟨r22, er22⟩ : ∃ r, r = (k_1b yl1) := ⟨_, rfl⟩
   refine R.callv (v := .tuple #[.int .i64 r22.1, .int .i64 r22.2]) rfl rfl rfl (by rw [er22]; exact windroseref01_Parts_c _ (yl1)) ?_
   refine R.mvE rfl cA ?_
   refine R.ext rfl rfl rfl ?_
   refine R.ext rfl rfl rfl ?_
   refine R.asE rfl cA ?_
   refine R.asE rfl cA ?_
   refine nN ?_
   refine sR ?_
   refine R.mvE rfl cA ?_
   refine R.mvE rfl cA ?_
   refine R.callv rfl rfl rfl (k_98 _ (9223372036854775808) (r22.1) (0)) ?_
   obtain ⟨r28, er28⟩ : ∃ r, r = (k_b r16 ((k_c 9223372036854775808 r22.1 0))) := ⟨_, rfl⟩
   refine R.callp rfl rfl rfl (k_a9 _ _ r16 w16_0_0 ((k_c 9223372036854775808 r22.1 0)) bA) ?_
   intro v28 H28 s28 q28
   rw [← er28] at q28
   obtain ⟨u28_0_0, rfl, w28_0_0⟩ := q28
   obtain ⟨A28_0_0, p28_0_0, rfl, m28_0_0, n28_0_0, w28_0_0⟩ := RdS.shape w28_0_0
   have trp28 := rput_len _ _ _ er28
   refine R.asE rfl cA ?_
   refine nN ?_
   refine sR ?_
   refine R.mvE rfl cA ?_
   refine R.mvE rfl cA ?_
   refine R.callv rfl rfl rfl (k_98 _ (9223372036854775808) (0) (r22.2)) ?_
   obtain ⟨r32, er32⟩ : ∃ r, r = (k_b r28 ((k_c 9223372036854775808 0 r22.2))) := ⟨_, rfl⟩
   refine R.callp rfl rfl rfl (k_a9 _ _ r28 w28_0_0 ((k_c 9223372036854775808 0 r22.2)) bA) ?_
   intro v32 H32 s32 q32
   rw [← er32] at q32
   obtain ⟨u32_0_0, rfl, w32_0_0⟩ := q32
   obtain ⟨A32_0_0, p32_0_0, rfl, m32_0_0, n32_0_0, w32_0_0⟩ := RdS.shape w32_0_0
   have trp32 := rput_len _ _ _ er32
   refine R.asE rfl cA ?_
   refine nN ?_
   refine T.region ?_
   refine R.mvE rfl cA ?_
   refine R.callv rfl rfl rfl (k_98 _ (9223372036854775808) (0) (0)) ?_
   obtain ⟨r35, er35⟩ : ∃ r, r = (k_b r32 ((k_c 9223372036854775808 0 0))) := ⟨_, rfl⟩
   refine R.callp rfl rfl rfl (k_a9 _ _ r32 w32_0_0 ((k_c 9223372036854775808 0 0)) bA) ?_
   intro v35 H35 s35 q35
   rw [← er35] at q35
   obtain ⟨u35_0_0, rfl, w35_0_0⟩ := q35
   obtain ⟨A35_0_0, p35_0_0, rfl, m35_0_0, n35_0_0, w35_0_0⟩ := RdS.shape w35_0_0
   have trp35 := rput_len _ _ _ er35
   refine R.asE rfl cA ?_
   refine TL.nil (Post.blkN ?_)
   refine id (Post.thnN ?_)
   refine T.region ?_
   refine R.addI rfl rfl rfl oA ?_
   refine R.mvE rfl cA ?_
   refine nN ?_
   exact ⟨(kl1 + 1, .slice A35_0_0 r35.length p35_0_0, r35), (s_l1.trans (s16.trans (s28.trans (s32.trans s35)))), ⟨oA, Has.nil, w35_0_0, bA, (by subst er35; subst er32; subst er28; subst er22; subst er16; rw [← hQl1, k_16 hyl1, k_3a]; rw [LR.seq_go, if_pos c19, LR.seq_go, LR.seq_go, LR.seq_go, LR.seq_go])⟩, by show a0.length - (kl1 + 1) < a0.length - kl1; omega, rfl, rfl, rfl, rfl, trivial⟩
  refine T.set 19 (.bool false) (congrArg Value.bool (decide_eq_false c19)) ?_
  refine T.skip (Post.blkN ?_)
  refine id (Post.thnN ?_)
  refine T.region ?_
  refine R.addI rfl rfl rfl oA ?_
  refine R.mvE rfl cA ?_
  refine nN ?_
  exact ⟨(kl1 + 1, .slice A16_0_0 r16.length p16_0_0, r16), (s_l1.trans s16), ⟨oA, Has.nil, w16_0_0, bA, (by subst er16; rw [← hQl1, k_16 hyl1, k_3a]; rw [LR.seq_go, if_neg c19])⟩, by show a0.length - (kl1 + 1) < a0.length - kl1; omega, rfl, rfl, rfl, rfl, trivial⟩
 refine T.exit (Post.thnE (Post.thnE (Post.blkX ?_)))
 have hEl1 : k_3a a0 [] = x3l1 := (hQl1.symm.trans (by rw [show kl1 = a0.length by omega, List.drop_length, k_3a]))
 refine id (Post.thnN ?_)
 refine sR ?_
 refine R.mvE rfl cA ?_
 refine R.asE rfl cA ?_
 refine nN ?_
 refine T.has Has.nil ?_
 refine T.ret ?_
 have hM : k_21 a0 = x3l1 := by rw [k_21, hEl1, LR.seq_go]
 exact fin1L (v := .slice A3l1 x3l1.length p3l1) [] rfl rfl (List.Sublist.refl _) ⟨rfl, .slice A3l1 x3l1.length p3l1, by first | rw [hM] | rfl, by rw [hM]; exact w3l1⟩
theorem rkeys_len_l1 : ∀ (l a : List Int), (k_3a l a).length ≤ a.length + 4 * l.length
  | [], a => Nat.le_refl _
  | y :: ys, a => by
    rw [k_3a]
    simp only [LR.seq_go]
    rw [List.length_cons]
    have h1 := rput_len a y _ rfl
    split
    · have h2 := rput_len (k_b a y) (k_c 9223372036854775808 (k_1b y).1 0) _ rfl
      have h3 := rput_len (k_b (k_b a y) (k_c 9223372036854775808 (k_1b y).1 0)) (k_c 9223372036854775808 0 (k_1b y).2) _ rfl
      have h4 := rput_len (k_b (k_b (k_b a y) (k_c 9223372036854775808 (k_1b y).1 0)) (k_c 9223372036854775808 0 (k_1b y).2)) (k_c 9223372036854775808 0 0) _ rfl
      have h5 := rkeys_len_l1 ys (k_b (k_b (k_b (k_b a y) (k_c 9223372036854775808 (k_1b y).1 0)) (k_c 9223372036854775808 0 (k_1b y).2)) (k_c 9223372036854775808 0 0))
      omega
    · have h5 := rkeys_len_l1 ys (k_b a y)
      omega
theorem rkeys_len (l r : List Int) (e : r = k_21 l) : r.length ≤ 4 * l.length := by
  have := rkeys_len_l1 l []
  rw [e]; unfold k_21; rw [LR.seq_go]; rw [List.length_nil] at this; omega
def k_6d (a1 : Int) : List (Int × (List Int)) → ((List Int)) → (List Int)
  | [], sl1 => sl1
  | yl1 :: ysl1, sl1 => if (k_7d yl1.2 a1) = true then (k_6d a1 ysl1 ((sl1 ++ [yl1.1]))) else (k_6d a1 ysl1 sl1)
def k_50 (a0 : (List (Int × (List Int)))) (a1 : Int) : (List Int) :=
  LR.seq (k_6d a1 a0 []) (fun ol1 => ol1)
set_option maxHeartbeats 3200000 in
theorem windroseref14_In_c (H : Heap) (a0 : (List (Int × (List Int)))) (va0_0 : Value) (ha0_0 : RdS listedE H va0_0 a0) (a1 : Int) (hl : a0.length ≤ 100000) : Fc Tryz.prog (fnv 8) [.agg #[va0_0], .int .i64 a1] H [] (fun v' H' L' => ∃ u0_0 c0_0, v' = u0_0 ∧ L' = [c0_0] ∧ OwnS (intE .u64) 43 H' u0_0 (k_50 a0 a1) c0_0) := by
 refine Fc.of_body (N := 26) Tryz.func8 rfl kA rfl rfl ?_
 intro w0
 obtain ⟨Aa0_0, ca0_0, rfl, hca0_0, hda0_0, ha0_0⟩ := ha0_0.shape
 refine sR ?_
 refine R.box rfl cA ?_
 intro b2
 refine R.asE rfl cA ?_
 refine TL.shut .hd ?_
 intro Hb2_1 sb2_1 qb2_1
 have hb2_1 : Hb2_1 b2 = some (.cells #[.slice Aa0_0 a0.length ca0_0] 24) := shut1 qb2_1
 refine nN ?_
 refine sR ?_
 refine R.asE rfl cA ?_
 refine nN ?_
 refine T.seq ?_
 refine sR ?_
 refine R.fldA Tryz.underlying24 rfl Tryz.sizeOf22 (by decide) rfl rfl ?_
 refine R.ldH Tryz.isAgg22 rfl rfl hb2_1 rfl ?_
 refine R.len Tryz.underlying22 rfl rfl ?_
 refine R.mvE rfl cA ?_
 refine nN ?_
 refine T.block ?_
 refine T.loop (ι := Nat × Value × (List Int) × Chunk) (fun ⟨kl1, v5l1, x5l1, c5l1⟩ H' L' ds' => kl1 ≤ a0.length ∧ Has L' [c5l1] ∧ OwnS (intE .u64) 43 H' v5l1 x5l1 c5l1 ∧ x5l1.length ≤ kl1 ∧ k_6d a1 (a0.drop kl1) x5l1 = k_6d a1 a0 []) (fun ⟨kl1, v5l1, x5l1, c5l1⟩ => [(11, .int .i64 (kl1 : Int)), (1, .int .i64 a1), (5, v5l1), (9, .slice Aa0_0 a0.length ca0_0), (10, .int .i64 (a0.length : Int))]) (fun ⟨kl1, v5l1, x5l1, c5l1⟩ => a0.length - kl1) (0, .slice none 0 0, [], []) ?_ ?_ ?_
 ·exact ⟨oA, (Has.none Has.nil), OwnS.nil, bA, (by rfl)⟩
 ·exact ⟨rfl, rfl, rfl, rfl, rfl, trivial⟩
 intro ⟨kl1, v5l1, x5l1, c5l1⟩ σ_l1 H_l1 L_l1 ds_l1 s_l1 hI_l1
 obtain ⟨hkl1, hI_l1⟩ := hI_l1
 obtain ⟨hLl1, w5l1, hBl1_0, hQl1⟩ := hI_l1
 obtain ⟨A5l1, p5l1, rfl, m5l1, n5l1_⟩ := OwnS.shape w5l1
 refine T.has hLl1 ?_
 refine sR ?_
 refine R.lss rfl rfl rfl ?_
 refine nN ?_
 refine T.seq ?_
 refine T.condD rfl (fun c12 => ?_) (fun c12 => ?_)
 ·have hltl1 : kl1 < a0.length := by omega
  obtain ⟨yl1, hyl1⟩ := getk (xs := a0) (k := kl1) oA
  refine T.skip (Post.thnN ?_)
  refine T.seq ?_
  refine T.block ?_
  refine sR ?_
  obtain ⟨b13, o13, i13, k13⟩ := RdS.elem (ha0_0.mono (sb2_1.trans s_l1)) hyl1
  obtain ⟨l13, g13, k13⟩ := k13
  obtain ⟨z13_1, rfl, r13_1⟩ := g13
  obtain ⟨A13_1, p13_1, rfl, m13_1, n13_1, r13_1⟩ := r13_1.shape
  refine R.ixp Tryz.underlying22 Tryz.sizeOf45 rfl rfl rfl oA i13 ?_
  refine R.ldK (l := [.int .u64 (yl1.1), .slice A13_1 yl1.2.length p13_1]) Tryz.isAgg45 Tryz.sizeOf45 rfl rfl k13 rfl ?_
  refine R.alloc Tryz.zeroValue45 rfl ?_
  intro b7
  refine R.stX (old := [.int .u64 0, .slice none 0 0]) (l := [.int .u64 (yl1.1), .slice A13_1 yl1.2.length p13_1]) (new := [.int .u64 (yl1.1), .slice A13_1 yl1.2.length p13_1]) (et := 45) Tryz.sizeOf45 rfl rfl rfl rfl rfl (by show 0 + 2 ≤ 2; decide) rfl (k_20 rfl) .hd ?_
  refine TL.shut .hd ?_
  intro Hb7_2 sb7_2 qb7_2
  have hb7_2 : Hb7_2 b7 = some (.cells #[.int .u64 (yl1.1), .slice A13_1 yl1.2.length p13_1] 45) := shut1 qb7_2
  refine nN ?_
  refine sR ?_
  refine R.fldA Tryz.underlying45 rfl Tryz.sizeOf25 (by decide) rfl rfl ?_
  refine R.ldH Tryz.isAgg25 rfl rfl hb7_2 rfl ?_
  refine R.mvE rfl cA ?_
  refine R.callv rfl rfl rfl (windroseref14_has_c _ _ yl1.2 (r13_1.mono sb7_2) (a1)) ?_
  refine nN ?_
  refine T.cond rfl (fun c18 => ?_) (fun c18 => ?_)
  ·refine T.set 18 (.bool true) (congrArg Value.bool c18) ?_
   refine T.region ?_
   refine R.mvE rfl cA ?_
   refine R.fldA Tryz.underlying45 rfl Tryz.sizeOf43 (by decide) rfl rfl ?_
   refine R.ldH Tryz.isAgg43 rfl rfl hb7_2 rfl ?_
   refine R.bs rfl (k_3f Tryz.underlying30 Tryz.sizeOf43 Tryz.zeroValue43 rfl rfl) ?_
   intro b22
   have w22 : OwnS (intE .u64) 43 Hb7_2 (.slice (some ⟨b22, 0, none⟩) 1 1) [yl1.1] [(b22, .cells #[.int .u64 (yl1.1)] 43)] := OwnS.lit (xs := [yl1.1]) (k_2a (a := [.int .u64 (yl1.1)]) rfl k_4d) (by show 1 ≤ maxLen; decide)
   obtain ⟨k23, y23, r23⟩ := Src.ownA w22
   refine R.app (E := (intE .u64)) (e := 43) (xs := x5l1) (ys := [yl1.1]) k_b3 rfl rfl rfl (OwnS.mono w5l1 sb7_2) (.tl .hd) (r23 _ .hd) y23 (by (try simp only [List.length_append, List.length_cons, List.length_nil, List.length_replicate, List.length_take, List.length_drop]); omega) (by (try simp only [List.length_append, List.length_cons, List.length_nil, List.length_replicate, List.length_take, List.length_drop]); omega) ?_
   intro v23 c23 w23
   obtain ⟨A23, p23, rfl, m23, n23⟩ := OwnS.shape w23
   refine TL.del (.tl .hd) ?_
   refine R.asE rfl cA ?_
   refine TL.nil (Post.blkN ?_)
   refine id (Post.thnN ?_)
   refine T.region ?_
   refine R.addI rfl rfl rfl oA ?_
   refine R.mvE rfl cA ?_
   refine nN ?_
   exact ⟨(kl1 + 1, .slice A23 (x5l1 ++ [yl1.1]).length p23, (x5l1 ++ [yl1.1]), c23), (s_l1.trans sb7_2), ⟨oA, (Has.cons .hd Has.nil), w23, bA, (by rw [← hQl1, k_16 hyl1, k_6d]; rw [if_t c18])⟩, by show a0.length - (kl1 + 1) < a0.length - kl1; omega, rfl, rfl, rfl, rfl, rfl, trivial⟩
  refine T.set 18 (.bool false) (congrArg Value.bool c18) ?_
  refine T.skip (Post.blkN ?_)
  refine id (Post.thnN ?_)
  refine T.region ?_
  refine R.addI rfl rfl rfl oA ?_
  refine R.mvE rfl cA ?_
  refine nN ?_
  exact ⟨(kl1 + 1, .slice A5l1 x5l1.length p5l1, x5l1, c5l1), (s_l1.trans sb7_2), ⟨oA, (Has.cons .hd Has.nil), (OwnS.mono w5l1 sb7_2), bA, (by rw [← hQl1, k_16 hyl1, k_6d]; rw [if_f c18])⟩, by show a0.length - (kl1 + 1) < a0.length - kl1; omega, rfl, rfl, rfl, rfl, rfl, trivial⟩
 refine T.exit (Post.thnE (Post.thnE (Post.blkX ?_)))
 have hEl1 : k_6d a1 a0 [] = x5l1 := (hQl1.symm.trans (by rw [show kl1 = a0.length by omega, List.drop_length, k_6d]))
 refine id (Post.thnN ?_)
 refine sR ?_
 refine R.mvE rfl cA ?_
 refine R.asE rfl cA ?_
 refine nN ?_
 refine T.has (Has.cons .hd Has.nil) ?_
 refine T.ret ?_
 have hM : k_50 a0 a1 = x5l1 := by rw [k_50, hEl1, LR.seq_go]
 exact fin1L (v := .slice A5l1 x5l1.length p5l1) [c5l1] rfl rfl (List.Sublist.refl _) ⟨.slice A5l1 x5l1.length p5l1, c5l1, by first | rw [hM] | rfl, rfl, by rw [hM]; exact w5l1⟩
def k_5e (a0 : Int) : Bool :=
  if ((k_7 a0) : Int) = 2 then true else ((decide (((k_7 a0) : Int) = 3)))
set_option maxHeartbeats 3200000 in
theorem windroseref03_May_c (H : Heap) (a0 : Int) : Fv Tryz.prog (fnv 42) [.int .u64 a0] H (.bool (k_5e a0)) := by
 refine Fc.of_body (N := 11) Tryz.func42 rfl kA rfl rfl ?_
 intro w0
 refine sR ?_
 refine R.asE rfl cA ?_
 refine nN ?_
 refine sR ?_
 refine R.mvE rfl cA ?_
 refine R.callv rfl rfl rfl (k_a4 _ (a0)) ?_
 refine R.eql rfl rfl rfl ?_
 refine R.mvE rfl cA ?_
 refine TL.gsplitD 6 rfl (fun g6 => ?_) (fun g6 => ?_)
 ·refine TL.off rfl rfl rfl ?_
  refine TL.off rfl rfl rfl ?_
  refine TL.off rfl rfl rfl ?_
  refine R.pkTE rfl rfl cA ?_
  refine R.asE rfl cA ?_
  refine nN ?_
  refine T.has Has.nil ?_
  refine T.ret ?_
  have hM : k_5e a0 = true := by rw [k_5e, if_pos g6]
  exact fin1L (v := .bool true) [] rfl rfl (List.Sublist.refl _) ⟨rfl, by first | rw [hM] | rfl⟩
 refine R.mvE rfl cA ?_
 refine R.callv rfl rfl rfl (k_a4 _ (a0)) ?_
 refine R.eql rfl rfl rfl ?_
 refine R.pkFE rfl rfl cA ?_
 refine R.asE rfl cA ?_
 refine nN ?_
 refine T.has Has.nil ?_
 refine T.ret ?_
 have hM : k_5e a0 = (decide (((k_7 a0) : Int) = 3)) := by rw [k_5e, if_neg g6]
 exact fin1L (v := .bool (decide (((k_7 a0) : Int) = 3))) [] rfl rfl (List.Sublist.refl _) ⟨rfl, by first | rw [hM] | rfl⟩
def k_5c (a0 : List Int) : List Int → Nat → Unit → LR (Bool) (Unit)
  | [], kl1, sl1 => .go ()
  | yl1 :: ysl1, kl1, sl1 => LR.seq (if (!(k_5e yl1)) = true then true else (if (0 : Int) < (kl1 : Int) then ((decide (yl1 ≤ (a0.getD ((((kl1 : Int) - 1)).toNat) (0 : Int))))) else false) : Bool) (fun sc2 => if sc2 = true then (.ret false) else (k_5c a0 ysl1 (kl1 + 1) ()))
def k_1c (a0 : List Int) : Bool :=
  LR.on (k_5c a0 a0 0 ()) (fun r => r) (fun ol1 => (decide ((a0.length : Int) ≤ 12)))
set_option maxHeartbeats 3200000 in
theorem windroseref03_Right_c (H : Heap) (va0 : Value) (a0 : List Int) (ha0 : RdS (intE .u64) H va0 a0) : Fv Tryz.prog (fnv 13) [va0] H (.bool (k_1c a0)) := by
 refine Fc.of_body (N := 32) Tryz.func13 rfl kA rfl rfl ?_
 intro w0
 obtain ⟨Aa0, ca0, rfl, hca0, hda0, ha0⟩ := ha0.shape
 refine sR ?_
 refine R.asE rfl cA ?_
 refine nN ?_
 refine T.seq ?_
 refine sR ?_
 refine R.mvE rfl cA ?_
 refine R.len Tryz.underlying30 rfl rfl ?_
 refine R.mvE rfl cA ?_
 refine nN ?_
 refine T.block ?_
 refine T.loop (ι := Nat) (fun kl1 H' L' ds' => kl1 ≤ a0.length ∧ Has L' [] ∧ k_5c a0 (a0.drop kl1) kl1 () = k_5c a0 a0 0 ()) (fun kl1 => [(7, .int .i64 (kl1 : Int)), (0, .slice Aa0 a0.length ca0), (5, .slice Aa0 a0.length ca0), (6, .int .i64 (a0.length : Int))]) (fun kl1 => a0.length - kl1) 0 ?_ ?_ ?_
 ·exact ⟨oA, Has.nil, (by rfl)⟩
 ·exact ⟨rfl, rfl, rfl, rfl, trivial⟩
 intro kl1 σ_l1 H_l1 L_l1 ds_l1 s_l1 hI_l1
 obtain ⟨hkl1, hI_l1⟩ := hI_l1
 obtain ⟨hLl1, hQl1⟩ := hI_l1
 refine T.has hLl1 ?_
 refine sR ?_
 refine R.lss rfl rfl rfl ?_
 refine nN ?_
 refine T.seq ?_
 refine T.condD rfl (fun c8 => ?_) (fun c8 => ?_)
 ·have hltl1 : kl1 < a0.length := by omega
  obtain ⟨yl1, hyl1⟩ := getk (xs := a0) (k := kl1) oA
  refine T.skip (Post.thnN ?_)
  refine T.seq ?_
  refine T.block ?_
  refine sR ?_
  refine R.mvE rfl cA ?_
  obtain ⟨b10, o10, i10, k10⟩ := RdS.elem (ha0.mono s_l1) hyl1
  obtain ⟨l10, g10, k10⟩ := k10
  obtain rfl : l10 = [.int .u64 yl1] := g10
  refine R.ixp Tryz.underlying30 Tryz.sizeOf43 rfl rfl rfl oA i10 ?_
  refine R.ldC Tryz.isAgg43 rfl rfl (k10 0 _ rfl) ?_
  refine R.asE rfl cA ?_
  refine R.asE rfl cA ?_
  refine nN ?_
  refine T.seq ?_
  refine T.cutK (ι := Bool) (fun b27c2 H' L' ds' => Has L' [] ∧ (if (!(k_5e yl1)) = true then true else (if (0 : Int) < (kl1 : Int) then ((decide (yl1 ≤ (a0.getD ((((kl1 : Int) - 1)).toNat) (0 : Int))))) else false) : Bool) = b27c2) (fun b27c2 => [(0, .slice Aa0 a0.length ca0), (5, .slice Aa0 a0.length ca0), (6, .int .i64 (a0.length : Int)), (7, .int .i64 (kl1 : Int)), (27, .bool (b27c2))]) ?_ ?_
  ·refine T.region ?_
   refine R.mvE rfl cA ?_
   refine R.callv rfl rfl rfl (windroseref03_May_c _ (yl1)) ?_
   refine R.not rfl rfl ?_
   refine R.mvE rfl cA ?_
   refine TL.gsplit 15 rfl (fun g15 => ?_) (fun g15 => ?_)
   ·refine TL.off rfl rfl rfl ?_
    refine TL.off rfl rfl rfl ?_
    refine TL.off rfl rfl rfl ?_
    refine TL.offU rfl rfl ?_
    refine TL.offU rfl rfl ?_
    refine TL.offU rfl rfl ?_
    refine TL.offU rfl rfl ?_
    refine TL.offU rfl rfl ?_
    refine TL.offU rfl rfl ?_
    refine TL.offU rfl rfl ?_
    refine TL.off rfl rfl rfl ?_
    refine R.pkTE rfl rfl cA ?_
    refine nN ?_
    exact ⟨true, HLe.refl _, ⟨Has.nil, (by rw [if_t g15])⟩, rfl, rfl, rfl, rfl, rfl, trivial⟩
   refine R.mvE rfl cA ?_
   refine R.gtr rfl rfl rfl ?_
   refine R.mvE rfl cA ?_
   refine TL.gsplitD 18 rfl (fun g18 => ?_) (fun g18 => ?_)
   ·refine R.mvE rfl cA ?_
    refine R.mvE rfl cA ?_
    refine R.subI rfl rfl rfl oA ?_
    have hl22 : (((kl1 : Int) - 1)).toNat < a0.length := bA
    obtain ⟨y22, e22, h22⟩ : ∃ y, y = (a0.getD ((((kl1 : Int) - 1)).toNat) (0 : Int)) ∧ a0[(((kl1 : Int) - 1)).toNat]? = some y := ⟨_, rfl, k_6 (by first | exact hl22 | simpa using hl22 | (simp only [List.length_set]; omega) | omega | (rw [(k_1 _).length_eq]; exact hl22))⟩
    obtain ⟨b22, o22, i22, k22⟩ := RdS.elem (ha0.mono s_l1) h22
    obtain ⟨l22, g22, k22⟩ := k22
    obtain rfl : l22 = [.int .u64 y22] := g22
    refine R.ixp Tryz.underlying30 Tryz.sizeOf43 rfl rfl rfl bA i22 ?_
    refine R.ldC Tryz.isAgg43 rfl rfl (k22 0 _ rfl) ?_
    refine R.mvE rfl cA ?_
    refine R.geq rfl rfl rfl ?_
    refine R.pkTE rfl rfl cA ?_
    refine R.pkFE rfl rfl cA ?_
    refine nN ?_
    exact ⟨(decide (yl1 ≤ y22)), HLe.refl _, ⟨Has.nil, (by subst e22; rw [if_f g15, if_pos g18])⟩, rfl, rfl, rfl, rfl, rfl, trivial⟩
   refine TL.off rfl rfl rfl ?_
   refine TL.off rfl rfl rfl ?_
   refine TL.off rfl rfl rfl ?_
   refine TL.off rfl rfl rfl ?_
   refine TL.off rfl rfl rfl ?_
   refine TL.off rfl rfl rfl ?_
   refine TL.off rfl rfl rfl ?_
   refine R.pkFE rfl rfl cA ?_
   refine R.pkFE rfl rfl cA ?_
   refine nN ?_
   exact ⟨false, HLe.refl _, ⟨Has.nil, (by rw [if_f g15, if_neg g18])⟩, rfl, rfl, rfl, rfl, rfl, trivial⟩
  intro b27c2 σ_c2 H_c2 L_c2 ds_c2 s_c2 hI_c2
  obtain ⟨hLc2, hTc2⟩ := hI_c2
  refine T.has hLc2 ?_
  refine T.cond rfl (fun c27 => ?_) (fun c27 => ?_)
  ·refine T.set 27 (.bool true) (congrArg Value.bool c27) ?_
   have hZ27 := hTc2.trans c27
   try simp only [or_f, or_t, k_bf, k_c0, decide_eq_true_eq, decide_eq_false_iff_not, Bool.not_eq_true'] at hZ27
   refine sR ?_
   refine R.asE rfl cA ?_
   refine nN ?_
   refine T.has Has.nil ?_
   refine T.ret (Post.blkR (Post.thnR (Post.thnR (Post.blkR (Post.thnR ?_)))))
   have hXl1 : k_5c a0 a0 0 () = .ret false := by rw [← hQl1, k_16 hyl1, k_5c]; rw [hTc2, LR.seq_go, if_t c27]
   have hM : k_1c a0 = false := by rw [k_1c, hXl1, LR.on_ret]
   exact fin1L (v := .bool false) [] rfl rfl (List.Sublist.refl _) ⟨rfl, by first | rw [hM] | rfl⟩
  refine T.set 27 (.bool false) (congrArg Value.bool c27) ?_
  have hZ27 := hTc2.trans c27
  try simp only [or_f, or_t, k_bf, k_c0, decide_eq_true_eq, decide_eq_false_iff_not, Bool.not_eq_true'] at hZ27
  refine T.skip (Post.blkN ?_)
  refine id (Post.thnN ?_)
  refine T.region ?_
  refine R.addI rfl rfl rfl oA ?_
  refine R.mvE rfl cA ?_
  refine nN ?_
  exact ⟨kl1 + 1, (s_l1.trans s_c2), ⟨oA, Has.nil, (by rw [← hQl1, k_16 hyl1, k_5c]; rw [hTc2, LR.seq_go, if_f c27])⟩, by show a0.length - (kl1 + 1) < a0.length - kl1; omega, rfl, rfl, rfl, rfl, trivial⟩
 refine T.exit (Post.thnE (Post.thnE (Post.blkX ?_)))
 have hEl1 : k_5c a0 a0 0 () = .go () := (hQl1.symm.trans (by rw [show kl1 = a0.length by omega, List.drop_length, k_5c]))
 refine id (Post.thnN ?_)
 refine sR ?_
 refine R.mvE rfl cA ?_
 refine R.len Tryz.underlying30 rfl rfl ?_
 refine R.leq rfl rfl rfl ?_
 refine R.asE rfl cA ?_
 refine nN ?_
 refine T.has Has.nil ?_
 refine T.ret ?_
 have hM : k_1c a0 = (decide ((a0.length : Int) ≤ 12)) := by rw [k_1c, hEl1, LR.on_go]
 exact fin1L (v := .bool (decide ((a0.length : Int) ≤ 12))) [] rfl rfl (List.Sublist.refl _) ⟨rfl, by first | rw [hM] | rfl⟩
def k_64 (a1 : List Int) : List Int → Nat → Unit → LR (Bool) (Unit)
  | [], kl1, sl1 => .go ()
  | yl1 :: ysl1, kl1, sl1 => if yl1 ≠ (a1.getD kl1 (0 : Int)) then (.ret false) else (k_64 a1 ysl1 (kl1 + 1) ())
def k_61 (a0 : List Int) (a1 : List Int) : Bool :=
  if (a0.length : Int) ≠ (a1.length : Int) then false else (LR.on (k_64 a1 a0 0 ()) (fun r => r) (fun ol1 => true))
set_option maxHeartbeats 3200000 in
theorem windroseref03_Same_c (H : Heap) (va0 : Value) (a0 : List Int) (ha0 : RdS (intE .u64) H va0 a0) (va1 : Value) (a1 : List Int) (ha1 : RdS (intE .u64) H va1 a1) : Fv Tryz.prog (fnv 29) [va0, va1] H (.bool (k_61 a0 a1)) := by
 refine Fc.of_body (N := 26) Tryz.func29 rfl kA rfl rfl ?_
 intro w0
 obtain ⟨Aa0, ca0, rfl, hca0, hda0, ha0⟩ := ha0.shape
 obtain ⟨Aa1, ca1, rfl, hca1, hda1, ha1⟩ := ha1.shape
 refine sR ?_
 refine R.asE rfl cA ?_
 refine nN ?_
 refine T.seq ?_
 refine sR ?_
 refine R.mvE rfl cA ?_
 refine R.len Tryz.underlying30 rfl rfl ?_
 refine R.mvE rfl cA ?_
 refine R.len Tryz.underlying30 rfl rfl ?_
 refine R.neq rfl rfl rfl ?_
 refine nN ?_
 refine T.condD rfl (fun c10 => ?_) (fun c10 => ?_)
 ·refine T.set 10 (.bool true) (congrArg Value.bool (decide_eq_true c10)) ?_
  refine sR ?_
  refine R.asE rfl cA ?_
  refine nN ?_
  refine T.has Has.nil ?_
  refine T.ret (Post.thnR ?_)
  have hM : k_61 a0 a1 = false := by rw [k_61, if_pos c10]
  exact fin1L (v := .bool false) [] rfl rfl (List.Sublist.refl _) ⟨rfl, by first | rw [hM] | rfl⟩
 refine T.set 10 (.bool false) (congrArg Value.bool (decide_eq_false c10)) ?_
 refine T.skip (Post.thnN ?_)
 refine T.seq ?_
 refine sR ?_
 refine R.mvE rfl cA ?_
 refine R.len Tryz.underlying30 rfl rfl ?_
 refine R.mvE rfl cA ?_
 refine nN ?_
 refine T.block ?_
 refine T.loop (ι := Nat) (fun kl1 H' L' ds' => kl1 ≤ a0.length ∧ Has L' [] ∧ k_64 a1 (a0.drop kl1) kl1 () = k_64 a1 a0 0 ()) (fun kl1 => [(13, .int .i64 (kl1 : Int)), (0, .slice Aa0 a0.length ca0), (1, .slice Aa1 a1.length ca1), (12, .int .i64 (a0.length : Int))]) (fun kl1 => a0.length - kl1) 0 ?_ ?_ ?_
 ·exact ⟨oA, Has.nil, (by rfl)⟩
 ·exact ⟨rfl, rfl, rfl, rfl, trivial⟩
 intro kl1 σ_l1 H_l1 L_l1 ds_l1 s_l1 hI_l1
 obtain ⟨hkl1, hI_l1⟩ := hI_l1
 obtain ⟨hLl1, hQl1⟩ := hI_l1
 refine T.has hLl1 ?_
 refine sR ?_
 refine R.lss rfl rfl rfl ?_
 refine nN ?_
 refine T.seq ?_
 refine T.condD rfl (fun c14 => ?_) (fun c14 => ?_)
 ·have hltl1 : kl1 < a0.length := by omega
  obtain ⟨yl1, hyl1⟩ := getk (xs := a0) (k := kl1) oA
  refine T.skip (Post.thnN ?_)
  refine T.seq ?_
  refine T.block ?_
  refine sR ?_
  refine R.mvE rfl cA ?_
  refine R.asE rfl cA ?_
  refine nN ?_
  refine T.seq ?_
  refine T.draw k_2b kA ?_
  refine vM 0 [1, 2, 3, 4, 5, 6, 7, 8] rfl rfl cA ?_
  refine vM 1 [2, 3, 4, 5, 6, 7, 8] rfl rfl cA ?_
  obtain ⟨b18, o18, i18, k18⟩ := RdS.elem (ha0.mono s_l1) hyl1
  obtain ⟨l18, g18, k18⟩ := k18
  obtain rfl : l18 = [.int .u64 yl1] := g18
  refine vA 2 [3, 4, 5, 6, 7, 8] rfl (fun _ _ h_ => R.ixp Tryz.underlying30 Tryz.sizeOf43 rfl rfl rfl oA i18 (TL.nil h_)) ?_
  refine vA 3 [4, 5, 6, 7, 8] rfl (fun _ _ h_ => R.ldC Tryz.isAgg43 rfl rfl (k18 0 _ rfl) (TL.nil h_)) ?_
  refine vM 4 [5, 6, 7, 8] rfl rfl cA ?_
  refine vM 5 [6, 7, 8] rfl rfl cA ?_
  have hl22 : kl1 < a1.length := bA
  obtain ⟨y22, e22, h22⟩ : ∃ y, y = (a1.getD kl1 (0 : Int)) ∧ a1[kl1]? = some y := ⟨_, rfl, k_6 (by first | exact hl22 | simpa using hl22 | (simp only [List.length_set]; omega) | omega | (rw [(k_1 _).length_eq]; exact hl22))⟩
  obtain ⟨b22, o22, i22, k22⟩ := RdS.elem (ha1.mono s_l1) h22
  obtain ⟨l22, g22, k22⟩ := k22
  obtain rfl : l22 = [.int .u64 y22] := g22
  refine vA 6 [7, 8] rfl (fun _ _ h_ => R.ixp Tryz.underlying30 Tryz.sizeOf43 rfl rfl rfl bA i22 (TL.nil h_)) ?_
  refine vA 7 [8] rfl (fun _ _ h_ => R.ldC Tryz.isAgg43 rfl rfl (k22 0 _ rfl) (TL.nil h_)) ?_
  refine vA 8 [] rfl (fun _ _ h_ => R.neq rfl rfl rfl (TL.nil h_)) ?_
  refine Plan.done (Post.thnN ?_)
  refine T.condD rfl (fun c24 => ?_) (fun c24 => ?_)
  ·refine T.set 24 (.bool true) (congrArg Value.bool (decide_eq_true c24)) ?_
   refine sR ?_
   refine R.asE rfl cA ?_
   refine nN ?_
   refine T.has Has.nil ?_
   refine T.ret (Post.blkR (Post.thnR (Post.thnR (Post.blkR (Post.thnR ?_)))))
   have hXl1 : k_64 a1 a0 0 () = .ret false := by subst e22; rw [← hQl1, k_16 hyl1, k_64]; rw [if_pos c24]
   have hM : k_61 a0 a1 = false := by rw [k_61, if_neg c10, hXl1, LR.on_ret]
   exact fin1L (v := .bool false) [] rfl rfl (List.Sublist.refl _) ⟨rfl, by first | rw [hM] | rfl⟩
  refine T.set 24 (.bool false) (congrArg Value.bool (decide_eq_false c24)) ?_
  refine T.skip (Post.blkN ?_)
  refine id (Post.thnN ?_)
  refine T.region ?_
  refine R.addI rfl rfl rfl oA ?_
  refine R.mvE rfl cA ?_
  refine nN ?_
  exact ⟨kl1 + 1, s_l1, ⟨oA, Has.nil, (by subst e22; rw [← hQl1, k_16 hyl1, k_64]; rw [if_neg c24])⟩, by show a0.length - (kl1 + 1) < a0.length - kl1; omega, rfl, rfl, rfl, rfl, trivial⟩
 refine T.exit (Post.thnE (Post.thnE (Post.blkX ?_)))
 have hEl1 : k_64 a1 a0 0 () = .go () := (hQl1.symm.trans (by rw [show kl1 = a0.length by omega, List.drop_length, k_64]))
 refine id (Post.thnN ?_)
 refine sR ?_
 refine R.asE rfl cA ?_
 refine nN ?_
 refine T.has Has.nil ?_
 refine T.ret ?_
 have hM : k_61 a0 a1 = true := by rw [k_61, if_neg c10, hEl1, LR.on_go]
 exact fin1L (v := .bool true) [] rfl rfl (List.Sublist.refl _) ⟨rfl, by first | rw [hM] | rfl⟩
def k_53 (a0 : (List (Int × (List Int)))) : List Int → Unit → LR (LR (Bool) (Unit)) (Unit)
  | [], sl4 => .go ()
  | yl4 :: ysl4, sl4 => LR.seq (k_8a a0 yl4) (fun r54 => LR.seq (if (!(k_1c r54)) = true then true else (LR.seq (k_21 r54) (fun r60 => LR.seq (k_50 a0 yl4) (fun r63 => (!(k_61 r60 r63))))) : Bool) (fun sc5 => if sc5 = true then (.ret (.ret false)) else (k_53 a0 ysl4 ())))
def k_52 (a0 : (List (Int × (List Int)))) : List (Int × (List Int)) → Unit → LR (Bool) (Unit)
  | [], sl3 => .go ()
  | yl3 :: ysl3, sl3 => LR.on (k_53 a0 yl3.2 ()) (fun r => r) (fun ol4 => k_52 a0 ysl3 ())
def k_5b (a0 : (List (Int × (List Int)))) : List (Int × (List Int)) → Nat → Unit → LR (Bool) (Unit)
  | [], kl1, sl1 => .go ()
  | yl1 :: ysl1, kl1, sl1 => LR.seq (if (!(k_2c yl1)) = true then true else (if (0 : Int) < (kl1 : Int) then ((decide (yl1.1 ≤ (a0.getD ((((kl1 : Int) - 1)).toNat) (((0, []) : Int × (List Int)) : Int × (List Int))).1))) else false) : Bool) (fun sc2 => if sc2 = true then (.ret false) else (k_5b a0 ysl1 (kl1 + 1) ()))
def k_15 (a0 : (List (Int × (List Int)))) : Bool :=
  LR.on (k_5b a0 a0 0 ()) (fun r => r) (fun ol1 => LR.on (k_52 a0 a0 ()) (fun r => r) (fun ol3 => true))
set_option maxHeartbeats 3200000 in
theorem windroseref14_Right_c (H : Heap) (a0 : (List (Int × (List Int)))) (va0_0 : Value) (ha0_0 : RdS listedE H va0_0 a0) (hl : a0.length ≤ 100000) : Fv Tryz.prog (fnv 7) [.agg #[va0_0]] H (.bool (k_15 a0)) := by
 refine Fc.of_body (N := 69) Tryz.func7 rfl kA rfl rfl ?_
 intro w0
 obtain ⟨Aa0_0, ca0_0, rfl, hca0_0, hda0_0, ha0_0⟩ := ha0_0.shape
 refine sR ?_
 refine R.box rfl cA ?_
 intro b1
 refine R.asE rfl cA ?_
 refine TL.shut .hd ?_
 intro Hb1_1 sb1_1 qb1_1
 have hb1_1 : Hb1_1 b1 = some (.cells #[.slice Aa0_0 a0.length ca0_0] 24) := shut1 qb1_1
 refine nN ?_
 refine T.seq ?_
 refine sR ?_
 refine R.fldA Tryz.underlying24 rfl Tryz.sizeOf22 (by decide) rfl rfl ?_
 refine R.ldH Tryz.isAgg22 rfl rfl hb1_1 rfl ?_
 refine R.len Tryz.underlying22 rfl rfl ?_
 refine R.mvE rfl cA ?_
 refine nN ?_
 refine T.block ?_
 refine T.loop (ι := Nat) (fun kl1 H' L' ds' => kl1 ≤ a0.length ∧ Has L' [] ∧ k_5b a0 (a0.drop kl1) kl1 () = k_5b a0 a0 0 ()) (fun kl1 => [(13, .int .i64 (kl1 : Int)), (1, .pointer (some ⟨b1, 0, none⟩)), (11, .slice Aa0_0 a0.length ca0_0), (12, .int .i64 (a0.length : Int))]) (fun kl1 => a0.length - kl1) 0 ?_ ?_ ?_
 ·exact ⟨oA, Has.nil, (by rfl)⟩
 ·exact ⟨rfl, rfl, rfl, rfl, trivial⟩
 intro kl1 σ_l1 H_l1 L_l1 ds_l1 s_l1 hI_l1
 obtain ⟨hkl1, hI_l1⟩ := hI_l1
 obtain ⟨hLl1, hQl1⟩ := hI_l1
 refine T.has hLl1 ?_
 refine sR ?_
 refine R.lss rfl rfl rfl ?_
 refine nN ?_
 refine T.seq ?_
 refine T.condD rfl (fun c14 => ?_) (fun c14 => ?_)
 ·have hltl1 : kl1 < a0.length := by omega
  obtain ⟨yl1, hyl1⟩ := getk (xs := a0) (k := kl1) oA
  refine T.skip (Post.thnN ?_)
  refine T.seq ?_
  refine T.block ?_
  refine sR ?_
  refine R.mvE rfl cA ?_
  obtain ⟨b16, o16, i16, k16⟩ := RdS.elem (ha0_0.mono (sb1_1.trans s_l1)) hyl1
  obtain ⟨l16, g16, k16⟩ := k16
  obtain ⟨z16_1, rfl, r16_1⟩ := g16
  obtain ⟨A16_1, p16_1, rfl, m16_1, n16_1, r16_1⟩ := r16_1.shape
  refine R.ixp Tryz.underlying22 Tryz.sizeOf45 rfl rfl rfl oA i16 ?_
  refine R.ldK (l := [.int .u64 (yl1.1), .slice A16_1 yl1.2.length p16_1]) Tryz.isAgg45 Tryz.sizeOf45 rfl rfl k16 rfl ?_
  refine R.alloc Tryz.zeroValue45 rfl ?_
  intro b4
  refine R.asE rfl cA ?_
  refine R.stX (old := [.int .u64 0, .slice none 0 0]) (l := [.int .u64 (yl1.1), .slice A16_1 yl1.2.length p16_1]) (new := [.int .u64 (yl1.1), .slice A16_1 yl1.2.length p16_1]) (et := 45) Tryz.sizeOf45 rfl rfl rfl rfl rfl (by show 0 + 2 ≤ 2; decide) rfl (k_20 rfl) .hd ?_
  refine TL.shut .hd ?_
  intro Hb4_2 sb4_2 qb4_2
  have hb4_2 : Hb4_2 b4 = some (.cells #[.int .u64 (yl1.1), .slice A16_1 yl1.2.length p16_1] 45) := shut1 qb4_2
  refine nN ?_
  refine T.seq ?_
  refine T.cutK (ι := Bool) (fun b36c2 H' L' ds' => Has L' [] ∧ (if (!(k_2c yl1)) = true then true else (if (0 : Int) < (kl1 : Int) then ((decide (yl1.1 ≤ (a0.getD ((((kl1 : Int) - 1)).toNat) (((0, []) : Int × (List Int)) : Int × (List Int))).1))) else false) : Bool) = b36c2) (fun b36c2 => [(1, .pointer (some ⟨b1, 0, none⟩)), (11, .slice Aa0_0 a0.length ca0_0), (12, .int .i64 (a0.length : Int)), (13, .int .i64 (kl1 : Int)), (36, .bool (b36c2))]) ?_ ?_
  ·refine T.draw k_2b kA ?_
   refine vA 0 [1, 2, 3, 4, 5, 6, 7, 8, 9, 10, 11, 12, 13, 14, 15, 16, 17, 18] rfl (fun _ _ h_ => R.ldXH (cs := [.int .u64 (yl1.1), .slice A16_1 yl1.2.length p16_1]) (l := [.int .u64 (yl1.1), .slice A16_1 yl1.2.length p16_1]) Tryz.isAgg45 Tryz.sizeOf45 rfl rfl hb4_2 rfl rfl (TL.nil h_)) ?_
   refine vA 1 [2, 3, 4, 5, 6, 7, 8, 9, 10, 11, 12, 13, 14, 15, 16, 17, 18] rfl (fun _ _ h_ => R.callv rfl rfl rfl (windroseref14_row_c _ yl1 _ (r16_1.mono sb4_2)) (TL.nil h_)) ?_
   refine vA 2 [3, 4, 5, 6, 7, 8, 9, 10, 11, 12, 13, 14, 15, 16, 17, 18] rfl (fun _ _ h_ => R.not rfl rfl (TL.nil h_)) ?_
   refine vM 3 [4, 5, 6, 7, 8, 9, 10, 11, 12, 13, 14, 15, 16, 17, 18] rfl rfl cA ?_
   refine Plan.gsplit 21 rfl (fun g21 => ?_) (fun g21 => ?_)
   ·refine vO 4 [5, 6, 7, 8, 9, 10, 11, 12, 13, 14, 15, 16, 17, 18] rfl rfl rfl rfl ?_
    refine vO 5 [6, 7, 8, 9, 10, 11, 12, 13, 14, 15, 16, 17, 18] rfl rfl rfl rfl ?_
    refine vO 6 [7, 8, 9, 10, 11, 12, 13, 14, 15, 16, 17, 18] rfl rfl rfl rfl ?_
    refine vA 7 [8, 9, 10, 11, 12, 13, 14, 15, 16, 17, 18] rfl (fun _ _ h_ => TL.offU rfl rfl (TL.nil h_)) ?_
    refine vA 8 [9, 10, 11, 12, 13, 14, 15, 16, 17, 18] rfl (fun _ _ h_ => TL.offU rfl rfl (TL.nil h_)) ?_
    refine vA 9 [10, 11, 12, 13, 14, 15, 16, 17, 18] rfl (fun _ _ h_ => TL.offU rfl rfl (TL.nil h_)) ?_
    refine vA 10 [11, 12, 13, 14, 15, 16, 17, 18] rfl (fun _ _ h_ => TL.offU rfl rfl (TL.nil h_)) ?_
    refine vA 11 [12, 13, 14, 15, 16, 17, 18] rfl (fun _ _ h_ => TL.offU rfl rfl (TL.nil h_)) ?_
    refine vA 12 [13, 14, 15, 16, 17, 18] rfl (fun _ _ h_ => TL.offU rfl rfl (TL.nil h_)) ?_
    refine vA 13 [14, 15, 16, 17, 18] rfl (fun _ _ h_ => TL.offU rfl rfl (TL.nil h_)) ?_
    refine vA 14 [15, 16, 17, 18] rfl (fun _ _ h_ => TL.offU rfl rfl (TL.nil h_)) ?_
    refine vA 15 [16, 17, 18] rfl (fun _ _ h_ => TL.offU rfl rfl (TL.nil h_)) ?_
    refine vA 16 [17, 18] rfl (fun _ _ h_ => TL.offU rfl rfl (TL.nil h_)) ?_
    refine vO 17 [18] rfl rfl rfl rfl ?_
    refine vA 18 [] rfl (fun _ _ h_ => R.pkTE rfl rfl cA (TL.nil h_)) ?_
    refine Plan.done (Post.thnN ?_)
    exact ⟨true, HLe.refl _, ⟨Has.nil, (by rw [if_t g21])⟩, rfl, rfl, rfl, rfl, rfl, trivial⟩
   refine vM 4 [5, 6, 7, 8, 9, 10, 11, 12, 13, 14, 15, 16, 17, 18] rfl rfl cA ?_
   refine vA 5 [6, 7, 8, 9, 10, 11, 12, 13, 14, 15, 16, 17, 18] rfl (fun _ _ h_ => R.gtr rfl rfl rfl (TL.nil h_)) ?_
   refine vM 6 [7, 8, 9, 10, 11, 12, 13, 14, 15, 16, 17, 18] rfl rfl cA ?_
   refine Plan.gsplitD 24 rfl (fun g24 => ?_) (fun g24 => ?_)
   ·refine vA 7 [8, 9, 10, 11, 12, 13, 14, 15, 16, 17, 18] rfl (fun _ _ h_ => R.fldA Tryz.underlying24 rfl Tryz.sizeOf22 (by decide) rfl rfl (TL.nil h_)) ?_
    refine vA 8 [9, 10, 11, 12, 13, 14, 15, 16, 17, 18] rfl (fun _ _ h_ => R.ldH Tryz.isAgg22 rfl rfl ((s_l1.trans sb4_2) _ _ hb1_1) rfl (TL.nil h_)) ?_
    refine vM 9 [10, 11, 12, 13, 14, 15, 16, 17, 18] rfl rfl cA ?_
    refine vA 10 [11, 12, 13, 14, 15, 16, 17, 18] rfl (fun _ _ h_ => R.subI rfl rfl rfl oA (TL.nil h_)) ?_
    have hl29 : (((kl1 : Int) - 1)).toNat < a0.length := bA
    obtain ⟨y29, e29, h29⟩ : ∃ y, y = (a0.getD ((((kl1 : Int) - 1)).toNat) (((0, []) : Int × (List Int)) : Int × (List Int))) ∧ a0[(((kl1 : Int) - 1)).toNat]? = some y := ⟨_, rfl, k_6 (by first | exact hl29 | simpa using hl29 | (simp only [List.length_set]; omega) | omega | (rw [(k_1 _).length_eq]; exact hl29))⟩
    obtain ⟨b29, o29, i29, k29⟩ := RdS.elem (ha0_0.mono (sb1_1.trans (s_l1.trans sb4_2))) h29
    obtain ⟨l29, g29, k29⟩ := k29
    obtain ⟨z29_1, rfl, r29_1⟩ := g29
    obtain ⟨A29_1, p29_1, rfl, m29_1, n29_1, r29_1⟩ := r29_1.shape
    refine vA 11 [12, 13, 14, 15, 16, 17, 18] rfl (fun _ _ h_ => R.ixp Tryz.underlying22 Tryz.sizeOf45 rfl rfl rfl bA i29 (TL.nil h_)) ?_
    refine vA 12 [13, 14, 15, 16, 17, 18] rfl (fun _ _ h_ => R.fldA Tryz.underlying45 rfl Tryz.sizeOf43 (by decide) rfl rfl (TL.nil h_)) ?_
    refine vA 13 [14, 15, 16, 17, 18] rfl (fun _ _ h_ => R.ldC Tryz.isAgg43 rfl rfl (k29 0 _ rfl) (TL.nil h_)) ?_
    refine vA 14 [15, 16, 17, 18] rfl (fun _ _ h_ => R.fldA Tryz.underlying45 rfl Tryz.sizeOf43 (by decide) rfl rfl (TL.nil h_)) ?_
    refine vA 15 [16, 17, 18] rfl (fun _ _ h_ => R.ldH Tryz.isAgg43 rfl rfl hb4_2 rfl (TL.nil h_)) ?_
    refine vA 16 [17, 18] rfl (fun _ _ h_ => R.geq rfl rfl rfl (TL.nil h_)) ?_
    refine vA 17 [18] rfl (fun _ _ h_ => R.pkTE rfl rfl cA (TL.nil h_)) ?_
    refine vA 18 [] rfl (fun _ _ h_ => R.pkFE rfl rfl cA (TL.nil h_)) ?_
    refine Plan.done (Post.thnN ?_)
    exact ⟨(decide (yl1.1 ≤ y29.1)), HLe.refl _, ⟨Has.nil, (by subst e29; rw [if_f g21, if_pos g24])⟩, rfl, rfl, rfl, rfl, rfl, trivial⟩
   refine vO 7 [8, 9, 10, 11, 12, 13, 14, 15, 16, 17, 18] rfl rfl rfl rfl ?_
   refine vO 8 [9, 10, 11, 12, 13, 14, 15, 16, 17, 18] rfl rfl rfl rfl ?_
   refine vO 9 [10, 11, 12, 13, 14, 15, 16, 17, 18] rfl rfl rfl rfl ?_
   refine vO 10 [11, 12, 13, 14, 15, 16, 17, 18] rfl rfl rfl rfl ?_
   refine vO 11 [12, 13, 14, 15, 16, 17, 18] rfl rfl rfl rfl ?_
   refine vO 12 [13, 14, 15, 16, 17, 18] rfl rfl rfl rfl ?_
   refine vO 13 [14, 15, 16, 17, 18] rfl rfl rfl rfl ?_
   refine vO 14 [15, 16, 17, 18] rfl rfl rfl rfl ?_
   refine vO 15 [16, 17, 18] rfl rfl rfl rfl ?_
   refine vO 16 [17, 18] rfl rfl rfl rfl ?_
   refine vA 17 [18] rfl (fun _ _ h_ => R.pkFE rfl rfl cA (TL.nil h_)) ?_
   refine vA 18 [] rfl (fun _ _ h_ => R.pkFE rfl rfl cA (TL.nil h_)) ?_
   refine Plan.done (Post.thnN ?_)
   exact ⟨false, HLe.refl _, ⟨Has.nil, (by rw [if_f g21, if_neg g24])⟩, rfl, rfl, rfl, rfl, rfl, trivial⟩
  intro b36c2 σ_c2 H_c2 L_c2 ds_c2 s_c2 hI_c2
  obtain ⟨hLc2, hTc2⟩ := hI_c2
  refine T.has hLc2 ?_
  refine T.cond rfl (fun c36 => ?_) (fun c36 => ?_)
  ·refine T.set 36 (.bool true) (congrArg Value.bool c36) ?_
   have hZ36 := hTc2.trans c36
   try simp only [or_f, or_t, k_bf, k_c0, decide_eq_true_eq, decide_eq_false_iff_not, Bool.not_eq_true'] at hZ36
   refine sR ?_
   refine R.asE rfl cA ?_
   refine nN ?_
   refine T.has Has.nil ?_
   refine T.ret (Post.blkR (Post.thnR (Post.thnR (Post.blkR (Post.thnR ?_)))))
   have hXl1 : k_5b a0 a0 0 () = .ret false := by rw [← hQl1, k_16 hyl1, k_5b]; rw [hTc2, LR.seq_go, if_t c36]
   have hM : k_15 a0 = false := by rw [k_15, hXl1, LR.on_ret]
   exact fin1L (v := .bool false) [] rfl rfl (List.Sublist.refl _) ⟨rfl, by first | rw [hM] | rfl⟩
  refine T.set 36 (.bool false) (congrArg Value.bool c36) ?_
  have hZ36 := hTc2.trans c36
  try simp only [or_f, or_t, k_bf, k_c0, decide_eq_true_eq, decide_eq_false_iff_not, Bool.not_eq_true'] at hZ36
  refine T.skip (Post.blkN ?_)
  refine id (Post.thnN ?_)
  refine T.region ?_
  refine R.addI rfl rfl rfl oA ?_
  refine R.mvE rfl cA ?_
  refine nN ?_
  exact ⟨kl1 + 1, (s_l1.trans (sb4_2.trans s_c2)), ⟨oA, Has.nil, (by rw [← hQl1, k_16 hyl1, k_5b]; rw [hTc2, LR.seq_go, if_f c36])⟩, by show a0.length - (kl1 + 1) < a0.length - kl1; omega, rfl, rfl, rfl, rfl, trivial⟩
 refine T.exit (Post.thnE (Post.thnE (Post.blkX ?_)))
 have hEl1 : k_5b a0 a0 0 () = .go () := (hQl1.symm.trans (by rw [show kl1 = a0.length by omega, List.drop_length, k_5b]))
 refine id (Post.thnN ?_)
 refine T.seq ?_
 refine sR ?_
 refine R.fldA Tryz.underlying24 rfl Tryz.sizeOf22 (by decide) rfl rfl ?_
 refine R.ldH Tryz.isAgg22 rfl rfl (s_l1 _ _ hb1_1) rfl ?_
 refine R.len Tryz.underlying22 rfl rfl ?_
 refine R.mvE rfl cA ?_
 refine nN ?_
 refine T.block ?_
 refine T.loop (ι := Nat) (fun kl3 H' L' ds' => kl3 ≤ a0.length ∧ Has L' [] ∧ k_52 a0 (a0.drop kl3) () = k_52 a0 a0 ()) (fun kl3 => [(41, .int .i64 (kl3 : Int)), (1, .pointer (some ⟨b1, 0, none⟩)), (39, .slice Aa0_0 a0.length ca0_0), (40, .int .i64 (a0.length : Int))]) (fun kl3 => a0.length - kl3) 0 ?_ ?_ ?_
 ·exact ⟨oA, Has.nil, (by rfl)⟩
 ·exact ⟨rfl, rfl, rfl, rfl, trivial⟩
 intro kl3 σ_l3 H_l3 L_l3 ds_l3 s_l3 hI_l3
 obtain ⟨hkl3, hI_l3⟩ := hI_l3
 obtain ⟨hLl3, hQl3⟩ := hI_l3
 refine T.has hLl3 ?_
 refine sR ?_
 refine R.lss rfl rfl rfl ?_
 refine nN ?_
 refine T.seq ?_
 refine T.condD rfl (fun c42 => ?_) (fun c42 => ?_)
 ·have hltl3 : kl3 < a0.length := by omega
  obtain ⟨yl3, hyl3⟩ := getk (xs := a0) (k := kl3) oA
  refine T.skip (Post.thnN ?_)
  refine T.seq ?_
  refine T.block ?_
  refine sR ?_
  obtain ⟨b43, o43, i43, k43⟩ := RdS.elem (ha0_0.mono (sb1_1.trans (s_l1.trans s_l3))) hyl3
  obtain ⟨l43, g43, k43⟩ := k43
  obtain ⟨z43_1, rfl, r43_1⟩ := g43
  obtain ⟨A43_1, p43_1, rfl, m43_1, n43_1, r43_1⟩ := r43_1.shape
  refine R.ixp Tryz.underlying22 Tryz.sizeOf45 rfl rfl rfl oA i43 ?_
  refine R.ldK (l := [.int .u64 (yl3.1), .slice A43_1 yl3.2.length p43_1]) Tryz.isAgg45 Tryz.sizeOf45 rfl rfl k43 rfl ?_
  refine R.alloc Tryz.zeroValue45 rfl ?_
  intro b6
  refine R.stX (old := [.int .u64 0, .slice none 0 0]) (l := [.int .u64 (yl3.1), .slice A43_1 yl3.2.length p43_1]) (new := [.int .u64 (yl3.1), .slice A43_1 yl3.2.length p43_1]) (et := 45) Tryz.sizeOf45 rfl rfl rfl rfl rfl (by show 0 + 2 ≤ 2; decide) rfl (k_20 rfl) .hd ?_
  refine TL.shut .hd ?_
  intro Hb6_3 sb6_3 qb6_3
  have hb6_3 : Hb6_3 b6 = some (.cells #[.int .u64 (yl3.1), .slice A43_1 yl3.2.length p43_1] 45) := shut1 qb6_3
  refine nN ?_
  refine sR ?_
  refine R.fldA Tryz.underlying45 rfl Tryz.sizeOf25 (by decide) rfl rfl ?_
  refine R.ldH Tryz.isAgg25 rfl rfl hb6_3 rfl ?_
  refine R.len Tryz.underlying25 rfl rfl ?_
  refine R.mvE rfl cA ?_
  refine nN ?_
  refine T.block ?_
  refine T.loop (ι := Nat) (fun kl4 H' L' ds' => kl4 ≤ yl3.2.length ∧ Has L' [] ∧ k_53 a0 (yl3.2.drop kl4) () = k_53 a0 yl3.2 ()) (fun kl4 => [(48, .int .i64 (kl4 : Int)), (1, .pointer (some ⟨b1, 0, none⟩)), (39, .slice Aa0_0 a0.length ca0_0), (40, .int .i64 (a0.length : Int)), (41, .int .i64 (kl3 : Int)), (46, .slice A43_1 yl3.2.length p43_1), (47, .int .i64 (yl3.2.length : Int))]) (fun kl4 => yl3.2.length - kl4) 0 ?_ ?_ ?_
  ·exact ⟨oA, Has.nil, (by rfl)⟩
  ·exact ⟨rfl, rfl, rfl, rfl, rfl, rfl, rfl, trivial⟩
  intro kl4 σ_l4 H_l4 L_l4 ds_l4 s_l4 hI_l4
  obtain ⟨hkl4, hI_l4⟩ := hI_l4
  obtain ⟨hLl4, hQl4⟩ := hI_l4
  refine T.has hLl4 ?_
  refine sR ?_
  refine R.lss rfl rfl rfl ?_
  refine nN ?_
  refine T.seq ?_
  refine T.condD rfl (fun c49 => ?_) (fun c49 => ?_)
  ·have hltl4 : kl4 < yl3.2.length := by omega
   obtain ⟨yl4, hyl4⟩ := getk (xs := yl3.2) (k := kl4) oA
   refine T.skip (Post.thnN ?_)
   refine T.seq ?_
   refine T.block ?_
   refine sR ?_
   obtain ⟨b50, o50, i50, k50⟩ := RdS.elem (r43_1.mono (sb6_3.trans s_l4)) hyl4
   obtain ⟨l50, g50, k50⟩ := k50
   obtain rfl : l50 = [.int .i64 yl4] := g50
   refine R.ixp Tryz.underlying25 Tryz.sizeOf3 rfl rfl rfl oA i50 ?_
   refine R.ldC Tryz.isAgg3 rfl rfl (k50 0 _ rfl) ?_
   refine R.asE rfl cA ?_
   refine nN ?_
   refine sR ?_
   refine R.ldXH (cs := [.slice Aa0_0 a0.length ca0_0]) (l := [.slice Aa0_0 a0.length ca0_0]) Tryz.isAgg24 Tryz.sizeOf24 rfl rfl ((s_l1.trans (s_l3.trans (sb6_3.trans s_l4))) _ _ hb1_1) rfl rfl ?_
   refine R.mvE rfl cA ?_
   obtain ⟨r54, er54⟩ : ∃ r, r = (k_8a a0 yl4) := ⟨_, rfl⟩
   refine TL.call [] rfl rfl rfl (windroseref14_Type_c _ a0 _ (ha0_0.mono (sb1_1.trans (s_l1.trans (s_l3.trans (sb6_3.trans s_l4))))) (yl4) bA) ?_
   intro v54 H54 L54 s54 q54
   rw [← er54] at q54
   obtain ⟨u54_0_0, c54_0_0, rfl, rfl, w54_0_0⟩ := q54
   obtain ⟨A54_0_0, p54_0_0, rfl, m54_0_0, n54_0_0⟩ := OwnS.shape w54_0_0
   have trt54 := rtype_len _ _ _ er54
   refine R.asE rfl cA ?_
   refine nN ?_
   refine T.seq ?_
   refine T.cutK (ι := Bool) (fun b66c5 H' L' ds' => Has L' [] ∧ (if (!(k_1c r54)) = true then true else (LR.seq (k_21 r54) (fun r60 => LR.seq (k_50 a0 yl4) (fun r63 => (!(k_61 r60 r63))))) : Bool) = b66c5) (fun b66c5 => [(1, .pointer (some ⟨b1, 0, none⟩)), (39, .slice Aa0_0 a0.length ca0_0), (40, .int .i64 (a0.length : Int)), (41, .int .i64 (kl3 : Int)), (46, .slice A43_1 yl3.2.length p43_1), (47, .int .i64 (yl3.2.length : Int)), (48, .int .i64 (kl4 : Int)), (66, .bool (b66c5))]) ?_ ?_
   ·refine T.draw k_2b kA ?_
    refine vM 0 [1, 2, 3, 4, 5, 6, 7, 8, 9, 10, 11] rfl rfl cA ?_
    refine Plan.s1 1 [2, 3, 4, 5, 6, 7, 8, 9, 10, 11] kA kA rfl ?_
    refine TL.shut .hd ?_
    intro HF54_0_0_5 sF54_0_0_5 qF54_0_0_5
    have fF54_0_0_5 := OwnS.read w54_0_0 sF54_0_0_5 qF54_0_0_5
    refine R.callv rfl rfl rfl (windroseref03_Right_c _ _ r54 fF54_0_0_5) ?_
    refine TL.nil (Plan.e1 (sF54_0_0_5) ?_)
    refine vA 2 [3, 4, 5, 6, 7, 8, 9, 10, 11] rfl (fun _ _ h_ => R.not rfl rfl (TL.nil h_)) ?_
    refine vM 3 [4, 5, 6, 7, 8, 9, 10, 11] rfl rfl cA ?_
    refine Plan.gsplit 58 rfl (fun g58 => ?_) (fun g58 => ?_)
    ·refine vO 4 [5, 6, 7, 8, 9, 10, 11] rfl rfl rfl rfl ?_
     refine vO 5 [6, 7, 8, 9, 10, 11] rfl rfl rfl rfl ?_
     refine vO 6 [7, 8, 9, 10, 11] rfl rfl rfl rfl ?_
     refine vO 7 [8, 9, 10, 11] rfl rfl rfl rfl ?_
     refine vO 8 [9, 10, 11] rfl rfl rfl rfl ?_
     refine vO 9 [10, 11] rfl rfl rfl rfl ?_
     refine vO 10 [11] rfl rfl rfl rfl ?_
     refine vA 11 [] rfl (fun _ _ h_ => R.pkTE rfl rfl cA (TL.nil h_)) ?_
     refine Plan.done (Post.thnN ?_)
     exact ⟨true, sF54_0_0_5, ⟨Has.nil, (by rw [if_t g58])⟩, rfl, rfl, rfl, rfl, rfl, rfl, rfl, rfl, trivial⟩
    refine vM 4 [5, 6, 7, 8, 9, 10, 11] rfl rfl cA ?_
    refine vA 6 [5, 7, 8, 9, 10, 11] rfl (fun _ _ h_ => R.ldXH (cs := [.slice Aa0_0 a0.length ca0_0]) (l := [.slice Aa0_0 a0.length ca0_0]) Tryz.isAgg24 Tryz.sizeOf24 rfl rfl ((s_l1.trans (s_l3.trans (sb6_3.trans (s_l4.trans (s54.trans sF54_0_0_5))))) _ _ hb1_1) rfl rfl (TL.nil h_)) ?_
    refine vM 7 [5, 8, 9, 10, 11] rfl rfl cA ?_
    refine Plan.s1 5 [8, 9, 10, 11] kA kA rfl ?_
    obtain ⟨r60, er60⟩ : ∃ r, r = (k_21 r54) := ⟨_, rfl⟩
    refine R.callp rfl rfl rfl (k_cd _ _ r54 fF54_0_0_5 bA) ?_
    intro v60 H60 s60 q60
    rw [← er60] at q60
    obtain ⟨u60_0_0, rfl, w60_0_0⟩ := q60
    obtain ⟨A60_0_0, p60_0_0, rfl, m60_0_0, n60_0_0, w60_0_0⟩ := RdS.shape w60_0_0
    have trk60 := rkeys_len _ _ er60
    refine TL.nil (Plan.e1 (s60) ?_)
    refine Plan.s1 8 [9, 10, 11] kA kA rfl ?_
    obtain ⟨r63, er63⟩ : ∃ r, r = (k_50 a0 yl4) := ⟨_, rfl⟩
    refine TL.call [] rfl rfl rfl (windroseref14_In_c _ a0 _ (ha0_0.mono (sb1_1.trans (s_l1.trans (s_l3.trans (sb6_3.trans (s_l4.trans (s54.trans (sF54_0_0_5.trans s60)))))))) (yl4) bA) ?_
    intro v63 H63 L63 s63 q63
    rw [← er63] at q63
    obtain ⟨u63_0_0, c63_0_0, rfl, rfl, w63_0_0⟩ := q63
    obtain ⟨A63_0_0, p63_0_0, rfl, m63_0_0, n63_0_0⟩ := OwnS.shape w63_0_0
    refine TL.nil (Plan.e1 (s63) ?_)
    refine Plan.s1 9 [10, 11] kA kA rfl ?_
    refine TL.shut .hd ?_
    intro HF63_0_0_7 sF63_0_0_7 qF63_0_0_7
    have fF63_0_0_7 := OwnS.read w63_0_0 sF63_0_0_7 qF63_0_0_7
    refine R.callv rfl rfl rfl (windroseref03_Same_c _ _ r60 (w60_0_0.mono (s63.trans sF63_0_0_7)) _ r63 fF63_0_0_7) ?_
    refine TL.nil (Plan.e1 (sF63_0_0_7) ?_)
    refine vA 10 [11] rfl (fun _ _ h_ => R.not rfl rfl (TL.nil h_)) ?_
    refine vA 11 [] rfl (fun _ _ h_ => R.pkFE rfl rfl cA (TL.nil h_)) ?_
    refine Plan.done (Post.thnN ?_)
    exact ⟨(!(k_61 r60 r63)), (sF54_0_0_5.trans (s60.trans (s63.trans sF63_0_0_7))), ⟨Has.nil, (by subst er63; subst er60; rw [if_f g58, LR.seq_go, LR.seq_go])⟩, rfl, rfl, rfl, rfl, rfl, rfl, rfl, rfl, trivial⟩
   intro b66c5 σ_c5 H_c5 L_c5 ds_c5 s_c5 hI_c5
   obtain ⟨hLc5, hTc5⟩ := hI_c5
   refine T.has hLc5 ?_
   refine T.cond rfl (fun c66 => ?_) (fun c66 => ?_)
   ·refine T.set 66 (.bool true) (congrArg Value.bool c66) ?_
    have hZ66 := hTc5.trans c66
    try simp only [or_f, or_t, k_bf, k_c0, decide_eq_true_eq, decide_eq_false_iff_not, Bool.not_eq_true'] at hZ66
    refine sR ?_
    refine R.asE rfl cA ?_
    refine nN ?_
    refine T.has Has.nil ?_
    refine T.ret (Post.blkR (Post.thnR (Post.thnR (Post.blkR (Post.blkR (Post.thnR (Post.thnR (Post.blkR (Post.thnR ?_)))))))))
    have hXl4 : k_53 a0 yl3.2 () = .ret (.ret false) := by subst er54; rw [← hQl4, k_16 hyl4, k_53]; rw [LR.seq_go, hTc5, LR.seq_go, if_t c66]
    have hXl3 : k_52 a0 a0 () = .ret false := by rw [← hQl3, k_16 hyl3, k_52]; rw [hXl4, LR.on_ret]
    have hM : k_15 a0 = false := by rw [k_15, hEl1, LR.on_go, hXl3, LR.on_ret]
    exact fin1L (v := .bool false) [] rfl rfl (List.Sublist.refl _) ⟨rfl, by first | rw [hM] | rfl⟩
   refine T.set 66 (.bool false) (congrArg Value.bool c66) ?_
   have hZ66 := hTc5.trans c66
   try simp only [or_f, or_t, k_bf, k_c0, decide_eq_true_eq, decide_eq_false_iff_not, Bool.not_eq_true'] at hZ66
   refine T.skip (Post.blkN ?_)
   refine id (Post.thnN ?_)
   refine T.region ?_
   refine R.addI rfl rfl rfl oA ?_
   refine R.mvE rfl cA ?_
   refine nN ?_
   exact ⟨kl4 + 1, (s_l4.trans (s54.trans s_c5)), ⟨oA, Has.nil, (by subst er54; rw [← hQl4, k_16 hyl4, k_53]; rw [LR.seq_go, hTc5, LR.seq_go, if_f c66])⟩, by show yl3.2.length - (kl4 + 1) < yl3.2.length - kl4; omega, rfl, rfl, rfl, rfl, rfl, rfl, rfl, trivial⟩
  refine T.exit (Post.thnE (Post.thnE (Post.blkX ?_)))
  have hEl4 : k_53 a0 yl3.2 () = .go () := (hQl4.symm.trans (by rw [show kl4 = yl3.2.length by omega, List.drop_length, k_53]))
  refine id (Post.blkN ?_)
  refine id (Post.thnN ?_)
  refine T.region ?_
  refine R.addI rfl rfl rfl oA ?_
  refine R.mvE rfl cA ?_
  refine nN ?_
  exact ⟨kl3 + 1, (s_l3.trans (sb6_3.trans s_l4)), ⟨oA, Has.nil, (by rw [← hQl3, k_16 hyl3, k_52]; rw [hEl4, LR.on_go])⟩, by show a0.length - (kl3 + 1) < a0.length - kl3; omega, rfl, rfl, rfl, rfl, trivial⟩
 refine T.exit (Post.thnE (Post.thnE (Post.blkX ?_)))
 have hEl3 : k_52 a0 a0 () = .go () := (hQl3.symm.trans (by rw [show kl3 = a0.length by omega, List.drop_length, k_52]))
 refine id (Post.thnN ?_)
 refine sR ?_
 refine R.asE rfl cA ?_
 refine nN ?_
 refine T.has Has.nil ?_
 refine T.ret ?_
 have hM : k_15 a0 = true := by rw [k_15, hEl1, LR.on_go, hEl3, LR.on_go]
 exact fin1L (v := .bool true) [] rfl rfl (List.Sublist.refl _) ⟨rfl, by first | rw [hM] | rfl⟩
def k_4f (a1 : Int) : List (Int × (List Int)) → Unit → LR ((List Int)) (Unit)
  | [], sl1 => .go ()
  | yl1 :: ysl1, sl1 => if yl1.1 = a1 then (.ret yl1.2) else (k_4f a1 ysl1 ())
def k_81 (a0 : (List (Int × (List Int)))) (a1 : Int) : (List Int) :=
  LR.on (k_4f a1 a0 ()) (fun r => r) (fun ol1 => [])
set_option maxHeartbeats 3200000 in
theorem windroseref14_Find_c (H : Heap) (a0 : (List (Int × (List Int)))) (va0_0 : Value) (ha0_0 : RdS listedE H va0_0 a0) (a1 : Int) : Fp Tryz.prog (fnv 45) [.agg #[va0_0], .int .u64 a1] H (fun v' H' => ∃ u0_0, v' = u0_0 ∧ RdS (intE .i64) H' u0_0 (k_81 a0 a1)) := by
 refine Fc.of_body (N := 21) Tryz.func45 rfl kA rfl rfl ?_
 intro w0
 obtain ⟨Aa0_0, ca0_0, rfl, hca0_0, hda0_0, ha0_0⟩ := ha0_0.shape
 refine sR ?_
 refine R.box rfl cA ?_
 intro b2
 refine R.asE rfl cA ?_
 refine TL.shut .hd ?_
 intro Hb2_1 sb2_1 qb2_1
 have hb2_1 : Hb2_1 b2 = some (.cells #[.slice Aa0_0 a0.length ca0_0] 24) := shut1 qb2_1
 refine nN ?_
 refine T.seq ?_
 refine sR ?_
 refine R.fldA Tryz.underlying24 rfl Tryz.sizeOf22 (by decide) rfl rfl ?_
 refine R.ldH Tryz.isAgg22 rfl rfl hb2_1 rfl ?_
 refine R.len Tryz.underlying22 rfl rfl ?_
 refine R.mvE rfl cA ?_
 refine nN ?_
 refine T.block ?_
 refine T.loop (ι := Nat) (fun kl1 H' L' ds' => kl1 ≤ a0.length ∧ Has L' [] ∧ k_4f a1 (a0.drop kl1) () = k_4f a1 a0 ()) (fun kl1 => [(10, .int .i64 (kl1 : Int)), (1, .int .u64 a1), (8, .slice Aa0_0 a0.length ca0_0), (9, .int .i64 (a0.length : Int))]) (fun kl1 => a0.length - kl1) 0 ?_ ?_ ?_
 ·exact ⟨oA, Has.nil, (by rfl)⟩
 ·exact ⟨rfl, rfl, rfl, rfl, trivial⟩
 intro kl1 σ_l1 H_l1 L_l1 ds_l1 s_l1 hI_l1
 obtain ⟨hkl1, hI_l1⟩ := hI_l1
 obtain ⟨hLl1, hQl1⟩ := hI_l1
 refine T.has hLl1 ?_
 refine sR ?_
 refine R.lss rfl rfl rfl ?_
 refine nN ?_
 refine T.seq ?_
 refine T.condD rfl (fun c11 => ?_) (fun c11 => ?_)
 ·have hltl1 : kl1 < a0.length := by omega
  obtain ⟨yl1, hyl1⟩ := getk (xs := a0) (k := kl1) oA
  refine T.skip (Post.thnN ?_)
  refine T.seq ?_
  refine T.block ?_
  refine sR ?_
  obtain ⟨b12, o12, i12, k12⟩ := RdS.elem (ha0_0.mono (sb2_1.trans s_l1)) hyl1
  obtain ⟨l12, g12, k12⟩ := k12
  obtain ⟨z12_1, rfl, r12_1⟩ := g12
  obtain ⟨A12_1, p12_1, rfl, m12_1, n12_1, r12_1⟩ := r12_1.shape
  refine R.ixp Tryz.underlying22 Tryz.sizeOf45 rfl rfl rfl oA i12 ?_
  refine R.ldK (l := [.int .u64 (yl1.1), .slice A12_1 yl1.2.length p12_1]) Tryz.isAgg45 Tryz.sizeOf45 rfl rfl k12 rfl ?_
  refine R.alloc Tryz.zeroValue45 rfl ?_
  intro b6
  refine R.stX (old := [.int .u64 0, .slice none 0 0]) (l := [.int .u64 (yl1.1), .slice A12_1 yl1.2.length p12_1]) (new := [.int .u64 (yl1.1), .slice A12_1 yl1.2.length p12_1]) (et := 45) Tryz.sizeOf45 rfl rfl rfl rfl rfl (by show 0 + 2 ≤ 2; decide) rfl (k_20 rfl) .hd ?_
  refine TL.shut .hd ?_
  intro Hb6_2 sb6_2 qb6_2
  have hb6_2 : Hb6_2 b6 = some (.cells #[.int .u64 (yl1.1), .slice A12_1 yl1.2.length p12_1] 45) := shut1 qb6_2
  refine nN ?_
  refine sR ?_
  refine R.fldA Tryz.underlying45 rfl Tryz.sizeOf43 (by decide) rfl rfl ?_
  refine R.ldH Tryz.isAgg43 rfl rfl hb6_2 rfl ?_
  refine R.mvE rfl cA ?_
  refine R.eql rfl rfl rfl ?_
  refine nN ?_
  refine T.condD rfl (fun c17 => ?_) (fun c17 => ?_)
  ·refine T.set 17 (.bool true) (congrArg Value.bool (decide_eq_true c17)) ?_
   refine sR ?_
   refine R.fldA Tryz.underlying45 rfl Tryz.sizeOf25 (by decide) rfl rfl ?_
   refine R.ldH Tryz.isAgg25 rfl rfl hb6_2 rfl ?_
   refine R.asE rfl cA ?_
   refine nN ?_
   refine T.has Has.nil ?_
   refine T.ret (Post.blkR (Post.thnR (Post.thnR (Post.blkR (Post.thnR ?_)))))
   have hXl1 : k_4f a1 a0 () = .ret yl1.2 := by rw [← hQl1, k_16 hyl1, k_4f]; rw [if_pos c17]
   have hM : k_81 a0 a1 = yl1.2 := by rw [k_81, hXl1, LR.on_ret]
   exact fin1L (v := .slice A12_1 yl1.2.length p12_1) [] rfl rfl (List.Sublist.refl _) ⟨rfl, .slice A12_1 yl1.2.length p12_1, by first | rw [hM] | rfl, by rw [hM]; exact (r12_1.mono sb6_2)⟩
  refine T.set 17 (.bool false) (congrArg Value.bool (decide_eq_false c17)) ?_
  refine T.skip (Post.blkN ?_)
  refine id (Post.thnN ?_)
  refine T.region ?_
  refine R.addI rfl rfl rfl oA ?_
  refine R.mvE rfl cA ?_
  refine nN ?_
  exact ⟨kl1 + 1, (s_l1.trans sb6_2), ⟨oA, Has.nil, (by rw [← hQl1, k_16 hyl1, k_4f]; rw [if_neg c17])⟩, by show a0.length - (kl1 + 1) < a0.length - kl1; omega, rfl, rfl, rfl, rfl, trivial⟩
 refine T.exit (Post.thnE (Post.thnE (Post.blkX ?_)))
 have hEl1 : k_4f a1 a0 () = .go () := (hQl1.symm.trans (by rw [show kl1 = a0.length by omega, List.drop_length, k_4f]))
 refine id (Post.thnN ?_)
 refine sR ?_
 refine R.asE rfl cA ?_
 refine nN ?_
 refine T.has Has.nil ?_
 refine T.ret ?_
 have hM : k_81 a0 a1 = [] := by rw [k_81, hEl1, LR.on_go]
 exact fin1L (v := .slice none 0 0) [] rfl rfl (List.Sublist.refl _) ⟨rfl, .slice none 0 0, by first | rw [hM] | rfl, by rw [hM]; exact RdS.nil⟩
theorem rfind_l1 (t : Int) (B : Nat) : ∀ (x : List (Int × List Int)), (∀ r ∈ x, r.2.length ≤ B) → (LR.on (k_4f t x ()) (fun r => r) (fun _ => [])).length ≤ B
  | [], _ => Nat.zero_le _
  | r :: x, h => by
    rw [k_4f]
    by_cases e : r.1 = t
    · rw [if_pos e, LR.on_ret]; exact h r (List.mem_cons_self ..)
    · rw [if_neg e]; exact rfind_l1 t B x (fun q hq => h q (List.mem_cons_of_mem _ hq))
theorem rfind_len (x : List (Int × List Int)) (t : Int) (r : List Int) (e : r = k_81 x t) (B : Nat) (h : ∀ r ∈ x, r.2.length ≤ B) : r.length ≤ B := by
  rw [e]; exact rfind_l1 t B x h
def k_37 (a1 : List Int) : List Int → Nat → Unit → LR (Bool) (Unit)
  | [], kl1, sl1 => .go ()
  | yl1 :: ysl1, kl1, sl1 => if yl1 ≠ (a1.getD kl1 (0 : Int)) then (.ret false) else (k_37 a1 ysl1 (kl1 + 1) ())
def k_32 (a0 : List Int) (a1 : List Int) : Bool :=
  if (a0.length : Int) ≠ (a1.length : Int) then false else (LR.on (k_37 a1 a0 0 ()) (fun r => r) (fun ol1 => true))
set_option maxHeartbeats 3200000 in
theorem windroseref14_sameTables_c (H : Heap) (va0 : Value) (a0 : List Int) (ha0 : RdS (intE .i64) H va0 a0) (va1 : Value) (a1 : List Int) (ha1 : RdS (intE .i64) H va1 a1) : Fv Tryz.prog (fnv 51) [va0, va1] H (.bool (k_32 a0 a1)) := by
 refine Fc.of_body (N := 26) Tryz.func51 rfl kA rfl rfl ?_
 intro w0
 obtain ⟨Aa0, ca0, rfl, hca0, hda0, ha0⟩ := ha0.shape
 obtain ⟨Aa1, ca1, rfl, hca1, hda1, ha1⟩ := ha1.shape
 refine sR ?_
 refine R.asE rfl cA ?_
 refine nN ?_
 refine T.seq ?_
 refine sR ?_
 refine R.mvE rfl cA ?_
 refine R.len Tryz.underlying25 rfl rfl ?_
 refine R.mvE rfl cA ?_
 refine R.len Tryz.underlying25 rfl rfl ?_
 refine R.neq rfl rfl rfl ?_
 refine nN ?_
 refine T.condD rfl (fun c11 => ?_) (fun c11 => ?_)
 ·refine T.set 11 (.bool true) (congrArg Value.bool (decide_eq_true c11)) ?_
  refine sR ?_
  refine R.asE rfl cA ?_
  refine nN ?_
  refine T.has Has.nil ?_
  refine T.ret (Post.thnR ?_)
  have hM : k_32 a0 a1 = false := by rw [k_32, if_pos c11]
  exact fin1L (v := .bool false) [] rfl rfl (List.Sublist.refl _) ⟨rfl, by first | rw [hM] | rfl⟩
 refine T.set 11 (.bool false) (congrArg Value.bool (decide_eq_false c11)) ?_
 refine T.skip (Post.thnN ?_)
 refine T.seq ?_
 refine sR ?_
 refine R.mvE rfl cA ?_
 refine R.len Tryz.underlying25 rfl rfl ?_
 refine R.mvE rfl cA ?_
 refine nN ?_
 refine T.block ?_
 refine T.loop (ι := Nat) (fun kl1 H' L' ds' => kl1 ≤ a0.length ∧ Has L' [] ∧ k_37 a1 (a0.drop kl1) kl1 () = k_37 a1 a0 0 ()) (fun kl1 => [(14, .int .i64 (kl1 : Int)), (1, .slice Aa1 a1.length ca1), (12, .slice Aa0 a0.length ca0), (13, .int .i64 (a0.length : Int))]) (fun kl1 => a0.length - kl1) 0 ?_ ?_ ?_
 ·exact ⟨oA, Has.nil, (by rfl)⟩
 ·exact ⟨rfl, rfl, rfl, rfl, trivial⟩
 intro kl1 σ_l1 H_l1 L_l1 ds_l1 s_l1 hI_l1
 obtain ⟨hkl1, hI_l1⟩ := hI_l1
 obtain ⟨hLl1, hQl1⟩ := hI_l1
 refine T.has hLl1 ?_
 refine sR ?_
 refine R.lss rfl rfl rfl ?_
 refine nN ?_
 refine T.seq ?_
 refine T.condD rfl (fun c15 => ?_) (fun c15 => ?_)
 ·have hltl1 : kl1 < a0.length := by omega
  obtain ⟨yl1, hyl1⟩ := getk (xs := a0) (k := kl1) oA
  refine T.skip (Post.thnN ?_)
  refine T.seq ?_
  refine T.block ?_
  refine sR ?_
  refine R.mvE rfl cA ?_
  obtain ⟨b17, o17, i17, k17⟩ := RdS.elem (ha0.mono s_l1) hyl1
  obtain ⟨l17, g17, k17⟩ := k17
  obtain rfl : l17 = [.int .i64 yl1] := g17
  refine R.ixp Tryz.underlying25 Tryz.sizeOf3 rfl rfl rfl oA i17 ?_
  refine R.ldC Tryz.isAgg3 rfl rfl (k17 0 _ rfl) ?_
  refine R.asE rfl cA ?_
  refine R.asE rfl cA ?_
  refine nN ?_
  refine sR ?_
  refine R.mvE rfl cA ?_
  refine R.mvE rfl cA ?_
  refine R.mvE rfl cA ?_
  have hl22 : kl1 < a1.length := bA
  obtain ⟨y22, e22, h22⟩ : ∃ y, y = (a1.getD kl1 (0 : Int)) ∧ a1[kl1]? = some y := ⟨_, rfl, k_6 (by first | exact hl22 | simpa using hl22 | (simp only [List.length_set]; omega) | omega | (rw [(k_1 _).length_eq]; exact hl22))⟩
  obtain ⟨b22, o22, i22, k22⟩ := RdS.elem (ha1.mono s_l1) h22
  obtain ⟨l22, g22, k22⟩ := k22
  obtain rfl : l22 = [.int .i64 y22] := g22
  refine R.ixp Tryz.underlying25 Tryz.sizeOf3 rfl rfl rfl bA i22 ?_
  refine R.ldC Tryz.isAgg3 rfl rfl (k22 0 _ rfl) ?_
  refine R.neq rfl rfl rfl ?_
  refine nN ?_
  refine T.condD rfl (fun c24 => ?_) (fun c24 => ?_)
  ·refine T.set 24 (.bool true) (congrArg Value.bool (decide_eq_true c24)) ?_
   refine sR ?_
   refine R.asE rfl cA ?_
   refine nN ?_
   refine T.has Has.nil ?_
   refine T.ret (Post.blkR (Post.thnR (Post.thnR (Post.blkR (Post.thnR ?_)))))
   have hXl1 : k_37 a1 a0 0 () = .ret false := by subst e22; rw [← hQl1, k_16 hyl1, k_37]; rw [if_pos c24]
   have hM : k_32 a0 a1 = false := by rw [k_32, if_neg c11, hXl1, LR.on_ret]
   exact fin1L (v := .bool false) [] rfl rfl (List.Sublist.refl _) ⟨rfl, by first | rw [hM] | rfl⟩
  refine T.set 24 (.bool false) (congrArg Value.bool (decide_eq_false c24)) ?_
  refine T.skip (Post.blkN ?_)
  refine id (Post.thnN ?_)
  refine T.region ?_
  refine R.addI rfl rfl rfl oA ?_
  refine R.mvE rfl cA ?_
  refine nN ?_
  exact ⟨kl1 + 1, s_l1, ⟨oA, Has.nil, (by subst e22; rw [← hQl1, k_16 hyl1, k_37]; rw [if_neg c24])⟩, by show a0.length - (kl1 + 1) < a0.length - kl1; omega, rfl, rfl, rfl, rfl, trivial⟩
 refine T.exit (Post.thnE (Post.thnE (Post.blkX ?_)))
 have hEl1 : k_37 a1 a0 0 () = .go () := (hQl1.symm.trans (by rw [show kl1 = a0.length by omega, List.drop_length, k_37]))
 refine id (Post.thnN ?_)
 refine sR ?_
 refine R.asE rfl cA ?_
 refine nN ?_
 refine T.has Has.nil ?_
 refine T.ret ?_
 have hM : k_32 a0 a1 = true := by rw [k_32, if_neg c11, hEl1, LR.on_go]
 exact fin1L (v := .bool true) [] rfl rfl (List.Sublist.refl _) ⟨rfl, by first | rw [hM] | rfl⟩
def k_65 (a1 : (List (Int × (List Int)))) : List (Int × (List Int)) → Nat → Unit → LR (Bool) (Unit)
  | [], kl1, sl1 => .go ()
  | yl1 :: ysl1, kl1, sl1 => LR.seq (if yl1.1 ≠ (a1.getD kl1 (((0, []) : Int × (List Int)) : Int × (List Int))).1 then true else ((!(k_32 yl1.2 (a1.getD kl1 (((0, []) : Int × (List Int)) : Int × (List Int))).2))) : Bool) (fun sc2 => if sc2 = true then (.ret false) else (k_65 a1 ysl1 (kl1 + 1) ()))
def k_45 (a0 : (List (Int × (List Int)))) (a1 : (List (Int × (List Int)))) : Bool :=
  if (a0.length : Int) ≠ (a1.length : Int) then false else (LR.on (k_65 a1 a0 0 ()) (fun r => r) (fun ol1 => true))
set_option maxHeartbeats 3200000 in
theorem k_ca (H : Heap) (a0 : (List (Int × (List Int)))) (va0_0 : Value) (ha0_0 : RdS listedE H va0_0 a0) (a1 : (List (Int × (List Int)))) (va1_0 : Value) (ha1_0 : RdS listedE H va1_0 a1) : Fv Tryz.prog (fnv 16) [.agg #[va0_0], .agg #[va1_0]] H (.bool (k_45 a0 a1)) := by
 refine Fc.of_body (N := 44) Tryz.func16 rfl kA rfl rfl ?_
 intro w0
 obtain ⟨Aa0_0, ca0_0, rfl, hca0_0, hda0_0, ha0_0⟩ := ha0_0.shape
 obtain ⟨Aa1_0, ca1_0, rfl, hca1_0, hda1_0, ha1_0⟩ := ha1_0.shape
 refine sR ?_
 refine R.box rfl cA ?_
 intro b2
 refine R.box rfl cA ?_
 intro b3
 refine R.asE rfl cA ?_
 refine TL.shut .hd ?_
 intro Hb3_1 sb3_1 qb3_1
 have hb3_1 : Hb3_1 b3 = some (.cells #[.slice Aa1_0 a1.length ca1_0] 24) := shut1 qb3_1
 refine TL.shut .hd ?_
 intro Hb2_2 sb2_2 qb2_2
 have hb2_2 : Hb2_2 b2 = some (.cells #[.slice Aa0_0 a0.length ca0_0] 24) := shut1 qb2_2
 refine nN ?_
 refine T.seq ?_
 refine sR ?_
 refine R.fldA Tryz.underlying24 rfl Tryz.sizeOf22 (by decide) rfl rfl ?_
 refine R.ldH Tryz.isAgg22 rfl rfl hb2_2 rfl ?_
 refine R.len Tryz.underlying22 rfl rfl ?_
 refine R.fldA Tryz.underlying24 rfl Tryz.sizeOf22 (by decide) rfl rfl ?_
 refine R.ldH Tryz.isAgg22 rfl rfl (sb2_2 _ _ hb3_1) rfl ?_
 refine R.len Tryz.underlying22 rfl rfl ?_
 refine R.neq rfl rfl rfl ?_
 refine nN ?_
 refine T.condD rfl (fun c13 => ?_) (fun c13 => ?_)
 ·refine T.set 13 (.bool true) (congrArg Value.bool (decide_eq_true c13)) ?_
  refine sR ?_
  refine R.asE rfl cA ?_
  refine nN ?_
  refine T.has Has.nil ?_
  refine T.ret (Post.thnR ?_)
  have hM : k_45 a0 a1 = false := by rw [k_45, if_pos c13]
  exact fin1L (v := .bool false) [] rfl rfl (List.Sublist.refl _) ⟨rfl, by first | rw [hM] | rfl⟩
 refine T.set 13 (.bool false) (congrArg Value.bool (decide_eq_false c13)) ?_
 refine T.skip (Post.thnN ?_)
 refine T.seq ?_
 refine sR ?_
 refine R.fldA Tryz.underlying24 rfl Tryz.sizeOf22 (by decide) rfl rfl ?_
 refine R.ldH Tryz.isAgg22 rfl rfl hb2_2 rfl ?_
 refine R.len Tryz.underlying22 rfl rfl ?_
 refine R.mvE rfl cA ?_
 refine nN ?_
 refine T.block ?_
 refine T.loop (ι := Nat) (fun kl1 H' L' ds' => kl1 ≤ a0.length ∧ Has L' [] ∧ k_65 a1 (a0.drop kl1) kl1 () = k_65 a1 a0 0 ()) (fun kl1 => [(17, .int .i64 (kl1 : Int)), (3, .pointer (some ⟨b3, 0, none⟩)), (15, .slice Aa0_0 a0.length ca0_0), (16, .int .i64 (a0.length : Int))]) (fun kl1 => a0.length - kl1) 0 ?_ ?_ ?_
 ·exact ⟨oA, Has.nil, (by rfl)⟩
 ·exact ⟨rfl, rfl, rfl, rfl, trivial⟩
 intro kl1 σ_l1 H_l1 L_l1 ds_l1 s_l1 hI_l1
 obtain ⟨hkl1, hI_l1⟩ := hI_l1
 obtain ⟨hLl1, hQl1⟩ := hI_l1
 refine T.has hLl1 ?_
 refine sR ?_
 refine R.lss rfl rfl rfl ?_
 refine nN ?_
 refine T.seq ?_
 refine T.condD rfl (fun c18 => ?_) (fun c18 => ?_)
 ·have hltl1 : kl1 < a0.length := by omega
  obtain ⟨yl1, hyl1⟩ := getk (xs := a0) (k := kl1) oA
  refine T.skip (Post.thnN ?_)
  refine T.seq ?_
  refine T.block ?_
  refine sR ?_
  refine R.mvE rfl cA ?_
  obtain ⟨b20, o20, i20, k20⟩ := RdS.elem (ha0_0.mono (sb3_1.trans (sb2_2.trans s_l1))) hyl1
  obtain ⟨l20, g20, k20⟩ := k20
  obtain ⟨z20_1, rfl, r20_1⟩ := g20
  obtain ⟨A20_1, p20_1, rfl, m20_1, n20_1, r20_1⟩ := r20_1.shape
  refine R.ixp Tryz.underlying22 Tryz.sizeOf45 rfl rfl rfl oA i20 ?_
  refine R.ldK (l := [.int .u64 (yl1.1), .slice A20_1 yl1.2.length p20_1]) Tryz.isAgg45 Tryz.sizeOf45 rfl rfl k20 rfl ?_
  refine R.alloc Tryz.zeroValue45 rfl ?_
  intro b6
  refine R.asE rfl cA ?_
  refine R.stX (old := [.int .u64 0, .slice none 0 0]) (l := [.int .u64 (yl1.1), .slice A20_1 yl1.2.length p20_1]) (new := [.int .u64 (yl1.1), .slice A20_1 yl1.2.length p20_1]) (et := 45) Tryz.sizeOf45 rfl rfl rfl rfl rfl (by show 0 + 2 ≤ 2; decide) rfl (k_20 rfl) .hd ?_
  refine TL.shut .hd ?_
  intro Hb6_3 sb6_3 qb6_3
  have hb6_3 : Hb6_3 b6 = some (.cells #[.int .u64 (yl1.1), .slice A20_1 yl1.2.length p20_1] 45) := shut1 qb6_3
  refine nN ?_
  refine T.seq ?_
  refine T.cutK (ι := Bool) (fun b42c2 H' L' ds' => Has L' [] ∧ (if yl1.1 ≠ (a1.getD kl1 (((0, []) : Int × (List Int)) : Int × (List Int))).1 then true else ((!(k_32 yl1.2 (a1.getD kl1 (((0, []) : Int × (List Int)) : Int × (List Int))).2))) : Bool) = b42c2) (fun b42c2 => [(3, .pointer (some ⟨b3, 0, none⟩)), (15, .slice Aa0_0 a0.length ca0_0), (16, .int .i64 (a0.length : Int)), (17, .int .i64 (kl1 : Int)), (42, .bool (b42c2))]) ?_ ?_
  ·refine T.draw k_2b kA ?_
   refine vA 0 [1, 2, 3, 4, 5, 6, 7, 8, 9, 10, 11, 12, 13, 14, 15, 16, 17, 18, 19, 20] rfl (fun _ _ h_ => R.fldA Tryz.underlying45 rfl Tryz.sizeOf43 (by decide) rfl rfl (TL.nil h_)) ?_
   refine vA 1 [2, 3, 4, 5, 6, 7, 8, 9, 10, 11, 12, 13, 14, 15, 16, 17, 18, 19, 20] rfl (fun _ _ h_ => R.ldH Tryz.isAgg43 rfl rfl hb6_3 rfl (TL.nil h_)) ?_
   refine vA 2 [3, 4, 5, 6, 7, 8, 9, 10, 11, 12, 13, 14, 15, 16, 17, 18, 19, 20] rfl (fun _ _ h_ => R.fldA Tryz.underlying24 rfl Tryz.sizeOf22 (by decide) rfl rfl (TL.nil h_)) ?_
   refine vA 3 [4, 5, 6, 7, 8, 9, 10, 11, 12, 13, 14, 15, 16, 17, 18, 19, 20] rfl (fun _ _ h_ => R.ldH Tryz.isAgg22 rfl rfl ((sb2_2.trans (s_l1.trans sb6_3)) _ _ hb3_1) rfl (TL.nil h_)) ?_
   refine vM 4 [5, 6, 7, 8, 9, 10, 11, 12, 13, 14, 15, 16, 17, 18, 19, 20] rfl rfl cA ?_
   have hl27 : kl1 < a1.length := bA
   obtain ⟨y27, e27, h27⟩ : ∃ y, y = (a1.getD kl1 (((0, []) : Int × (List Int)) : Int × (List Int))) ∧ a1[kl1]? = some y := ⟨_, rfl, k_6 (by first | exact hl27 | simpa using hl27 | (simp only [List.length_set]; omega) | omega | (rw [(k_1 _).length_eq]; exact hl27))⟩
   obtain ⟨b27, o27, i27, k27⟩ := RdS.elem (ha1_0.mono (sb3_1.trans (sb2_2.trans (s_l1.trans sb6_3)))) h27
   obtain ⟨l27, g27, k27⟩ := k27
   obtain ⟨z27_1, rfl, r27_1⟩ := g27
   obtain ⟨A27_1, p27_1, rfl, m27_1, n27_1, r27_1⟩ := r27_1.shape
   refine vA 5 [6, 7, 8, 9, 10, 11, 12, 13, 14, 15, 16, 17, 18, 19, 20] rfl (fun _ _ h_ => R.ixp Tryz.underlying22 Tryz.sizeOf45 rfl rfl rfl bA i27 (TL.nil h_)) ?_
   refine vA 6 [7, 8, 9, 10, 11, 12, 13, 14, 15, 16, 17, 18, 19, 20] rfl (fun _ _ h_ => R.fldA Tryz.underlying45 rfl Tryz.sizeOf43 (by decide) rfl rfl (TL.nil h_)) ?_
   refine vA 7 [8, 9, 10, 11, 12, 13, 14, 15, 16, 17, 18, 19, 20] rfl (fun _ _ h_ => R.ldC Tryz.isAgg43 rfl rfl (k27 0 _ rfl) (TL.nil h_)) ?_
   refine vA 8 [9, 10, 11, 12, 13, 14, 15, 16, 17, 18, 19, 20] rfl (fun _ _ h_ => R.neq rfl rfl rfl (TL.nil h_)) ?_
   refine vM 9 [10, 11, 12, 13, 14, 15, 16, 17, 18, 19, 20] rfl rfl cA ?_
   refine Plan.gsplitD 31 rfl (fun g31 => ?_) (fun g31 => ?_)
   ·refine vO 10 [11, 12, 13, 14, 15, 16, 17, 18, 19, 20] rfl rfl rfl rfl ?_
    refine vO 11 [12, 13, 14, 15, 16, 17, 18, 19, 20] rfl rfl rfl rfl ?_
    refine vO 12 [13, 14, 15, 16, 17, 18, 19, 20] rfl rfl rfl rfl ?_
    refine vO 13 [14, 15, 16, 17, 18, 19, 20] rfl rfl rfl rfl ?_
    refine vO 14 [15, 16, 17, 18, 19, 20] rfl rfl rfl rfl ?_
    refine vO 15 [16, 17, 18, 19, 20] rfl rfl rfl rfl ?_
    refine vO 16 [17, 18, 19, 20] rfl rfl rfl rfl ?_
    refine vO 17 [18, 19, 20] rfl rfl rfl rfl ?_
    refine vO 18 [19, 20] rfl rfl rfl rfl ?_
    refine vO 19 [20] rfl rfl rfl rfl ?_
    refine vA 20 [] rfl (fun _ _ h_ => R.pkTE rfl rfl cA (TL.nil h_)) ?_
    refine Plan.done (Post.thnN ?_)
    exact ⟨true, HLe.refl _, ⟨Has.nil, (by subst e27; rw [if_pos g31])⟩, rfl, rfl, rfl, rfl, rfl, trivial⟩
   refine vA 10 [11, 12, 13, 14, 15, 16, 17, 18, 19, 20] rfl (fun _ _ h_ => R.fldA Tryz.underlying45 rfl Tryz.sizeOf25 (by decide) rfl rfl (TL.nil h_)) ?_
   refine vA 11 [12, 13, 14, 15, 16, 17, 18, 19, 20] rfl (fun _ _ h_ => R.ldH Tryz.isAgg25 rfl rfl hb6_3 rfl (TL.nil h_)) ?_
   refine vA 12 [13, 14, 15, 16, 17, 18, 19, 20] rfl (fun _ _ h_ => R.fldA Tryz.underlying24 rfl Tryz.sizeOf22 (by decide) rfl rfl (TL.nil h_)) ?_
   refine vA 13 [14, 15, 16, 17, 18, 19, 20] rfl (fun _ _ h_ => R.ldH Tryz.isAgg22 rfl rfl ((sb2_2.trans (s_l1.trans sb6_3)) _ _ hb3_1) rfl (TL.nil h_)) ?_
   refine vM 14 [15, 16, 17, 18, 19, 20] rfl rfl cA ?_
   have hl37 : kl1 < a1.length := bA
   obtain ⟨y37, e37, h37⟩ : ∃ y, y = (a1.getD kl1 (((0, []) : Int × (List Int)) : Int × (List Int))) ∧ a1[kl1]? = some y := ⟨_, rfl, k_6 (by first | exact hl37 | simpa using hl37 | (simp only [List.length_set]; omega) | omega | (rw [(k_1 _).length_eq]; exact hl37))⟩
   obtain ⟨b37, o37, i37, k37⟩ := RdS.elem (ha1_0.mono (sb3_1.trans (sb2_2.trans (s_l1.trans sb6_3)))) h37
   obtain ⟨l37, g37, k37⟩ := k37
   obtain ⟨z37_1, rfl, r37_1⟩ := g37
   obtain ⟨A37_1, p37_1, rfl, m37_1, n37_1, r37_1⟩ := r37_1.shape
   refine vA 15 [16, 17, 18, 19, 20] rfl (fun _ _ h_ => R.ixp Tryz.underlying22 Tryz.sizeOf45 rfl rfl rfl bA i37 (TL.nil h_)) ?_
   refine vA 16 [17, 18, 19, 20] rfl (fun _ _ h_ => R.fldA Tryz.underlying45 rfl Tryz.sizeOf25 (by decide) rfl rfl (TL.nil h_)) ?_
   refine vA 17 [18, 19, 20] rfl (fun _ _ h_ => R.ldC Tryz.isAgg25 rfl rfl (k37 1 _ rfl) (TL.nil h_)) ?_
   refine vA 18 [19, 20] rfl (fun _ _ h_ => R.callv rfl rfl rfl (windroseref14_sameTables_c _ _ yl1.2 (r20_1.mono sb6_3) _ y37.2 r37_1) (TL.nil h_)) ?_
   refine vA 19 [20] rfl (fun _ _ h_ => R.not rfl rfl (TL.nil h_)) ?_
   refine vA 20 [] rfl (fun _ _ h_ => R.pkFE rfl rfl cA (TL.nil h_)) ?_
   refine Plan.done (Post.thnN ?_)
   exact ⟨(!(k_32 yl1.2 y37.2)), HLe.refl _, ⟨Has.nil, (by subst e37; subst e27; rw [if_neg g31])⟩, rfl, rfl, rfl, rfl, rfl, trivial⟩
  intro b42c2 σ_c2 H_c2 L_c2 ds_c2 s_c2 hI_c2
  obtain ⟨hLc2, hTc2⟩ := hI_c2
  refine T.has hLc2 ?_
  refine T.cond rfl (fun c42 => ?_) (fun c42 => ?_)
  ·refine T.set 42 (.bool true) (congrArg Value.bool c42) ?_
   have hZ42 := hTc2.trans c42
   try simp only [or_f, or_t, k_bf, k_c0, decide_eq_true_eq, decide_eq_false_iff_not, Bool.not_eq_true'] at hZ42
   refine sR ?_
   refine R.asE rfl cA ?_
   refine nN ?_
   refine T.has Has.nil ?_
   refine T.ret (Post.blkR (Post.thnR (Post.thnR (Post.blkR (Post.thnR ?_)))))
   have hXl1 : k_65 a1 a0 0 () = .ret false := by rw [← hQl1, k_16 hyl1, k_65]; rw [hTc2, LR.seq_go, if_t c42]
   have hM : k_45 a0 a1 = false := by rw [k_45, if_neg c13, hXl1, LR.on_ret]
   exact fin1L (v := .bool false) [] rfl rfl (List.Sublist.refl _) ⟨rfl, by first | rw [hM] | rfl⟩
  refine T.set 42 (.bool false) (congrArg Value.bool c42) ?_
  have hZ42 := hTc2.trans c42
  try simp only [or_f, or_t, k_bf, k_c0, decide_eq_true_eq, decide_eq_false_iff_not, Bool.not_eq_true'] at hZ42
  refine T.skip (Post.blkN ?_)
  refine id (Post.thnN ?_)
  refine T.region ?_
  refine R.addI rfl rfl rfl oA ?_
  refine R.mvE rfl cA ?_
  refine nN ?_
  exact ⟨kl1 + 1, (s_l1.trans (sb6_3.trans s_c2)), ⟨oA, Has.nil, (by rw [← hQl1, k_16 hyl1, k_65]; rw [hTc2, LR.seq_go, if_f c42])⟩, by show a0.length - (kl1 + 1) < a0.length - kl1; omega, rfl, rfl, rfl, rfl, trivial⟩
 refine T.exit (Post.thnE (Post.thnE (Post.blkX ?_)))
 have hEl1 : k_65 a1 a0 0 () = .go () := (hQl1.symm.trans (by rw [show kl1 = a0.length by omega, List.drop_length, k_65]))
 refine id (Post.thnN ?_)
 refine sR ?_
 refine R.asE rfl cA ?_
 refine nN ?_
 refine T.has Has.nil ?_
 refine T.ret ?_
 have hM : k_45 a0 a1 = true := by rw [k_45, if_neg c13, hEl1, LR.on_go]
 exact fin1L (v := .bool true) [] rfl rfl (List.Sublist.refl _) ⟨rfl, by first | rw [hM] | rfl⟩
end Go.SX

set_option linter.unusedVariables false
set_option linter.unusedSimpArgs false
namespace Go.SX
open Go
/-- each may be, and stands behind the one ahead of it -/
def adjL {α : Type} (d : α) (bad : α → Bool) (f : α → Int) (a : List α) : List α → Nat → LR Bool Unit
  | [], _ => .go ()
  | y :: ys, k => if (if bad y = true then true else (if (0 : Int) < (k : Int) then decide (f y ≤ f (a.getD ((k : Int) - 1).toNat d)) else false)) = true then .ret false else adjL d bad f a ys (k + 1)
theorem adjL_or {α : Type} (d : α) (bad : α → Bool) (f : α → Int) (a : List α) : ∀ (xs : List α) (k : Nat), adjL d bad f a xs k = .go () ∨ adjL d bad f a xs k = .ret false
  | [], _ => .inl rfl
  | y :: ys, k => by
    rw [adjL]
    generalize (if bad y = true then true else (if (0 : Int) < (k : Int) then decide (f y ≤ f (a.getD ((k : Int) - 1).toNat d)) else false)) = b
    cases b with
    | true => exact .inr rfl
    | false => exact adjL_or d bad f a ys (k + 1)
theorem adjL_at {α : Type} (d : α) (bad : α → Bool) (f : α → Int) (a : List α) : ∀ (xs : List α) (k : Nat), (adjL d bad f a xs k = .go () ↔ ∀ (i : Nat) (y : α), xs[i]? = some y → bad y = false ∧ (k + i = 0 ∨ f (a.getD (k + i - 1) d) < f y))
  | [], _ => ⟨fun _ i y h => by simp at h, fun _ => rfl⟩
  | x :: xs, k => by
    rw [adjL]
    have ih := adjL_at d bad f a xs (k + 1)
    have hb : (if bad x = true then true else (if (0 : Int) < (k : Int) then decide (f x ≤ f (a.getD ((k : Int) - 1).toNat d)) else false)) = false ↔ bad x = false ∧ (k = 0 ∨ f (a.getD (k - 1) d) < f x) := by
      cases hbx : bad x with
      | true => rw [if_pos rfl]; exact ⟨fun q => (by cases q), fun q => (by cases q.1)⟩
      | false =>
        rw [if_neg Bool.false_ne_true]
        by_cases hk : (0 : Int) < (k : Int)
        · rw [if_pos hk, decide_eq_false_iff_not, show ((k : Int) - 1).toNat = k - 1 by omega]
          exact ⟨fun q => ⟨rfl, .inr (by omega)⟩, fun q => by rcases q.2 with q | q <;> omega⟩
        · rw [if_neg hk]; exact ⟨fun _ => ⟨rfl, .inl (by omega)⟩, fun _ => rfl⟩
    cases e : (if bad x = true then true else (if (0 : Int) < (k : Int) then decide (f x ≤ f (a.getD ((k : Int) - 1).toNat d)) else false)) with
    | true =>
      rw [if_pos rfl]
      refine ⟨fun q => (by cases q), fun q => ?_⟩
      have := q 0 x rfl
      rw [Nat.add_zero] at this
      rw [hb.2 this] at e; cases e
    | false =>
      rw [if_neg Bool.false_ne_true, ih]
      have h0 := hb.1 e
      constructor
      · intro q i y hy
        cases i with
        | zero => obtain rfl : x = y := by simpa using hy
                  rw [Nat.add_zero]; exact h0
        | succ i =>
          have := q i y (by simpa using hy)
          rw [show k + (i + 1) = k + 1 + i by omega]; exact this
      · intro q i y hy
        have := q (i + 1) y (by simpa using hy)
        rw [show k + (i + 1) = k + 1 + i by omega] at this; exact this
theorem adjL_iff {α : Type} (d : α) (bad : α → Bool) (f : α → Int) (a : List α) : adjL d bad f a a 0 = .go () ↔ (∀ y ∈ a, bad y = false) ∧ (a.map f).Pairwise (· < ·) := by
  rw [adjL_at]
  have hf : ∀ (i : Nat) (y : α), a[i]? = some y → (a.map f).getD i 0 = f y := fun i y h => by
    rw [List.getD_eq_getElem?_getD, List.getElem?_map, h]; rfl
  constructor
  · intro h
    refine ⟨fun y hy => ?_, adj_up (fun i hi => ?_)⟩
    · obtain ⟨i, hi⟩ := List.mem_iff_getElem?.1 hy
      exact (h i y hi).1
    · rw [List.length_map] at hi
      have h1 : a[i + 1]? = some a[i + 1] := List.getElem?_eq_getElem hi
      have h2 : a[i]? = some a[i] := List.getElem?_eq_getElem (by omega)
      rw [hf _ _ h1, hf _ _ h2]
      rcases (h (i + 1) _ h1).2 with q | q
      · omega
      · rw [show 0 + (i + 1) - 1 = i by omega, List.getD_eq_getElem?_getD, h2] at q; exact q
  · rintro ⟨h1, h2⟩ i y hy
    refine ⟨h1 y (List.mem_of_getElem? hy), ?_⟩
    by_cases hi : i = 0
    · exact .inl (by omega)
    · right
      have hlt := (List.getElem?_eq_some_iff.1 hy).1
      have := pw_adj h2 i (by omega) (by rw [List.length_map]; exact hlt)
      have h3 : a[i - 1]? = some a[i - 1] := List.getElem?_eq_getElem (by omega)
      rw [hf _ _ hy, hf _ _ h3] at this
      rw [show 0 + i - 1 = i - 1 by omega, List.getD_eq_getElem?_getD, h3]; exact this
theorem tcheck_l2_true (a : List Int) : ∀ (xs : List Int) (k : Nat), (∀ (i : Nat) (y : Int), xs[i]? = some y → k_8e y = true ∧ (k + i = 0 ∨ a.getD (k + i - 1) 0 < y)) → k_89 a xs k true = true
  | [], _, _ => rfl
  | x :: xs, k, h => by
    obtain ⟨h1, h2⟩ := h 0 x rfl
    rw [k_89, LR.seq_go]
    have e : (if true = true then (if k_8e x = true then (if (k : Int) = 0 then true else decide (a.getD (((k : Int) - 1)).toNat 0 < x)) else false) else false) = true := by
      rw [if_pos rfl, if_pos h1]
      by_cases h0 : (k : Int) = 0
      · rw [if_pos h0]
      · rw [if_neg h0, show ((k : Int) - 1).toNat = k + 0 - 1 by omega]
        rcases h2 with q | q
        · omega
        · exact decide_eq_true q
    rw [e, if_neg (by decide)]
    exact tcheck_l2_true a xs (k + 1) (fun i y hy => by
      have := h (i + 1) y (by simpa using hy)
      rw [show k + (i + 1) = k + 1 + i by omega] at this; exact this)
theorem tcheck_iff (l : List Int) : k_2e l = 0 ↔ l.length ≤ 12 ∧ l.Pairwise (· < ·) ∧ ∀ y ∈ l, k_8e y = true := by
  refine ⟨tcheck_ok, ?_⟩
  rintro ⟨h1, h2, h3⟩
  unfold k_2e
  simp only [LR.seq_go]
  rw [decide_eq_true (show (l.length : Int) ≤ 12 by omega), tcheck_l2_true l l 0 (fun i y hy => ⟨h3 y (List.mem_of_getElem? hy), ?_⟩)]
  · rfl
  · by_cases hi : i = 0
    · exact .inl (by omega)
    · right
      have hlt := (List.getElem?_eq_some_iff.1 hy).1
      have := pw_adj h2 i (by omega) hlt
      rw [show l.getD i 0 = y by rw [List.getD_eq_getElem?_getD, hy]; rfl] at this
      rw [Nat.zero_add]; exact this
theorem r03_l1 (a : List Int) : ∀ (xs : List Int) (k : Nat), k_5c a xs k () = adjL 0 (fun y => !(k_5e y)) (fun y => y) a xs k
  | [], _ => rfl
  | y :: ys, k => by rw [k_5c, LR.seq_go, adjL, r03_l1 a ys]
theorem may_r {y : Int} (h : U y) : k_5e y = k_8e y := by
  unfold k_5e k_8e
  rw [kind_r h, kind_i h]
theorem r03_right {l : List Int} (hu : ∀ y ∈ l, U y) : k_1c l = true ↔ k_2e l = 0 := by
  unfold k_1c
  rw [r03_l1, tcheck_iff]
  have hi := adjL_iff (0 : Int) (fun y => !(k_5e y)) (fun y => y) l
  rw [List.map_id'] at hi
  have hm : (∀ y ∈ l, (!(k_5e y)) = false) ↔ ∀ y ∈ l, k_8e y = true := by
    constructor
    · intro q y hy
      have := q y hy
      rw [may_r (hu y hy)] at this
      cases e : k_8e y with
      | true => rfl
      | false => rw [e] at this; cases this
    · intro q y hy
      rw [may_r (hu y hy), q y hy]; rfl
  rcases adjL_or (0 : Int) (fun y => !(k_5e y)) (fun y => y) l l 0 with e | e
  · rw [e, LR.on_go, decide_eq_true_eq]
    have q := hi.1 e
    exact ⟨fun z => ⟨by omega, q.2, hm.1 q.1⟩, fun z => by have := z.1; omega⟩
  · rw [e, LR.on_ret]
    refine ⟨fun z => (by cases z), fun z => ?_⟩
    rw [hi.2 ⟨hm.2 z.2.2, z.2.1⟩] at e; cases e
theorem same_l1 (b : List Int) : ∀ (xs : List Int) (k : Nat), (LR.on (k_64 b xs k ()) (fun r => r) (fun _ => true) = true ↔ ∀ i, i < xs.length → xs.getD i 0 = b.getD (k + i) 0)
  | [], k => ⟨fun _ i h => by simp at h, fun _ => rfl⟩
  | y :: ys, k => by
    rw [k_64]
    by_cases e : y = b.getD k 0
    · rw [if_neg (fun q => q e), same_l1 b ys (k + 1)]
      constructor
      · intro q i hi
        cases i with
        | zero => simpa using e
        | succ i =>
          have := q i (by simpa using hi)
          rw [show k + (i + 1) = k + 1 + i by omega]; simpa using this
      · intro q i hi
        have := q (i + 1) (by simpa using hi)
        rw [show k + (i + 1) = k + 1 + i by omega] at this; simpa using this
    · rw [if_pos e, LR.on_ret]
      refine ⟨fun q => (by cases q), fun q => ?_⟩
      have := q 0 (by simp)
      exact absurd (by simpa using this) e
theorem list_ext_getD {a b : List Int} (hl : a.length = b.length) (h : ∀ i, i < a.length → a.getD i 0 = b.getD i 0) : a = b := by
  apply List.ext_getElem? ; intro i
  by_cases hi : i < a.length
  · have := h i hi
    rw [List.getD_eq_getElem?_getD, List.getD_eq_getElem?_getD, List.getElem?_eq_getElem hi, List.getElem?_eq_getElem (by omega : i < b.length)] at this
    rw [List.getElem?_eq_getElem hi, List.getElem?_eq_getElem (by omega : i < b.length)]
    simpa using this
  · rw [List.getElem?_eq_none (by omega), List.getElem?_eq_none (by omega)]
theorem r03_same (a b : List Int) : k_61 a b = decide (a = b) := by
  unfold k_61
  by_cases hl : a.length = b.length
  · rw [if_neg (fun q => q (by omega))]
    have := same_l1 b a 0
    by_cases e : a = b
    · rw [decide_eq_true e, this]; intro i hi; rw [e, Nat.zero_add]
    · rw [decide_eq_false e, ← Bool.not_eq_true, this]
      exact fun q => e (list_ext_getD hl (fun i hi => by have := q i hi; rwa [Nat.zero_add] at this))
  · rw [if_pos (fun q => hl (by omega))]
    exact (decide_eq_false (fun e => hl (by rw [e]))).symm
theorem r14_has (n : Int) : ∀ l : List Int, k_7d l n = decide (n ∈ l)
  | [] => rfl
  | y :: ys => by
    have ih := r14_has n ys
    unfold k_7d at ih ⊢
    rw [k_7f]
    by_cases e : y = n
    · rw [if_pos e, LR.on_ret]; subst e; exact (decide_eq_true (List.mem_cons_self ..)).symm
    · rw [if_neg e, ih]
      exact decide_eq_decide.2 ⟨fun q => List.mem_cons_of_mem _ q, fun q => by rcases List.mem_cons.1 q with q | q; exact absurd q.symm e; exact q⟩
theorem r14_in_l1 (n : Int) : ∀ (x : Ix) (a : List Int), k_6d n x a = a ++ inA x n
  | [], a => by simp [k_6d, inA]
  | r :: x, a => by
    rw [k_6d, r14_has]
    unfold inA
    rw [List.filter_cons]
    by_cases h : n ∈ r.2
    · rw [if_pos (decide_eq_true h), if_pos (decide_eq_true h), r14_in_l1 n x]; simp [inA]
    · rw [if_neg (by simpa using h), if_neg (by simpa using h), r14_in_l1 n x]; rfl
theorem r14_in (x : Ix) (n : Int) : k_50 x n = inA x n := by
  unfold k_50; rw [LR.seq_go, r14_in_l1, List.nil_append]
theorem r14_type_l1 (n : Int) : ∀ (x : Ix) (a : List Int), (∀ r ∈ x, U r.1) → k_46 n x a = a ++ bareA (inA x n)
  | [], a, _ => by simp [k_46, inA, bareA]
  | r :: x, a, h => by
    have ur := h r (List.mem_cons_self ..)
    have ih := fun a => r14_type_l1 n x a (fun q hq => h q (List.mem_cons_of_mem _ hq))
    rw [k_46, r14_has, LR.seq_go, kind_r ur, ← kind_i ur]
    have e : inA (r :: x) n = if n ∈ r.2 then r.1 :: inA x n else inA x n := by
      unfold inA; rw [List.filter_cons]
      by_cases q : n ∈ r.2
      · rw [if_pos (decide_eq_true q), if_pos q]; rfl
      · rw [if_neg (by simpa using q), if_neg q]
    rw [e]
    by_cases q : n ∈ r.2
    · rw [if_pos (decide_eq_true q), if_pos q]
      unfold bareA
      rw [List.filter_cons]
      by_cases k : kindG r.1 = 4
      · rw [if_neg (by simpa using k), if_neg (by simpa using k), ih]; rfl
      · rw [if_pos (by simpa using k), if_pos (by simpa using k), ih]; simp [bareA]
    · have hd : decide (n ∈ r.2) = false := decide_eq_false q
      rw [hd, if_neg Bool.false_ne_true, if_neg q, if_neg Bool.false_ne_true, ih]
theorem r14_type {x : Ix} (h : ∀ r ∈ x, U r.1) (n : Int) : k_8a x n = bareA (inA x n) := by
  unfold k_8a; rw [LR.seq_go, r14_type_l1 n x [] h, List.nil_append]
theorem r14_row_l1 (r : Int × List Int) : ∀ (xs : List Int) (k : Nat), k_70 r xs k () = adjL 0 (fun y => !(k_1f y)) (fun y => y) r.2 xs k
  | [], _ => rfl
  | y :: ys, k => by rw [k_70, LR.seq_go, adjL, r14_row_l1 r ys]
theorem r14_row {r : Int × List Int} (hu : U r.1) : k_2c r = true ↔ RowOk r := by
  unfold k_2c
  rw [r14_row_l1, kind_r hu, ← kind_i hu]
  have hi := adjL_iff (0 : Int) (fun y => !(k_1f y)) (fun y => y) r.2
  rw [List.map_id'] at hi
  have hm : (∀ y ∈ r.2, (!(k_1f y)) = false) ↔ ∀ n ∈ r.2, 1 ≤ n ∧ n ≤ 1048576 := by
    refine forall_congr' (fun y => imp_congr_right (fun hy => ?_))
    rw [show k_1f y = k_87 y from rfl, ← table_iff]
    cases k_87 y <;> simp
  have hk : (if (kindG r.1) = 2 then true else (if (kindG r.1) = 3 then true else decide ((kindG r.1) = 4))) = true ↔ (kindG r.1 = 2 ∨ kindG r.1 = 3 ∨ kindG r.1 = 4) := by
    by_cases h2 : kindG r.1 = 2 <;> by_cases h3 : kindG r.1 = 3 <;> simp [h2, h3]
  rcases adjL_or (0 : Int) (fun y => !(k_1f y)) (fun y => y) r.2 r.2 0 with e | e
  · rw [e, LR.on_go]
    have q := hi.1 e
    by_cases hl : (0 : Int) < (r.2.length : Int)
    · rw [if_pos hl, hk]
      exact ⟨fun z => ⟨z, fun e => by rw [e] at hl; exact absurd hl (by decide), q.2, hm.1 q.1⟩, fun z => z.kind⟩
    · rw [if_neg hl]
      refine ⟨fun z => (by cases z), fun z => ?_⟩
      have := List.length_pos_iff.2 z.ne; omega
  · rw [e, LR.on_ret]
    refine ⟨fun z => (by cases z), fun z => ?_⟩
    rw [hi.2 ⟨hm.2 z.rng, z.up⟩] at e; cases e
theorem r14_l1 (x : Ix) : ∀ (xs : Ix) (k : Nat), k_5b x xs k () = adjL (0, []) (fun y => !(k_2c y)) (fun y => y.1) x xs k
  | [], _ => rfl
  | y :: ys, k => by rw [k_5b, LR.seq_go, adjL, r14_l1 x ys]
/-- put: as a set that rises -/
theorem rput_l1 (a : List Int) (x : Int) (ha : a.Pairwise (· < ·)) : ∀ (k m i : Nat), a.length - i ≤ k → k < m → i ≤ a.length → (∀ q, q < i → a.getD q 0 < x) →
    ∃ n : Nat, k_80 a x m (i : Int) = (n : Int) ∧ n ≤ a.length ∧ (∀ q, q < n → a.getD q 0 < x) ∧ (n < a.length → x ≤ a.getD n 0)
  | k, 0, i, _, h, _, _ => by omega
  | k, m + 1, i, h1, h2, h3, h4 => by
    rw [k_80, LR.seq_go, Int.toNat_natCast]
    by_cases hi : i < a.length
    · rw [if_pos (show (i : Int) < (a.length : Int) by omega)]
      by_cases q : a.getD i 0 < x
      · rw [decide_eq_true q, if_pos rfl, show (i : Int) + 1 = ((i + 1 : Nat) : Int) by omega]
        cases k with
        | zero => omega
        | succ k =>
          refine rput_l1 a x ha k m (i + 1) (by omega) (by omega) (by omega) (fun z hz => ?_)
          rcases Nat.lt_or_ge z i with e | e
          · exact h4 z e
          · rw [show z = i by omega]; exact q
      · rw [decide_eq_false q, if_neg Bool.false_ne_true]
        exact ⟨i, rfl, h3, h4, fun _ => by omega⟩
    · rw [if_neg (show ¬ (i : Int) < (a.length : Int) by omega), if_neg Bool.false_ne_true]
      exact ⟨i, rfl, h3, h4, fun z => by omega⟩
theorem rput_law {a : List Int} (ha : a.Pairwise (· < ·)) (x : Int) : (k_b a x).Pairwise (· < ·) ∧ ∀ y, y ∈ k_b a x ↔ y = x ∨ y ∈ a := by
  obtain ⟨n, h1, h2, h3, h4⟩ := rput_l1 a x ha a.length (((a.length : Int) - 0).toNat + 1) 0 (by omega) (by omega) (Nat.zero_le _) (fun q h => by omega)
  unfold k_b
  simp only [LR.seq_go]
  rw [show k_80 a x (((a.length : Int) - 0).toNat + 1) 0 = (n : Int) from h1]
  have hat : ∀ (i : Nat) (hi : i < a.length), a.getD i 0 = a[i] := fun i hi => by rw [List.getD_eq_getElem?_getD, List.getElem?_eq_getElem hi]; rfl
  rw [Int.toNat_natCast]
  by_cases hn : n < a.length
  · rw [if_pos (show (n : Int) < (a.length : Int) by omega)]
    by_cases e : a.getD n 0 = x
    · rw [if_pos (decide_eq_true e)]
      refine ⟨ha, fun y => ⟨fun q => .inr q, fun q => ?_⟩⟩
      rcases q with q | q
      · rw [q, ← e, hat n hn]; exact List.getElem_mem hn
      · exact q
    · rw [if_neg (by rw [decide_eq_true_eq]; exact e)]
      have hlt : x < a.getD n 0 := by have := h4 hn; omega
      refine ⟨?_, fun y => ?_⟩
      · rw [List.append_assoc, List.pairwise_append]
        refine ⟨ha.sublist (List.take_sublist _ _), ?_, fun u hu v hv => ?_⟩
        · rw [List.singleton_append, List.pairwise_cons]
          refine ⟨fun v hv => ?_, ha.sublist (List.drop_sublist _ _)⟩
          obtain ⟨i, hi⟩ := List.mem_iff_getElem?.1 hv
          rw [List.getElem?_drop] at hi
          obtain ⟨hil, rfl⟩ := List.getElem?_eq_some_iff.1 hi
          rcases Nat.eq_zero_or_pos i with z | z
          · subst z; rw [hat n hn] at hlt; exact hlt
          · have := (List.pairwise_iff_getElem.1 ha) n (n + i) hn hil (by omega)
            rw [hat n hn] at hlt; omega
        · obtain ⟨i, hi⟩ := List.mem_iff_getElem?.1 hu
          have hil : i < n := by have := (List.getElem?_eq_some_iff.1 hi).1; rw [List.length_take] at this; omega
          rw [List.getElem?_take_of_lt hil] at hi
          obtain ⟨hil2, rfl⟩ := List.getElem?_eq_some_iff.1 hi
          have h5 := h3 i hil
          rw [hat i hil2] at h5
          rcases List.mem_append.1 hv with hv | hv
          · rw [List.mem_singleton] at hv; omega
          · obtain ⟨j, hj⟩ := List.mem_iff_getElem?.1 hv
            rw [List.getElem?_drop] at hj
            obtain ⟨hjl, rfl⟩ := List.getElem?_eq_some_iff.1 hj
            exact (List.pairwise_iff_getElem.1 ha) i (n + j) hil2 hjl (by omega)
      · rw [List.append_assoc, List.mem_append, List.singleton_append, List.mem_cons, show (y ∈ a) = (y ∈ a.take n ++ a.drop n) by rw [List.take_append_drop], List.mem_append]
        constructor
        · rintro (q | q | q)
          · exact .inr (.inl q)
          · exact .inl q
          · exact .inr (.inr q)
        · rintro (q | q | q)
          · exact .inr (.inl q)
          · exact .inl q
          · exact .inr (.inr q)
  · rw [if_neg (show ¬ (n : Int) < (a.length : Int) by omega), if_neg Bool.false_ne_true, List.take_of_length_le (by omega), List.drop_of_length_le (by omega), List.append_nil]
    refine ⟨?_, fun y => ?_⟩
    · rw [List.pairwise_append]
      refine ⟨ha, List.pairwise_singleton _ _, fun u hu v hv => ?_⟩
      rw [List.mem_singleton] at hv; subst hv
      obtain ⟨i, hi⟩ := List.mem_iff_getElem?.1 hu
      obtain ⟨hil, rfl⟩ := List.getElem?_eq_some_iff.1 hi
      have := h3 i (by omega)
      rw [hat i hil] at this; exact this
    · rw [List.mem_append, List.mem_singleton]; exact ⟨fun q => q.symm, fun q => q.symm⟩
theorem rkeys_l1 : ∀ (l : List Int) (a : List Int), (∀ y ∈ l, U y) → a.Pairwise (· < ·) → (k_3a l a).Pairwise (· < ·) ∧ ∀ x, x ∈ k_3a l a ↔ x ∈ a ∨ ∃ y ∈ l, x = y ∨ (kindI y = 3 ∧ x ∈ pats y)
  | [], a, _, ha => ⟨ha, fun x => by simp [k_3a]⟩
  | y :: ys, a, h, ha => by
    have uy := h y (List.mem_cons_self ..)
    obtain ⟨p1, p2⟩ := rput_law ha y
    rw [k_3a]
    simp only [LR.seq_go]
    rw [kind_r uy]
    by_cases e : kindI y = 3
    · rw [if_pos e]
      obtain ⟨g1, g2, g3⟩ := (kind_pair uy).1 e
      have ep : k_1b y = (hA y, hB y) := by
        rw [parts_r uy]; unfold partsI; rw [if_neg (by omega), if_pos (.inl e)]
      rw [ep]
      rw [made_r (.inr (.inr rfl)) ⟨by omega, by omega⟩ ⟨by omega, by omega⟩, made_r (.inr (.inr rfl)) ⟨by omega, by omega⟩ ⟨by omega, by omega⟩, made_r (.inr (.inr rfl)) ⟨by omega, by omega⟩ ⟨by omega, by omega⟩]
      obtain ⟨q1, q2⟩ := rput_law p1 (made 9223372036854775808 (hA y) 0)
      obtain ⟨s1, s2⟩ := rput_law q1 (made 9223372036854775808 0 (hB y))
      obtain ⟨t1, t2⟩ := rput_law s1 (made 9223372036854775808 0 0)
      obtain ⟨i1, i2⟩ := rkeys_l1 ys _ (fun z hz => h z (List.mem_cons_of_mem _ hz)) t1
      refine ⟨i1, fun x => ?_⟩
      rw [i2 x, t2 x, s2 x, q2 x, p2 x]
      have hp : x ∈ pats y ↔ x = made 9223372036854775808 (hA y) 0 ∨ x = made 9223372036854775808 0 (hB y) ∨ x = made 9223372036854775808 0 0 := by
        simp only [pats, List.mem_cons, List.not_mem_nil, or_false]
      constructor
      · rintro ((z | z | z | z | z) | ⟨w, hw, z⟩)
        · exact .inr ⟨y, List.mem_cons_self .., .inr ⟨e, hp.2 (.inr (.inr z))⟩⟩
        · exact .inr ⟨y, List.mem_cons_self .., .inr ⟨e, hp.2 (.inr (.inl z))⟩⟩
        · exact .inr ⟨y, List.mem_cons_self .., .inr ⟨e, hp.2 (.inl z)⟩⟩
        · exact .inr ⟨y, List.mem_cons_self .., .inl z⟩
        · exact .inl z
        · exact .inr ⟨w, List.mem_cons_of_mem _ hw, z⟩
      · rintro (z | ⟨w, hw, z⟩)
        · exact .inl (.inr (.inr (.inr (.inr z))))
        · rcases List.mem_cons.1 hw with rfl | hw
          · rcases z with z | ⟨_, z⟩
            · exact .inl (.inr (.inr (.inr (.inl z))))
            · rcases hp.1 z with z | z | z
              · exact .inl (.inr (.inr (.inl z)))
              · exact .inl (.inr (.inl z))
              · exact .inl (.inl z)
          · exact .inr ⟨w, hw, z⟩
    · rw [if_neg e]
      obtain ⟨i1, i2⟩ := rkeys_l1 ys _ (fun z hz => h z (List.mem_cons_of_mem _ hz)) p1
      refine ⟨i1, fun x => ?_⟩
      rw [i2 x, p2 x]
      constructor
      · rintro ((z | z) | ⟨w, hw, z⟩)
        · exact .inr ⟨y, List.mem_cons_self .., .inl z⟩
        · exact .inl z
        · exact .inr ⟨w, List.mem_cons_of_mem _ hw, z⟩
      · rintro (z | ⟨w, hw, z⟩)
        · exact .inl (.inr z)
        · rcases List.mem_cons.1 hw with rfl | hw
          · rcases z with z | z
            · exact .inl (.inl z)
            · exact absurd z.1 e
          · exact .inr ⟨w, hw, z⟩
theorem r14_keys {l : List Int} (hu : ∀ y ∈ l, U y) (hc : k_2e l = 0) : k_21 l = k_44 l := by
  unfold k_21
  rw [LR.seq_go]
  obtain ⟨h1, h2⟩ := rkeys_l1 l [] hu List.Pairwise.nil
  refine up_ext h1 (Keys_up l) (fun x => ?_)
  rw [h2 x, Keys_mem hc hu]
  exact ⟨fun q => by rcases q with q | q; cases q; exact q, fun q => .inr q⟩
theorem inA_U {x : Ix} (h : ∀ r ∈ x, U r.1) (n : Int) : ∀ y ∈ bareA (inA x n), U y := fun y hy => by
  obtain ⟨r, hr, _, e⟩ := inA_mem.1 (bareA_mem.1 hy).1
  rw [← e]; exact h r hr
theorem r14_l4 {x : Ix} (h : ∀ r ∈ x, U r.1) : ∀ (l : List Int), (k_53 x l () = .go () ∧ ∀ n ∈ l, k_2e (bareA (inA x n)) = 0 ∧ k_44 (bareA (inA x n)) = inA x n) ∨ (k_53 x l () = .ret (.ret false) ∧ ¬ ∀ n ∈ l, k_2e (bareA (inA x n)) = 0 ∧ k_44 (bareA (inA x n)) = inA x n)
  | [] => .inl ⟨rfl, fun n hn => by cases hn⟩
  | n :: l => by
    rw [k_53]
    simp only [LR.seq_go]
    rw [r14_type h, r14_in, r03_same]
    have hR := r03_right (inA_U h n)
    have key : (if (!(k_1c (bareA (inA x n)))) = true then true else (!(decide (k_21 (bareA (inA x n)) = inA x n)))) = true ↔ ¬ (k_2e (bareA (inA x n)) = 0 ∧ k_44 (bareA (inA x n)) = inA x n) := by
      by_cases hc : k_2e (bareA (inA x n)) = 0
      · rw [hR.2 hc, Bool.not_true, if_neg Bool.false_ne_true, r14_keys (inA_U h n) hc, Bool.not_eq_true', decide_eq_false_iff_not]
        exact ⟨fun q z => q z.2, fun q z => q ⟨hc, z⟩⟩
      · have : k_1c (bareA (inA x n)) = false := by rw [← Bool.not_eq_true, hR]; exact hc
        rw [this, Bool.not_false, if_pos rfl]
        exact ⟨fun _ z => hc z.1, fun _ => rfl⟩
    by_cases q : k_2e (bareA (inA x n)) = 0 ∧ k_44 (bareA (inA x n)) = inA x n
    · rw [if_neg (fun z => key.1 z q)]
      rcases r14_l4 h l with ⟨e1, e2⟩ | ⟨e1, e2⟩
      · exact .inl ⟨e1, fun m hm => by rcases List.mem_cons.1 hm with rfl | hm; exact q; exact e2 m hm⟩
      · exact .inr ⟨e1, fun z => e2 (fun m hm => z m (List.mem_cons_of_mem _ hm))⟩
    · rw [if_pos (key.2 q)]
      exact .inr ⟨rfl, fun z => q (z n (List.mem_cons_self ..))⟩
theorem r14_l3 {x : Ix} (h : ∀ r ∈ x, U r.1) : ∀ (l : Ix), (k_52 x l () = .go () ∧ ∀ r ∈ l, ∀ n ∈ r.2, k_2e (bareA (inA x n)) = 0 ∧ k_44 (bareA (inA x n)) = inA x n) ∨ (k_52 x l () = .ret false ∧ ¬ ∀ r ∈ l, ∀ n ∈ r.2, k_2e (bareA (inA x n)) = 0 ∧ k_44 (bareA (inA x n)) = inA x n)
  | [] => .inl ⟨rfl, fun n hn => by cases hn⟩
  | r :: l => by
    rw [k_52]
    rcases r14_l4 h r.2 with ⟨e1, e2⟩ | ⟨e1, e2⟩
    · rw [e1, LR.on_go]
      rcases r14_l3 h l with ⟨f1, f2⟩ | ⟨f1, f2⟩
      · exact .inl ⟨f1, fun q hq => by rcases List.mem_cons.1 hq with rfl | hq; exact e2; exact f2 q hq⟩
      · exact .inr ⟨f1, fun z => f2 (fun q hq => z q (List.mem_cons_of_mem _ hq))⟩
    · rw [e1, LR.on_ret]
      exact .inr ⟨rfl, fun z => e2 (z r (List.mem_cons_self ..))⟩
theorem tabs_all {x : Ix} (h : ∀ r ∈ x, ∀ n ∈ r.2, k_2e (bareA (inA x n)) = 0 ∧ k_44 (bareA (inA x n)) = inA x n) (n : Int) : k_2e (bareA (inA x n)) = 0 ∧ k_44 (bareA (inA x n)) = inA x n := by
  by_cases e : n ∈ x.flatMap Prod.snd
  · obtain ⟨r, hr, hn⟩ := List.mem_flatMap.1 e
    exact h r hr n hn
  · rw [inA_none e]
    exact (l4_iff []).1 (by kernel_rfl)
theorem r14_right {x : Ix} (h : ∀ r ∈ x, U r.1) : k_15 x = true ↔ RightI x := by
  unfold k_15
  rw [r14_l1]
  have hi := adjL_iff ((0, []) : Int × List Int) (fun y => !(k_2c y)) (fun y => y.1) x
  have hm : (∀ y ∈ x, (!(k_2c y)) = false) ↔ ∀ r ∈ x, RowOk r := by
    refine forall_congr' (fun y => imp_congr_right (fun hy => ?_))
    rw [← r14_row (h y hy)]
    cases k_2c y <;> simp
  rcases adjL_or ((0, []) : Int × List Int) (fun y => !(k_2c y)) (fun y => y.1) x x 0 with e | e
  · rw [e, LR.on_go]
    have q := hi.1 e
    rcases r14_l3 h x with ⟨e1, e2⟩ | ⟨e1, e2⟩
    · rw [e1, LR.on_go]
      exact ⟨fun _ => ⟨q.2, hm.1 q.1, tabs_all e2⟩, fun _ => rfl⟩
    · rw [e1, LR.on_ret]
      exact ⟨fun z => (by cases z), fun z => absurd (fun r _ n _ => z.tabs n) e2⟩
  · rw [e, LR.on_ret]
    refine ⟨fun z => (by cases z), fun z => ?_⟩
    rw [hi.2 ⟨hm.2 z.rows, z.up⟩] at e; cases e
theorem r14_find_l1 (t : Int) : ∀ x : Ix, LR.on (k_4f t x ()) (fun r => r) (fun _ => []) = findA x t
  | [] => rfl
  | r :: x => by
    rw [k_4f, findA]
    by_cases e : r.1 = t
    · rw [if_pos e, if_pos e, LR.on_ret]
    · rw [if_neg e, if_neg e, r14_find_l1 t x]
theorem r14_find (x : Ix) (t : Int) : k_81 x t = findA x t := by unfold k_81; exact r14_find_l1 t x
theorem sameT_l1 (b : List Int) : ∀ (xs : List Int) (k : Nat), (LR.on (k_37 b xs k ()) (fun r => r) (fun _ => true) = true ↔ ∀ i, i < xs.length → xs.getD i 0 = b.getD (k + i) 0)
  | [], k => ⟨fun _ i h => by simp at h, fun _ => rfl⟩
  | y :: ys, k => by
    rw [k_37]
    by_cases e : y = b.getD k 0
    · rw [if_neg (fun q => q e), sameT_l1 b ys (k + 1)]
      constructor
      · intro q i hi
        cases i with
        | zero => simpa using e
        | succ i =>
          have := q i (by simpa using hi)
          rw [show k + (i + 1) = k + 1 + i by omega]; simpa using this
      · intro q i hi
        have := q (i + 1) (by simpa using hi)
        rw [show k + (i + 1) = k + 1 + i by omega] at this; simpa using this
    · rw [if_pos e, LR.on_ret]
      refine ⟨fun q => (by cases q), fun q => ?_⟩
      have := q 0 (by simp)
      exact absurd (by simpa using this) e
theorem r14_sameT (a b : List Int) : k_32 a b = decide (a = b) := by
  unfold k_32
  by_cases hl : a.length = b.length
  · rw [if_neg (fun q => q (by omega))]
    have := sameT_l1 b a 0
    by_cases e : a = b
    · rw [decide_eq_true e, this]; intro i hi; rw [e, Nat.zero_add]
    · rw [decide_eq_false e, ← Bool.not_eq_true, this]
      exact fun q => e (list_ext_getD hl (fun i hi => by have := q i hi; rwa [Nat.zero_add] at this))
  · rw [if_pos (fun q => hl (by omega))]
    exact (decide_eq_false (fun e => hl (by rw [e]))).symm
theorem r14_same_l1 (b : Ix) : ∀ (xs : Ix) (k : Nat), (LR.on (k_65 b xs k ()) (fun r => r) (fun _ => true) = true ↔ ∀ i r, xs[i]? = some r → r = b.getD (k + i) (0, []))
  | [], k => ⟨fun _ i r h => by simp at h, fun _ => rfl⟩
  | y :: ys, k => by
    rw [k_65, LR.seq_go, r14_sameT]
    have hb : (if y.1 ≠ (b.getD k (0, [])).1 then true else (!(decide (y.2 = (b.getD k (0, [])).2)))) = true ↔ ¬ y = b.getD k (0, []) := by
      by_cases e : y.1 = (b.getD k (0, [])).1
      · rw [if_neg (fun q => q e), Bool.not_eq_true', decide_eq_false_iff_not]
        exact ⟨fun q z => q (by rw [← z]), fun q z => q (Prod.ext e z)⟩
      · rw [if_pos e]; exact ⟨fun _ z => e (by rw [← z]), fun _ => rfl⟩
    by_cases e : y = b.getD k (0, [])
    · rw [if_neg (fun q => hb.1 q e), r14_same_l1 b ys (k + 1)]
      constructor
      · intro q i r hi
        cases i with
        | zero => obtain rfl : y = r := by simpa using hi
                  exact e
        | succ i =>
          have := q i r (by simpa using hi)
          rw [show k + (i + 1) = k + 1 + i by omega]; exact this
      · intro q i r hi
        have := q (i + 1) r (by simpa using hi)
        rw [show k + (i + 1) = k + 1 + i by omega] at this; exact this
    · rw [if_pos (hb.2 e), LR.on_ret]
      refine ⟨fun q => (by cases q), fun q => ?_⟩
      exact absurd (q 0 y rfl) e
theorem r14_same (a b : Ix) : k_45 a b = decide (a = b) := by
  unfold k_45
  by_cases hl : a.length = b.length
  · rw [if_neg (fun q => q (by omega))]
    have h := r14_same_l1 b a 0
    by_cases e : a = b
    · subst e
      rw [decide_eq_true rfl, h]; intro i r hi; rw [Nat.zero_add, List.getD_eq_getElem?_getD, hi]; rfl
    · rw [decide_eq_false e, ← Bool.not_eq_true, h]
      refine fun q => e (List.ext_getElem? (fun i => ?_))
      by_cases hi : i < a.length
      · have h1 : a[i]? = some a[i] := List.getElem?_eq_getElem hi
        have := q i _ h1
        rw [Nat.zero_add, List.getD_eq_getElem?_getD, List.getElem?_eq_getElem (by omega : i < b.length)] at this
        rw [h1, List.getElem?_eq_getElem (by omega : i < b.length), this]; rfl
      · rw [List.getElem?_eq_none (by omega), List.getElem?_eq_none (by omega)]
  · rw [if_pos (fun q => hl (by omega))]
    exact (decide_eq_false (fun e => hl (by rw [e]))).symm
end Go.SX

set_option linter.unusedVariables false
set_option linter.unusedSimpArgs false
namespace Go.SX
open Go
theorem less_int' (x y : Int) : k_a6 x y = decide (x < y) := by
  unfold k_a6 k_9a
  simp
theorem bsi_lb (a : List Int) (x : Int) (ha : a.Pairwise (· < ·)) (hl : a.length ≤ 2000000) : ∀ (k m i j : Nat), j - i ≤ k → k < m → i ≤ j → j ≤ a.length →
    (∀ q, q < i → a.getD q 0 < x) → (∀ q, j ≤ q → q < a.length → x ≤ a.getD q 0) →
    ∃ n o : Nat, k_22 a x m ((i : Int), (j : Int)) = ((n : Int), (o : Int)) ∧ n ≤ a.length ∧ (∀ q, q < n → a.getD q 0 < x) ∧ (∀ q, n ≤ q → q < a.length → x ≤ a.getD q 0)
  | k, 0, i, j, _, h, _, _, _, _ => by omega
  | k, m + 1, i, j, h1, h2, h3, h4, h5, h6 => by
    simp only [k_22]
    have hlt : ∀ {p q : Nat}, p < q → q < a.length → a.getD p 0 < a.getD q 0 := fun {p q} h hq => by
      rw [List.getD_eq_getElem?_getD, List.getD_eq_getElem?_getD, List.getElem?_eq_getElem hq, List.getElem?_eq_getElem (by omega : p < a.length)]
      exact (List.pairwise_iff_getElem.1 ha) p q (by omega) hq h
    by_cases h : i < j
    · rw [if_pos (show (i : Int) < (j : Int) by omega), midI (i := (i : Int)) (j := (j : Int)) (by omega) (by omega) (by omega)]
      obtain ⟨d, hd⟩ : ∃ d : Nat, d = (i + j) / 2 := ⟨_, rfl⟩
      have e1 : ((i : Int) + (j : Int)) / 2 = (d : Int) := by omega
      have d1 : i ≤ d := by omega
      have d2 : d < j := by omega
      rw [e1, Int.toNat_natCast, less_int']
      cases k with
      | zero => omega
      | succ k =>
        by_cases q : a.getD d 0 < x
        · rw [decide_eq_true q, if_pos rfl, show (d : Int) + 1 = ((d + 1 : Nat) : Int) by omega]
          refine bsi_lb a x ha hl k m (d + 1) j (by omega) (by omega) (by omega) h4 (fun z hz => ?_) h6
          rcases Nat.lt_or_ge z d with e | e
          · exact Int.lt_trans (hlt e (by omega)) q
          · have : z = d := by omega
            rw [this]; exact q
        · rw [decide_eq_false q, if_neg Bool.false_ne_true]
          refine bsi_lb a x ha hl k m i d (by omega) (by omega) d1 (by omega) h5 (fun z hz hzl => ?_)
          rcases Nat.eq_or_lt_of_le hz with e | e
          · subst e; omega
          · have := hlt e hzl; omega
    · rw [if_neg (show ¬ (i : Int) < (j : Int) by omega)]
      exact ⟨i, j, rfl, by omega, h5, fun q h7 h8 => h6 q (by omega) h8⟩
/-- one more number, where it belongs -/
theorem put1_law {t : List Int} (ht : t.Pairwise (· < ·)) (hl : t.length ≤ 2000000) {n : Int} (hn : n ∉ t) : (k_99 n t).Pairwise (· < ·) ∧ ∀ y, y ∈ k_99 n t ↔ y = n ∨ y ∈ t := by
  obtain ⟨i, o, h1, h2, h3, h4⟩ := bsi_lb t n ht hl t.length (((t.length : Int) - 0).toNat + 1) 0 t.length (by omega) (by omega) (by omega) (Nat.le_refl _) (fun q h => by omega) (fun q h h' => by omega)
  have hr : (k_1d t n).1 = (i : Int) := by
    unfold k_1d
    rw [show ((0 : Int), (t.length : Int)) = (((0 : Nat) : Int), (t.length : Int)) from rfl, h1]
    simp only [LR.seq_go]
    split
    · split
      · rfl
      · split <;> rfl
    · rfl
  unfold k_99
  rw [LR.seq_go, hr, Int.toNat_natCast]
  unfold ins
  have hat : ∀ (k : Nat) (hk : k < t.length), t.getD k 0 = t[k] := fun k hk => by rw [List.getD_eq_getElem?_getD, List.getElem?_eq_getElem hk]; rfl
  refine ⟨?_, fun y => ?_⟩
  · rw [List.pairwise_append]
    refine ⟨ht.sublist (List.take_sublist _ _), ?_, fun u hu v hv => ?_⟩
    · rw [List.pairwise_cons]
      refine ⟨fun v hv => ?_, ht.sublist (List.drop_sublist _ _)⟩
      have hv' := List.mem_of_mem_drop hv
      obtain ⟨k, hk⟩ := List.mem_iff_getElem?.1 hv
      rw [List.getElem?_drop] at hk
      obtain ⟨hkl, e⟩ := List.getElem?_eq_some_iff.1 hk
      have := h4 (i + k) (by omega) hkl
      rw [hat _ hkl, e] at this
      rcases Int.lt_or_eq_of_le this with q | q
      · exact q
      · rw [← q] at hv'; exact absurd hv' hn
    · obtain ⟨k, hk⟩ := List.mem_iff_getElem?.1 hu
      have hki : k < i := by have := (List.getElem?_eq_some_iff.1 hk).1; rw [List.length_take] at this; omega
      rw [List.getElem?_take_of_lt hki] at hk
      obtain ⟨hkl, e⟩ := List.getElem?_eq_some_iff.1 hk
      have h5 := h3 k hki
      rw [hat k hkl, e] at h5
      rcases List.mem_cons.1 hv with hv | hv
      · omega
      · obtain ⟨j, hj⟩ := List.mem_iff_getElem?.1 hv
        rw [List.getElem?_drop] at hj
        obtain ⟨hjl, rfl⟩ := List.getElem?_eq_some_iff.1 hj
        rw [← e]
        exact (List.pairwise_iff_getElem.1 ht) k (i + j) hkl hjl (by omega)
  · rw [List.mem_append, List.mem_cons, show (y ∈ t) = (y ∈ t.take i ++ t.drop i) by rw [List.take_append_drop], List.mem_append]
    constructor
    · rintro (q | q | q)
      · exact .inr (.inl q)
      · exact .inl q
      · exact .inr (.inr q)
    · rintro (q | q | q)
      · exact .inr (.inl q)
      · exact .inl q
      · exact .inr (.inr q)
theorem drop1_eq (n : Int) (t : List Int) : k_8f n t = t.filter (fun y => !decide (y = n)) := by
  unfold k_8f
  rw [LR.seq_go, delf_int]; rfl
/-- the ids that are gone through -/
def allA (x : Ix) (ids : List Int) : List Int := dd (sortI (ids ++ x.map Prod.fst))
theorem allA_up (x : Ix) (ids : List Int) : (allA x ids).Pairwise (· < ·) := dd_up (sortI_sorted _)
theorem allA_mem (x : Ix) (ids : List Int) (i : Int) : i ∈ allA x ids ↔ i ∈ ids ∨ i ∈ x.map Prod.fst := by
  unfold allA; rw [dd_mem, (k_1 _).mem_iff, List.mem_append]
def turnF (x : Ix) (ids : List Int) (g : List Int → List Int) (i : Int) : List Int := if i ∈ ids then g (findA x i) else findA x i
/-- an index in which the rows of ids are changed -/
def turnL (f : Int → List Int) (A : List Int) : Ix := A.filterMap (fun i => if f i = [] then none else some (i, f i))
theorem turned_l2_eq {x : Ix} (hs : (x.map Prod.fst).Pairwise (· < ·)) (hl : x.length ≤ 2000000) (ids : List Int) (g : List Int → List Int) : ∀ (A : List Int) (s : Ix), k_68 x ids g A s = s ++ turnL (turnF x ids g) A
  | [], s => by simp [k_68, turnL]
  | i :: A, s => by
    rw [k_68]
    simp only [LR.seq_go]
    have hf : (if (k_5 x (i, []) (fun z0 z1 => k_2d z0 z1)).2 = true then (x.getD (k_5 x (i, []) (fun z0 z1 => k_2d z0 z1)).1.toNat (0, [])).2 else []) = findA x i := by
      rcases bf_find x i [] hs hl with ⟨n, r, h1, h2, h3⟩ | ⟨h1, h2⟩
      · rw [h3, if_pos rfl, Int.toNat_natCast, List.getD_eq_getElem?_getD, h1, Option.getD_some, ← h2, findA_mem hs (List.mem_of_getElem? h1)]
      · rw [h2, if_neg Bool.false_ne_true, findA_no h1]
    rw [hf]
    have ht : (if i ∈ ids then g (findA x i) else findA x i) = turnF x ids g i := rfl
    rw [ht]
    unfold turnL
    rw [List.filterMap_cons]
    by_cases e : turnF x ids g i = []
    · rw [if_pos e, if_neg (by rw [e]; decide)]
      exact turned_l2_eq hs hl ids g A s
    · rw [if_neg e, if_pos (by have := List.length_pos_iff.2 e; omega), turned_l2_eq hs hl ids g A]
      simp [turnL]
theorem turned_eq {x : Ix} (hs : (x.map Prod.fst).Pairwise (· < ·)) (hl : x.length ≤ 2000000) (ids : List Int) (g : List Int → List Int) : k_59 x ids g = turnL (turnF x ids g) (allA x ids) := by
  unfold k_59
  simp only [LR.seq_go]
  rw [turned_l1_eq, once_eq, turned_l2_eq hs hl, List.nil_append]; rfl
theorem turnL_mem {f : Int → List Int} {A : List Int} {r : Int × List Int} : r ∈ turnL f A ↔ r.1 ∈ A ∧ r.2 = f r.1 ∧ f r.1 ≠ [] := by
  unfold turnL
  rw [List.mem_filterMap]
  constructor
  · rintro ⟨i, hi, h⟩
    split at h
    · cases h
    · rename_i e
      injection h with h
      subst h
      exact ⟨hi, rfl, e⟩
  · rintro ⟨h1, h2, h3⟩
    exact ⟨r.1, h1, by rw [if_neg h3, ← h2]⟩
theorem turnL_up (f : Int → List Int) : ∀ {A : List Int}, A.Pairwise (· < ·) → ((turnL f A).map Prod.fst).Pairwise (· < ·)
  | [], _ => List.Pairwise.nil
  | i :: A, h => by
    rw [List.pairwise_cons] at h
    have ih := turnL_up f h.2
    unfold turnL at ih ⊢
    rw [List.filterMap_cons]
    by_cases e : f i = []
    · rw [if_pos e]; exact ih
    · rw [if_neg e, List.map_cons, List.pairwise_cons]
      refine ⟨fun j hj => ?_, ih⟩
      obtain ⟨r, hr, rfl⟩ := List.mem_map.1 hj
      exact h.1 r.1 (turnL_mem.1 hr).1
theorem findA_turnL {f : Int → List Int} {A : List Int} (h : A.Pairwise (· < ·)) (i : Int) (hi : i ∉ A → f i = []) : findA (turnL f A) i = f i := by
  by_cases e : f i = []
  · rw [e]
    refine findA_no (fun r hr q => ?_)
    subst q
    exact (turnL_mem.1 hr).2.2 e
  · have hA : i ∈ A := Decidable.byContradiction (fun q => e (hi q))
    exact findA_mem (turnL_up f h) (r := (i, f i)) (turnL_mem.2 ⟨hA, rfl, e⟩)
theorem findA_ne {x : Ix} {i : Int} (h : findA x i ≠ []) : i ∈ x.map Prod.fst := by
  refine Decidable.byContradiction (fun q => h (findA_no (fun r hr e => q ?_)))
  rw [← e]; exact List.mem_map_of_mem hr
theorem findA_turned {x : Ix} (hs : (x.map Prod.fst).Pairwise (· < ·)) (hl : x.length ≤ 2000000) (ids : List Int) (g : List Int → List Int) (i : Int) : findA (k_59 x ids g) i = if i ∈ ids then g (findA x i) else findA x i := by
  rw [turned_eq hs hl, findA_turnL (allA_up x ids)]
  · rfl
  · intro q
    rw [allA_mem] at q
    unfold turnF
    rw [if_neg (fun z => q (.inl z))]
    exact Decidable.byContradiction (fun z => q (.inr (findA_ne z)))
/-- Two indexes are one, if all ids have the same tables. -/
structure Tidy (x : Ix) : Prop where
  up : (x.map Prod.fst).Pairwise (· < ·)
  ne : ∀ r ∈ x, r.2 ≠ []
theorem Tidy.of {x : Ix} (h : RightI x) : Tidy x := ⟨h.up, fun r hr => (h.rows r hr).ne⟩
theorem Tidy.turned {x : Ix} (hs : (x.map Prod.fst).Pairwise (· < ·)) (hl : x.length ≤ 2000000) (ids : List Int) (g : List Int → List Int) : Tidy (k_59 x ids g) := by
  rw [turned_eq hs hl]
  exact ⟨turnL_up _ (allA_up x ids), fun r hr => by rw [(turnL_mem.1 hr).2.1]; exact (turnL_mem.1 hr).2.2⟩
theorem Tidy.as_map {x : Ix} (h : Tidy x) : x = (x.map Prod.fst).map (fun i => (i, findA x i)) := by
  rw [List.map_map]
  conv => lhs; rw [← List.map_id x]
  refine List.map_congr_left (fun r hr => ?_)
  show r = (r.1, findA x r.1)
  rw [findA_mem h.up hr]
theorem Tidy.fst_iff {x : Ix} (h : Tidy x) (i : Int) : i ∈ x.map Prod.fst ↔ findA x i ≠ [] := by
  refine ⟨fun q => ?_, findA_ne⟩
  obtain ⟨r, hr, rfl⟩ := List.mem_map.1 q
  rw [findA_mem h.up hr]; exact h.ne r hr
theorem Tidy.ext {x y : Ix} (hx : Tidy x) (hy : Tidy y) (h : ∀ i, findA x i = findA y i) : x = y := by
  have e : x.map Prod.fst = y.map Prod.fst := up_ext hx.up hy.up (fun i => by rw [hx.fst_iff, hy.fst_iff, h i])
  rw [hx.as_map, hy.as_map, e]
  exact List.map_congr_left (fun i _ => by rw [h i])
theorem inA_find {x : Ix} (hs : (x.map Prod.fst).Pairwise (· < ·)) (n i : Int) : i ∈ inA x n ↔ n ∈ findA x i := by
  rw [inA_mem]
  constructor
  · rintro ⟨r, hr, h, rfl⟩; rw [findA_mem hs hr]; exact h
  · intro h
    obtain ⟨r, hr, e⟩ := List.mem_map.1 (findA_ne (List.ne_nil_of_mem h))
    refine ⟨r, hr, ?_, e⟩
    rw [← e, findA_mem hs hr] at h; exact h
theorem keys_kind {l : List Int} (hc : k_2e l = 0) (hu : ∀ y ∈ l, U y) {x : Int} (hx : x ∈ k_44 l) : (kindG x = 2 ∨ kindG x = 3 ∨ kindG x = 4) ∧ U x := by
  obtain ⟨_, _, hmay⟩ := tcheck_ok hc
  obtain ⟨y, hy, q⟩ := (Keys_mem hc hu x).1 hx
  rcases q with rfl | q
  · have := may_kind (hu x hy) (hmay x hy)
    rw [kind_i (hu x hy)]
    exact ⟨by omega, hu x hy⟩
  · obtain ⟨k4, ux⟩ := pats_kind (hu y hy) q.1 q.2
    rw [kind_i ux]; exact ⟨.inr (.inr k4), ux⟩
theorem rows_len {x : Ix} (h : RightI x) (i : Int) : (findA x i).Pairwise (· < ·) ∧ ∀ n ∈ findA x i, 1 ≤ n ∧ n ≤ 1048576 := by
  by_cases e : findA x i = []
  · rw [e]; exact ⟨List.Pairwise.nil, fun n hn => by cases hn⟩
  · obtain ⟨r, hr, q⟩ := List.mem_map.1 (findA_ne e)
    rw [← q, findA_mem h.up hr]
    exact ⟨(h.rows r hr).up, (h.rows r hr).rng⟩
theorem up_len : ∀ {l : List Int} {a b : Int}, l.Pairwise (· < ·) → (∀ n ∈ l, a ≤ n ∧ n ≤ b) → l.length ≤ (b - a + 1).toNat
  | [], _, _, _, _ => Nat.zero_le _
  | x :: l, a, b, h, hr => by
    rw [List.pairwise_cons] at h
    have h0 := hr x (List.mem_cons_self ..)
    have := up_len (a := x + 1) (b := b) h.2 (fun n hn => ⟨by have := h.1 n hn; omega, (hr n (List.mem_cons_of_mem _ hn)).2⟩)
    rw [List.length_cons]; omega
end Go.SX

set_option linter.unusedVariables false
set_option linter.unusedSimpArgs false
namespace Go.SX
open Go
theorem drop_ok {x : Ix} (h : RightI x) {n : Int} (hin : inA x n ≠ []) : k_8c x n = (k_59 x (inA x n) (fun z => k_8f n z), 0) := by
  unfold k_8c
  simp only [LR.seq_go]
  rw [if_neg (fun q => q ((check_iff x).1.2 h)), in_m]
  show (if ((inA x n).length : Int) = 0 then _ else _) = _
  rw [if_neg (fun q => hin (List.eq_nil_of_length_eq_zero (by omega)))]
  rfl
end Go.SX

set_option linter.unusedVariables false
set_option linter.unusedSimpArgs false
namespace Go.SX
open Go Go.Proofs

def k_7e (a1 : Int) : List Int → Unit → LR (Bool) (Unit)
  | [], sl1 => .go ()
  | yl1 :: ysl1, sl1 => if yl1 = a1 then (.ret true) else (k_7e a1 ysl1 ())
def k_90 (a0 : List Int) (a1 : Int) : Bool :=
  LR.on (k_7e a1 a0 ()) (fun r => r) (fun ol1 => false)
set_option maxHeartbeats 3200000 in
theorem windroseref03_Has_c (H : Heap) (va0 : Value) (a0 : List Int) (ha0 : RdS (intE .u64) H va0 a0) (a1 : Int) : Fv Tryz.prog (fnv 46) [va0, .int .u64 a1] H (.bool (k_90 a0 a1)) := by
 refine Fc.of_body (N := 17) Tryz.func46 rfl kA rfl rfl ?_
 intro w0
 obtain ⟨Aa0, ca0, rfl, hca0, hda0, ha0⟩ := ha0.shape
 refine sR ?_
 refine R.asE rfl cA ?_
 refine nN ?_
 refine T.seq ?_
 refine sR ?_
 refine R.mvE rfl cA ?_
 refine R.len Tryz.underlying30 rfl rfl ?_
 refine R.mvE rfl cA ?_
 refine nN ?_
 refine T.block ?_
 refine T.loop (ι := Nat) (fun kl1 H' L' ds' => kl1 ≤ a0.length ∧ Has L' [] ∧ k_7e a1 (a0.drop kl1) () = k_7e a1 a0 ()) (fun kl1 => [(9, .int .i64 (kl1 : Int)), (1, .int .u64 a1), (7, .slice Aa0 a0.length ca0), (8, .int .i64 (a0.length : Int))]) (fun kl1 => a0.length - kl1) 0 ?_ ?_ ?_
 ·exact ⟨oA, Has.nil, (by rfl)⟩
 ·exact ⟨rfl, rfl, rfl, rfl, trivial⟩
 intro kl1 σ_l1 H_l1 L_l1 ds_l1 s_l1 hI_l1
 obtain ⟨hkl1, hI_l1⟩ := hI_l1
 obtain ⟨hLl1, hQl1⟩ := hI_l1
 refine T.has hLl1 ?_
 refine sR ?_
 refine R.lss rfl rfl rfl ?_
 refine nN ?_
 refine T.seq ?_
 refine T.condD rfl (fun c10 => ?_) (fun c10 => ?_)
 ·have hltl1 : kl1 < a0.length := by omega
  obtain ⟨yl1, hyl1⟩ := getk (xs := a0) (k := kl1) oA
  refine T.skip (Post.thnN ?_)
  refine T.seq ?_
  refine T.block ?_
  refine sR ?_
  obtain ⟨b11, o11, i11, k11⟩ := RdS.elem (ha0.mono s_l1) hyl1
  obtain ⟨l11, g11, k11⟩ := k11
  obtain rfl : l11 = [.int .u64 yl1] := g11
  refine R.ixp Tryz.underlying30 Tryz.sizeOf43 rfl rfl rfl oA i11 ?_
  refine R.ldC Tryz.isAgg43 rfl rfl (k11 0 _ rfl) ?_
  refine R.asE rfl cA ?_
  refine nN ?_
  refine sR ?_
  refine R.mvE rfl cA ?_
  refine R.mvE rfl cA ?_
  refine R.eql rfl rfl rfl ?_
  refine nN ?_
  refine T.condD rfl (fun c15 => ?_) (fun c15 => ?_)
  ·refine T.set 15 (.bool true) (congrArg Value.bool (decide_eq_true c15)) ?_
   refine sR ?_
   refine R.asE rfl cA ?_
   refine nN ?_
   refine T.has Has.nil ?_
   refine T.ret (Post.blkR (Post.thnR (Post.thnR (Post.blkR (Post.thnR ?_)))))
   have hXl1 : k_7e a1 a0 () = .ret true := by rw [← hQl1, k_16 hyl1, k_7e]; rw [if_pos c15]
   have hM : k_90 a0 a1 = true := by rw [k_90, hXl1, LR.on_ret]
   exact fin1L (v := .bool true) [] rfl rfl (List.Sublist.refl _) ⟨rfl, by first | rw [hM] | rfl⟩
  refine T.set 15 (.bool false) (congrArg Value.bool (decide_eq_false c15)) ?_
  refine T.skip (Post.blkN ?_)
  refine id (Post.thnN ?_)
  refine T.region ?_
  refine R.addI rfl rfl rfl oA ?_
  refine R.mvE rfl cA ?_
  refine nN ?_
  exact ⟨kl1 + 1, s_l1, ⟨oA, Has.nil, (by rw [← hQl1, k_16 hyl1, k_7e]; rw [if_neg c15])⟩, by show a0.length - (kl1 + 1) < a0.length - kl1; omega, rfl, rfl, rfl, rfl, trivial⟩
 refine T.exit (Post.thnE (Post.thnE (Post.blkX ?_)))
 have hEl1 : k_7e a1 a0 () = .go () := (hQl1.symm.trans (by rw [show kl1 = a0.length by omega, List.drop_length, k_7e]))
 refine id (Post.thnN ?_)
 refine sR ?_
 refine R.asE rfl cA ?_
 refine nN ?_
 refine T.has Has.nil ?_
 refine T.ret ?_
 have hM : k_90 a0 a1 = false := by rw [k_90, hEl1, LR.on_go]
 exact fin1L (v := .bool false) [] rfl rfl (List.Sublist.refl _) ⟨rfl, by first | rw [hM] | rfl⟩
def k_42 (a1 : Int) : List Int → ((List Int)) → (List Int)
  | [], sl1 => sl1
  | yl1 :: ysl1, sl1 => if yl1 ≠ a1 then (k_42 a1 ysl1 ((sl1 ++ [yl1]))) else (k_42 a1 ysl1 sl1)
def k_82 (a0 : List Int) (a1 : Int) : (List Int) :=
  LR.seq (k_42 a1 a0 []) (fun ol1 => ol1)
set_option maxHeartbeats 3200000 in
theorem windroseref14_without_c (H : Heap) (va0 : Value) (a0 : List Int) (ha0 : RdS (intE .i64) H va0 a0) (a1 : Int) (hl : a0.length ≤ 1000000) : Fc Tryz.prog (fnv 44) [va0, .int .i64 a1] H [] (fun v' H' L' => ∃ u0_0 c0_0, v' = u0_0 ∧ L' = [c0_0] ∧ OwnS (intE .i64) 3 H' u0_0 (k_82 a0 a1) c0_0) := by
 refine Fc.of_body (N := 23) Tryz.func44 rfl kA rfl rfl ?_
 intro w0
 obtain ⟨Aa0, ca0, rfl, hca0, hda0, ha0⟩ := ha0.shape
 refine sR ?_
 refine R.asE rfl cA ?_
 refine nN ?_
 refine sR ?_
 refine R.asE rfl cA ?_
 refine nN ?_
 refine T.seq ?_
 refine sR ?_
 refine R.mvE rfl cA ?_
 refine R.len Tryz.underlying25 rfl rfl ?_
 refine R.mvE rfl cA ?_
 refine nN ?_
 refine T.block ?_
 refine T.loop (ι := Nat × Value × (List Int) × Chunk) (fun ⟨kl1, v5l1, x5l1, c5l1⟩ H' L' ds' => kl1 ≤ a0.length ∧ Has L' [c5l1] ∧ OwnS (intE .i64) 3 H' v5l1 x5l1 c5l1 ∧ x5l1.length ≤ kl1 ∧ k_42 a1 (a0.drop kl1) x5l1 = k_42 a1 a0 []) (fun ⟨kl1, v5l1, x5l1, c5l1⟩ => [(10, .int .i64 (kl1 : Int)), (1, .int .i64 a1), (5, v5l1), (8, .slice Aa0 a0.length ca0), (9, .int .i64 (a0.length : Int))]) (fun ⟨kl1, v5l1, x5l1, c5l1⟩ => a0.length - kl1) (0, .slice none 0 0, [], []) ?_ ?_ ?_
 ·exact ⟨oA, (Has.none Has.nil), OwnS.nil, bA, (by rfl)⟩
 ·exact ⟨rfl, rfl, rfl, rfl, rfl, trivial⟩
 intro ⟨kl1, v5l1, x5l1, c5l1⟩ σ_l1 H_l1 L_l1 ds_l1 s_l1 hI_l1
 obtain ⟨hkl1, hI_l1⟩ := hI_l1
 obtain ⟨hLl1, w5l1, hBl1_0, hQl1⟩ := hI_l1
 obtain ⟨A5l1, p5l1, rfl, m5l1, n5l1_⟩ := OwnS.shape w5l1
 refine T.has hLl1 ?_
 refine sR ?_
 refine R.lss rfl rfl rfl ?_
 refine nN ?_
 refine T.seq ?_
 refine T.condD rfl (fun c11 => ?_) (fun c11 => ?_)
 ·have hltl1 : kl1 < a0.length := by omega
  obtain ⟨yl1, hyl1⟩ := getk (xs := a0) (k := kl1) oA
  refine T.skip (Post.thnN ?_)
  refine T.seq ?_
  refine T.block ?_
  refine sR ?_
  obtain ⟨b12, o12, i12, k12⟩ := RdS.elem (ha0.mono s_l1) hyl1
  obtain ⟨l12, g12, k12⟩ := k12
  obtain rfl : l12 = [.int .i64 yl1] := g12
  refine R.ixp Tryz.underlying25 Tryz.sizeOf3 rfl rfl rfl oA i12 ?_
  refine R.ldC Tryz.isAgg3 rfl rfl (k12 0 _ rfl) ?_
  refine R.asE rfl cA ?_
  refine nN ?_
  refine sR ?_
  refine R.mvE rfl cA ?_
  refine R.mvE rfl cA ?_
  refine R.neq rfl rfl rfl ?_
  refine nN ?_
  refine T.condD rfl (fun c16 => ?_) (fun c16 => ?_)
  ·refine T.set 16 (.bool true) (congrArg Value.bool (decide_eq_true c16)) ?_
   refine T.region ?_
   refine R.mvE rfl cA ?_
   refine R.mvE rfl cA ?_
   refine R.bs rfl (k_3f Tryz.underlying25 Tryz.sizeOf3 Tryz.zeroValue3 rfl rfl) ?_
   intro b19
   have w19 : OwnS (intE .i64) 3 H_l1 (.slice (some ⟨b19, 0, none⟩) 1 1) [yl1] [(b19, .cells #[.int .i64 yl1] 3)] := OwnS.lit (xs := [yl1]) (k_2a (a := [.int .i64 yl1]) rfl k_4d) (by show 1 ≤ maxLen; decide)
   obtain ⟨k20, y20, r20⟩ := Src.ownA w19
   refine R.app (E := (intE .i64)) (e := 3) (xs := x5l1) (ys := [yl1]) Tryz_ty25 rfl rfl rfl w5l1 (.tl .hd) (r20 _ .hd) y20 (by (try simp only [List.length_append, List.length_cons, List.length_nil, List.length_replicate, List.length_take, List.length_drop]); omega) (by (try simp only [List.length_append, List.length_cons, List.length_nil, List.length_replicate, List.length_take, List.length_drop]); omega) ?_
   intro v20 c20 w20
   obtain ⟨A20, p20, rfl, m20, n20⟩ := OwnS.shape w20
   refine TL.del (.tl .hd) ?_
   refine R.asE rfl cA ?_
   refine TL.nil (Post.blkN ?_)
   refine id (Post.thnN ?_)
   refine T.region ?_
   refine R.addI rfl rfl rfl oA ?_
   refine R.mvE rfl cA ?_
   refine nN ?_
   exact ⟨(kl1 + 1, .slice A20 (x5l1 ++ [yl1]).length p20, (x5l1 ++ [yl1]), c20), s_l1, ⟨oA, (Has.cons .hd Has.nil), w20, bA, (by rw [← hQl1, k_16 hyl1, k_42]; rw [if_pos c16])⟩, by show a0.length - (kl1 + 1) < a0.length - kl1; omega, rfl, rfl, rfl, rfl, rfl, trivial⟩
  refine T.set 16 (.bool false) (congrArg Value.bool (decide_eq_false c16)) ?_
  refine T.skip (Post.blkN ?_)
  refine id (Post.thnN ?_)
  refine T.region ?_
  refine R.addI rfl rfl rfl oA ?_
  refine R.mvE rfl cA ?_
  refine nN ?_
  exact ⟨(kl1 + 1, .slice A5l1 x5l1.length p5l1, x5l1, c5l1), s_l1, ⟨oA, (Has.cons .hd Has.nil), w5l1, bA, (by rw [← hQl1, k_16 hyl1, k_42]; rw [if_neg c16])⟩, by show a0.length - (kl1 + 1) < a0.length - kl1; omega, rfl, rfl, rfl, rfl, rfl, trivial⟩
 refine T.exit (Post.thnE (Post.thnE (Post.blkX ?_)))
 have hEl1 : k_42 a1 a0 [] = x5l1 := (hQl1.symm.trans (by rw [show kl1 = a0.length by omega, List.drop_length, k_42]))
 refine id (Post.thnN ?_)
 refine sR ?_
 refine R.mvE rfl cA ?_
 refine R.asE rfl cA ?_
 refine nN ?_
 refine T.has (Has.cons .hd Has.nil) ?_
 refine T.ret ?_
 have hM : k_82 a0 a1 = x5l1 := by rw [k_82, hEl1, LR.seq_go]
 exact fin1L (v := .slice A5l1 x5l1.length p5l1) [c5l1] rfl rfl (List.Sublist.refl _) ⟨.slice A5l1 x5l1.length p5l1, c5l1, by first | rw [hM] | rfl, rfl, by rw [hM]; exact w5l1⟩
theorem rwithout_l1 (n : Int) : ∀ (l a : List Int), k_42 n l a = a ++ l.filter (fun y => !decide (y = n))
  | [], a => by simp [k_42]
  | y :: ys, a => by
    rw [k_42, List.filter_cons]
    by_cases h : y = n
    · rw [if_neg (fun q => q h), rwithout_l1 n ys, if_neg (by simpa using h)]
    · rw [if_pos h, rwithout_l1 n ys, if_pos (by simpa using h)]; simp
theorem rwithout_eq (l : List Int) (n : Int) : k_82 l n = l.filter (fun y => !decide (y = n)) := by
  unfold k_82; rw [LR.seq_go, rwithout_l1, List.nil_append]
theorem rwithout_len (l : List Int) (n : Int) (r : List Int) (e : r = k_82 l n) : r.length ≤ l.length := by
  rw [e, rwithout_eq]; exact List.length_filter_le _ _
def k_57 (a1 : Int) : List Int → ((List Int)) → (List Int)
  | [], sl2 => sl2
  | yl2 :: ysl2, sl2 => if a1 < yl2 then (k_57 a1 ysl2 ((sl2 ++ [yl2]))) else (k_57 a1 ysl2 sl2)
def k_58 (a1 : Int) : List Int → ((List Int)) → (List Int)
  | [], sl1 => sl1
  | yl1 :: ysl1, sl1 => if yl1 < a1 then (k_58 a1 ysl1 ((sl1 ++ [yl1]))) else (k_58 a1 ysl1 sl1)
def k_63 (a0 : List Int) (a1 : Int) : (List Int) :=
  LR.seq (k_58 a1 a0 []) (fun ol1 => LR.seq (k_57 a1 a0 ((ol1 ++ [a1]))) (fun ol2 => ol2))
set_option maxHeartbeats 3200000 in
theorem windroseref14_with_c (H : Heap) (va0 : Value) (a0 : List Int) (ha0 : RdS (intE .i64) H va0 a0) (a1 : Int) (hl : a0.length ≤ 1000000) : Fc Tryz.prog (fnv 47) [va0, .int .i64 a1] H [] (fun v' H' L' => ∃ u0_0 c0_0, v' = u0_0 ∧ L' = [c0_0] ∧ OwnS (intE .i64) 3 H' u0_0 (k_63 a0 a1) c0_0) := by
 refine Fc.of_body (N := 43) Tryz.func47 rfl kA rfl rfl ?_
 intro w0
 obtain ⟨Aa0, ca0, rfl, hca0, hda0, ha0⟩ := ha0.shape
 refine sR ?_
 refine R.asE rfl cA ?_
 refine nN ?_
 refine sR ?_
 refine R.asE rfl cA ?_
 refine nN ?_
 refine T.seq ?_
 refine sR ?_
 refine R.mvE rfl cA ?_
 refine R.len Tryz.underlying25 rfl rfl ?_
 refine R.mvE rfl cA ?_
 refine nN ?_
 refine T.block ?_
 refine T.loop (ι := Nat × Value × (List Int) × Chunk) (fun ⟨kl1, v5l1, x5l1, c5l1⟩ H' L' ds' => kl1 ≤ a0.length ∧ Has L' [c5l1] ∧ OwnS (intE .i64) 3 H' v5l1 x5l1 c5l1 ∧ x5l1.length ≤ kl1 ∧ k_58 a1 (a0.drop kl1) x5l1 = k_58 a1 a0 []) (fun ⟨kl1, v5l1, x5l1, c5l1⟩ => [(12, .int .i64 (kl1 : Int)), (0, .slice Aa0 a0.length ca0), (1, .int .i64 a1), (5, v5l1), (10, .slice Aa0 a0.length ca0), (11, .int .i64 (a0.length : Int))]) (fun ⟨kl1, v5l1, x5l1, c5l1⟩ => a0.length - kl1) (0, .slice none 0 0, [], []) ?_ ?_ ?_
 ·exact ⟨oA, (Has.none Has.nil), OwnS.nil, bA, (by rfl)⟩
 ·exact ⟨rfl, rfl, rfl, rfl, rfl, rfl, trivial⟩
 intro ⟨kl1, v5l1, x5l1, c5l1⟩ σ_l1 H_l1 L_l1 ds_l1 s_l1 hI_l1
 obtain ⟨hkl1, hI_l1⟩ := hI_l1
 obtain ⟨hLl1, w5l1, hBl1_0, hQl1⟩ := hI_l1
 obtain ⟨A5l1, p5l1, rfl, m5l1, n5l1_⟩ := OwnS.shape w5l1
 refine T.has hLl1 ?_
 refine sR ?_
 refine R.lss rfl rfl rfl ?_
 refine nN ?_
 refine T.seq ?_
 refine T.condD rfl (fun c13 => ?_) (fun c13 => ?_)
 ·have hltl1 : kl1 < a0.length := by omega
  obtain ⟨yl1, hyl1⟩ := getk (xs := a0) (k := kl1) oA
  refine T.skip (Post.thnN ?_)
  refine T.seq ?_
  refine T.block ?_
  refine sR ?_
  obtain ⟨b14, o14, i14, k14⟩ := RdS.elem (ha0.mono s_l1) hyl1
  obtain ⟨l14, g14, k14⟩ := k14
  obtain rfl : l14 = [.int .i64 yl1] := g14
  refine R.ixp Tryz.underlying25 Tryz.sizeOf3 rfl rfl rfl oA i14 ?_
  refine R.ldC Tryz.isAgg3 rfl rfl (k14 0 _ rfl) ?_
  refine R.asE rfl cA ?_
  refine nN ?_
  refine sR ?_
  refine R.mvE rfl cA ?_
  refine R.mvE rfl cA ?_
  refine R.lss rfl rfl rfl ?_
  refine nN ?_
  refine T.condD rfl (fun c18 => ?_) (fun c18 => ?_)
  ·refine T.set 18 (.bool true) (congrArg Value.bool (decide_eq_true c18)) ?_
   refine T.region ?_
   refine R.mvE rfl cA ?_
   refine R.mvE rfl cA ?_
   refine R.bs rfl (k_3f Tryz.underlying25 Tryz.sizeOf3 Tryz.zeroValue3 rfl rfl) ?_
   intro b21
   have w21 : OwnS (intE .i64) 3 H_l1 (.slice (some ⟨b21, 0, none⟩) 1 1) [yl1] [(b21, .cells #[.int .i64 yl1] 3)] := OwnS.lit (xs := [yl1]) (k_2a (a := [.int .i64 yl1]) rfl k_4d) (by show 1 ≤ maxLen; decide)
   obtain ⟨k22, y22, r22⟩ := Src.ownA w21
   refine R.app (E := (intE .i64)) (e := 3) (xs := x5l1) (ys := [yl1]) Tryz_ty25 rfl rfl rfl w5l1 (.tl .hd) (r22 _ .hd) y22 (by (try simp only [List.length_append, List.length_cons, List.length_nil, List.length_replicate, List.length_take, List.length_drop]); omega) (by (try simp only [List.length_append, List.length_cons, List.length_nil, List.length_replicate, List.length_take, List.length_drop]); omega) ?_
   intro v22 c22 w22
   obtain ⟨A22, p22, rfl, m22, n22⟩ := OwnS.shape w22
   refine TL.del (.tl .hd) ?_
   refine R.asE rfl cA ?_
   refine TL.nil (Post.blkN ?_)
   refine id (Post.thnN ?_)
   refine T.region ?_
   refine R.addI rfl rfl rfl oA ?_
   refine R.mvE rfl cA ?_
   refine nN ?_
   exact ⟨(kl1 + 1, .slice A22 (x5l1 ++ [yl1]).length p22, (x5l1 ++ [yl1]), c22), s_l1, ⟨oA, (Has.cons .hd Has.nil), w22, bA, (by rw [← hQl1, k_16 hyl1, k_58]; rw [if_pos c18])⟩, by show a0.length - (kl1 + 1) < a0.length - kl1; omega, rfl, rfl, rfl, rfl, rfl, rfl, trivial⟩
  refine T.set 18 (.bool false) (congrArg Value.bool (decide_eq_false c18)) ?_
  refine T.skip (Post.blkN ?_)
  refine id (Post.thnN ?_)
  refine T.region ?_
  refine R.addI rfl rfl rfl oA ?_
  refine R.mvE rfl cA ?_
  refine nN ?_
  exact ⟨(kl1 + 1, .slice A5l1 x5l1.length p5l1, x5l1, c5l1), s_l1, ⟨oA, (Has.cons .hd Has.nil), w5l1, bA, (by rw [← hQl1, k_16 hyl1, k_58]; rw [if_neg c18])⟩, by show a0.length - (kl1 + 1) < a0.length - kl1; omega, rfl, rfl, rfl, rfl, rfl, rfl, trivial⟩
 refine T.exit (Post.thnE (Post.thnE (Post.blkX ?_)))
 have hEl1 : k_58 a1 a0 [] = x5l1 := (hQl1.symm.trans (by rw [show kl1 = a0.length by omega, List.drop_length, k_58]))
 refine id (Post.thnN ?_)
 refine sR ?_
 refine R.mvE rfl cA ?_
 refine R.mvE rfl cA ?_
 refine R.bs rfl (k_3f Tryz.underlying25 Tryz.sizeOf3 Tryz.zeroValue3 rfl rfl) ?_
 intro b26
 have w26 : OwnS (intE .i64) 3 H_l1 (.slice (some ⟨b26, 0, none⟩) 1 1) [a1] [(b26, .cells #[.int .i64 a1] 3)] := OwnS.lit (xs := [a1]) (k_2a (a := [.int .i64 a1]) rfl k_4d) (by show 1 ≤ maxLen; decide)
 obtain ⟨k27, y27, r27⟩ := Src.ownA w26
 refine R.app (E := (intE .i64)) (e := 3) (xs := x5l1) (ys := [a1]) Tryz_ty25 rfl rfl rfl w5l1 (.tl .hd) (r27 _ .hd) y27 (by (try simp only [List.length_append, List.length_cons, List.length_nil, List.length_replicate, List.length_take, List.length_drop]); omega) (by (try simp only [List.length_append, List.length_cons, List.length_nil, List.length_replicate, List.length_take, List.length_drop]); omega) ?_
 intro v27 c27 w27
 obtain ⟨A27, p27, rfl, m27, n27⟩ := OwnS.shape w27
 refine TL.del (.tl .hd) ?_
 refine R.asE rfl cA ?_
 refine nN ?_
 refine T.seq ?_
 refine sR ?_
 refine R.mvE rfl cA ?_
 refine R.len Tryz.underlying25 rfl rfl ?_
 refine R.mvE rfl cA ?_
 refine nN ?_
 refine T.block ?_
 refine T.loop (ι := Nat × Value × (List Int) × Chunk) (fun ⟨kl2, v5l2, x5l2, c5l2⟩ H' L' ds' => kl2 ≤ a0.length ∧ Has L' [c5l2] ∧ OwnS (intE .i64) 3 H' v5l2 x5l2 c5l2 ∧ x5l2.length ≤ a0.length + 1 + kl2 ∧ k_57 a1 (a0.drop kl2) x5l2 = k_57 a1 a0 ((x5l1 ++ [a1]))) (fun ⟨kl2, v5l2, x5l2, c5l2⟩ => [(30, .int .i64 (kl2 : Int)), (1, .int .i64 a1), (5, v5l2), (28, .slice Aa0 a0.length ca0), (29, .int .i64 (a0.length : Int))]) (fun ⟨kl2, v5l2, x5l2, c5l2⟩ => a0.length - kl2) (0, .slice A27 (x5l1 ++ [a1]).length p27, (x5l1 ++ [a1]), c27) ?_ ?_ ?_
 ·exact ⟨oA, (Has.cons .hd Has.nil), w27, bA, (by rfl)⟩
 ·exact ⟨rfl, rfl, rfl, rfl, rfl, trivial⟩
 intro ⟨kl2, v5l2, x5l2, c5l2⟩ σ_l2 H_l2 L_l2 ds_l2 s_l2 hI_l2
 obtain ⟨hkl2, hI_l2⟩ := hI_l2
 obtain ⟨hLl2, w5l2, hBl2_0, hQl2⟩ := hI_l2
 obtain ⟨A5l2, p5l2, rfl, m5l2, n5l2_⟩ := OwnS.shape w5l2
 refine T.has hLl2 ?_
 refine sR ?_
 refine R.lss rfl rfl rfl ?_
 refine nN ?_
 refine T.seq ?_
 refine T.condD rfl (fun c31 => ?_) (fun c31 => ?_)
 ·have hltl2 : kl2 < a0.length := by omega
  obtain ⟨yl2, hyl2⟩ := getk (xs := a0) (k := kl2) oA
  refine T.skip (Post.thnN ?_)
  refine T.seq ?_
  refine T.block ?_
  refine sR ?_
  obtain ⟨b32, o32, i32, k32⟩ := RdS.elem (ha0.mono (s_l1.trans s_l2)) hyl2
  obtain ⟨l32, g32, k32⟩ := k32
  obtain rfl : l32 = [.int .i64 yl2] := g32
  refine R.ixp Tryz.underlying25 Tryz.sizeOf3 rfl rfl rfl oA i32 ?_
  refine R.ldC Tryz.isAgg3 rfl rfl (k32 0 _ rfl) ?_
  refine R.asE rfl cA ?_
  refine nN ?_
  refine sR ?_
  refine R.mvE rfl cA ?_
  refine R.mvE rfl cA ?_
  refine R.gtr rfl rfl rfl ?_
  refine nN ?_
  refine T.condD rfl (fun c36 => ?_) (fun c36 => ?_)
  ·refine T.set 36 (.bool true) (congrArg Value.bool (decide_eq_true c36)) ?_
   refine T.region ?_
   refine R.mvE rfl cA ?_
   refine R.mvE rfl cA ?_
   refine R.bs rfl (k_3f Tryz.underlying25 Tryz.sizeOf3 Tryz.zeroValue3 rfl rfl) ?_
   intro b39
   have w39 : OwnS (intE .i64) 3 H_l2 (.slice (some ⟨b39, 0, none⟩) 1 1) [yl2] [(b39, .cells #[.int .i64 yl2] 3)] := OwnS.lit (xs := [yl2]) (k_2a (a := [.int .i64 yl2]) rfl k_4d) (by show 1 ≤ maxLen; decide)
   obtain ⟨k40, y40, r40⟩ := Src.ownA w39
   refine R.app (E := (intE .i64)) (e := 3) (xs := x5l2) (ys := [yl2]) Tryz_ty25 rfl rfl rfl w5l2 (.tl .hd) (r40 _ .hd) y40 (by (try simp only [List.length_append, List.length_cons, List.length_nil, List.length_replicate, List.length_take, List.length_drop]); omega) (by (try simp only [List.length_append, List.length_cons, List.length_nil, List.length_replicate, List.length_take, List.length_drop]); omega) ?_
   intro v40 c40 w40
   obtain ⟨A40, p40, rfl, m40, n40⟩ := OwnS.shape w40
   refine TL.del (.tl .hd) ?_
   refine R.asE rfl cA ?_
   refine TL.nil (Post.blkN ?_)
   refine id (Post.thnN ?_)
   refine T.region ?_
   refine R.addI rfl rfl rfl oA ?_
   refine R.mvE rfl cA ?_
   refine nN ?_
   exact ⟨(kl2 + 1, .slice A40 (x5l2 ++ [yl2]).length p40, (x5l2 ++ [yl2]), c40), s_l2, ⟨oA, (Has.cons .hd Has.nil), w40, bA, (by rw [← hQl2, k_16 hyl2, k_57]; rw [if_pos c36])⟩, by show a0.length - (kl2 + 1) < a0.length - kl2; omega, rfl, rfl, rfl, rfl, rfl, trivial⟩
  refine T.set 36 (.bool false) (congrArg Value.bool (decide_eq_false c36)) ?_
  refine T.skip (Post.blkN ?_)
  refine id (Post.thnN ?_)
  refine T.region ?_
  refine R.addI rfl rfl rfl oA ?_
  refine R.mvE rfl cA ?_
  refine nN ?_
  exact ⟨(kl2 + 1, .slice A5l2 x5l2.length p5l2, x5l2, c5l2), s_l2, ⟨oA, (Has.cons .hd Has.nil), w5l2, bA, (by rw [← hQl2, k_16 hyl2, k_57]; rw [if_neg c36])⟩, by show a0.length - (kl2 + 1) < a0.length - kl2; omega, rfl, rfl, rfl, rfl, rfl, trivial⟩
 refine T.exit (Post.thnE (Post.thnE (Post.blkX ?_)))
 have hEl2 : k_57 a1 a0 ((x5l1 ++ [a1])) = x5l2 := (hQl2.symm.trans (by rw [show kl2 = a0.length by omega, List.drop_length, k_57]))
 refine id (Post.thnN ?_)
 refine sR ?_
 refine R.mvE rfl cA ?_
 refine R.asE rfl cA ?_
 refine nN ?_
 refine T.has (Has.cons .hd Has.nil) ?_
 refine T.ret ?_
 have hM : k_63 a0 a1 = x5l2 := by rw [k_63, hEl1, LR.seq_go, hEl2, LR.seq_go]
 exact fin1L (v := .slice A5l2 x5l2.length p5l2) [c5l2] rfl rfl (List.Sublist.refl _) ⟨.slice A5l2 x5l2.length p5l2, c5l2, by first | rw [hM] | rfl, rfl, by rw [hM]; exact w5l2⟩
def k_62 (a0 : (List (Int × (List Int)))) (a1 : Int) (a2 : List Int) : List Int → ((List (Int × (List Int)))) → (List (Int × (List Int)))
  | [], sl3 => sl3
  | yl3 :: ysl3, sl3 => LR.seq (k_81 a0 yl3) (fun r46 => LR.seq (k_82 r46 a1) (fun r48 => LR.seq (if (k_90 a2 yl3) = true then (LR.seq (k_63 r48 a1) (fun r54 => r54)) else r48 : (List Int)) (fun sc4 => if (0 : Int) < (sc4.length : Int) then (k_62 a0 a1 a2 ysl3 ((sl3 ++ [(yl3, sc4)]))) else (k_62 a0 a1 a2 ysl3 sl3))))
def k_73  : List Int → ((List Int)) → (List Int)
  | [], sl2 => sl2
  | yl2 :: ysl2, sl2 => LR.seq (k_b sl2 yl2) (fun r36 => k_73 ysl2 r36)
def k_6f  : List (Int × (List Int)) → ((List Int)) → (List Int)
  | [], sl1 => sl1
  | yl1 :: ysl1, sl1 => LR.seq (k_b sl1 yl1.1) (fun r26 => k_6f ysl1 r26)
def k_25 (a0 : (List (Int × (List Int)))) (a1 : Int) (a2 : List Int) : ((List (Int × (List Int)))) :=
  LR.seq (k_6f a0 []) (fun ol1 => LR.seq (k_73 a2 ol1) (fun ol2 => LR.seq (k_62 a0 a1 a2 ol2 []) (fun ol3 => ol3)))
set_option maxHeartbeats 3200000 in
theorem k_d0 (H : Heap) (a0 : (List (Int × (List Int)))) (va0_0 : Value) (ha0_0 : RdS listedE H va0_0 a0) (a1 : Int) (va2 : Value) (a2 : List Int) (ha2 : RdS (intE .u64) H va2 a2) (hn : a0.length ≤ 1000) (hi : a2.length ≤ 1000) (hr : ∀ r ∈ a0, r.2.length ≤ 1000) : Fc Tryz.prog (fnv 14) [.agg #[va0_0], .int .i64 a1, va2] H [] (fun v' H' L' => ∃ u0_0 c0_0, v' = .agg #[u0_0] ∧ L' = [c0_0] ∧ OwnS listedE 45 H' u0_0 (k_25 a0 a1 a2) c0_0) := by
 refine Fc.of_body (N := 68) Tryz.func14 rfl kA rfl rfl ?_
 intro w0
 obtain ⟨Aa0_0, ca0_0, rfl, hca0_0, hda0_0, ha0_0⟩ := ha0_0.shape
 obtain ⟨Aa2, ca2, rfl, hca2, hda2, ha2⟩ := ha2.shape
 refine sR ?_
 refine R.box rfl cA ?_
 intro b3
 refine R.alloc Tryz.zeroValue24 rfl ?_
 intro b6
 refine TL.shut (.tl .hd) ?_
 intro Hb3_1 sb3_1 qb3_1
 have hb3_1 : Hb3_1 b3 = some (.cells #[.slice Aa0_0 a0.length ca0_0] 24) := shut1 qb3_1
 refine nN ?_
 refine sR ?_
 refine R.asE rfl cA ?_
 refine nN ?_
 refine T.seq ?_
 refine sR ?_
 refine R.fldA Tryz.underlying24 rfl Tryz.sizeOf22 (by decide) rfl rfl ?_
 refine R.ldH Tryz.isAgg22 rfl rfl hb3_1 rfl ?_
 refine R.len Tryz.underlying22 rfl rfl ?_
 refine R.mvE rfl cA ?_
 refine nN ?_
 refine T.block ?_
 refine T.loop (ι := Nat × Value × (List Int)) (fun ⟨kl1, v7l1, x7l1⟩ H' L' ds' => kl1 ≤ a0.length ∧ Has L' [[(b6, .cells #[.slice none 0 0] 24)]] ∧ RdS (intE .u64) H' v7l1 x7l1 ∧ x7l1.length ≤ kl1 ∧ k_6f (a0.drop kl1) x7l1 = k_6f a0 []) (fun ⟨kl1, v7l1, x7l1⟩ => [(19, .int .i64 (kl1 : Int)), (1, .int .i64 a1), (2, .slice Aa2 a2.length ca2), (3, .pointer (some ⟨b3, 0, none⟩)), (6, .pointer (some ⟨b6, 0, none⟩)), (7, v7l1), (17, .slice Aa0_0 a0.length ca0_0), (18, .int .i64 (a0.length : Int))]) (fun ⟨kl1, v7l1, x7l1⟩ => a0.length - kl1) (0, .slice none 0 0, []) ?_ ?_ ?_
 ·exact ⟨oA, (Has.cons .hd Has.nil), RdS.nil, bA, (by rfl)⟩
 ·exact ⟨rfl, rfl, rfl, rfl, rfl, rfl, rfl, rfl, trivial⟩
 intro ⟨kl1, v7l1, x7l1⟩ σ_l1 H_l1 L_l1 ds_l1 s_l1 hI_l1
 obtain ⟨hkl1, hI_l1⟩ := hI_l1
 obtain ⟨hLl1, w7l1, hBl1_0, hQl1⟩ := hI_l1
 obtain ⟨A7l1, p7l1, rfl, m7l1, n7l1_, w7l1⟩ := RdS.shape w7l1
 refine T.has hLl1 ?_
 refine sR ?_
 refine R.lss rfl rfl rfl ?_
 refine nN ?_
 refine T.seq ?_
 refine T.condD rfl (fun c20 => ?_) (fun c20 => ?_)
 ·have hltl1 : kl1 < a0.length := by omega
  obtain ⟨yl1, hyl1⟩ := getk (xs := a0) (k := kl1) oA
  refine T.skip (Post.thnN ?_)
  refine T.seq ?_
  refine T.block ?_
  refine sR ?_
  obtain ⟨b21, o21, i21, k21⟩ := RdS.elem (ha0_0.mono (sb3_1.trans s_l1)) hyl1
  obtain ⟨l21, g21, k21⟩ := k21
  obtain ⟨z21_1, rfl, r21_1⟩ := g21
  obtain ⟨A21_1, p21_1, rfl, m21_1, n21_1, r21_1⟩ := r21_1.shape
  refine R.ixp Tryz.underlying22 Tryz.sizeOf45 rfl rfl rfl oA i21 ?_
  refine R.ldK (l := [.int .u64 (yl1.1), .slice A21_1 yl1.2.length p21_1]) Tryz.isAgg45 Tryz.sizeOf45 rfl rfl k21 rfl ?_
  refine R.alloc Tryz.zeroValue45 rfl ?_
  intro b9
  refine R.stX (old := [.int .u64 0, .slice none 0 0]) (l := [.int .u64 (yl1.1), .slice A21_1 yl1.2.length p21_1]) (new := [.int .u64 (yl1.1), .slice A21_1 yl1.2.length p21_1]) (et := 45) Tryz.sizeOf45 rfl rfl rfl rfl rfl (by show 0 + 2 ≤ 2; decide) rfl (k_20 rfl) .hd ?_
  refine TL.shut .hd ?_
  intro Hb9_2 sb9_2 qb9_2
  have hb9_2 : Hb9_2 b9 = some (.cells #[.int .u64 (yl1.1), .slice A21_1 yl1.2.length p21_1] 45) := shut1 qb9_2
  refine nN ?_
  refine T.region ?_
  refine R.mvE rfl cA ?_
  refine R.fldA Tryz.underlying45 rfl Tryz.sizeOf43 (by decide) rfl rfl ?_
  refine R.ldH Tryz.isAgg43 rfl rfl hb9_2 rfl ?_
  obtain ⟨r26, er26⟩ : ∃ r, r = (k_b x7l1 yl1.1) := ⟨_, rfl⟩
  refine R.callp rfl rfl rfl (k_a9 _ _ x7l1 (w7l1.mono sb9_2) (yl1.1) bA) ?_
  intro v26 H26 s26 q26
  rw [← er26] at q26
  obtain ⟨u26_0_0, rfl, w26_0_0⟩ := q26
  obtain ⟨A26_0_0, p26_0_0, rfl, m26_0_0, n26_0_0, w26_0_0⟩ := RdS.shape w26_0_0
  have trp26 := rput_len _ _ _ er26
  refine R.asE rfl cA ?_
  refine TL.nil (Post.blkN ?_)
  refine id (Post.thnN ?_)
  refine T.region ?_
  refine R.addI rfl rfl rfl oA ?_
  refine R.mvE rfl cA ?_
  refine nN ?_
  exact ⟨(kl1 + 1, .slice A26_0_0 r26.length p26_0_0, r26), (s_l1.trans (sb9_2.trans s26)), ⟨oA, (Has.cons .hd Has.nil), w26_0_0, bA, (by subst er26; rw [← hQl1, k_16 hyl1, k_6f]; rw [LR.seq_go])⟩, by show a0.length - (kl1 + 1) < a0.length - kl1; omega, rfl, rfl, rfl, rfl, rfl, rfl, rfl, rfl, trivial⟩
 refine T.exit (Post.thnE (Post.thnE (Post.blkX ?_)))
 have hEl1 : k_6f a0 [] = x7l1 := (hQl1.symm.trans (by rw [show kl1 = a0.length by omega, List.drop_length, k_6f]))
 refine id (Post.thnN ?_)
 refine T.seq ?_
 refine sR ?_
 refine R.mvE rfl cA ?_
 refine R.len Tryz.underlying30 rfl rfl ?_
 refine R.mvE rfl cA ?_
 refine nN ?_
 refine T.block ?_
 refine T.loop (ι := Nat × Value × (List Int)) (fun ⟨kl2, v7l2, x7l2⟩ H' L' ds' => kl2 ≤ a2.length ∧ Has L' [[(b6, .cells #[.slice none 0 0] 24)]] ∧ RdS (intE .u64) H' v7l2 x7l2 ∧ x7l2.length ≤ a0.length + kl2 ∧ k_73 (a2.drop kl2) x7l2 = k_73 a2 x7l1) (fun ⟨kl2, v7l2, x7l2⟩ => [(30, .int .i64 (kl2 : Int)), (1, .int .i64 a1), (2, .slice Aa2 a2.length ca2), (3, .pointer (some ⟨b3, 0, none⟩)), (6, .pointer (some ⟨b6, 0, none⟩)), (7, v7l2), (28, .slice Aa2 a2.length ca2), (29, .int .i64 (a2.length : Int))]) (fun ⟨kl2, v7l2, x7l2⟩ => a2.length - kl2) (0, .slice A7l1 x7l1.length p7l1, x7l1) ?_ ?_ ?_
 ·exact ⟨oA, (Has.cons .hd Has.nil), w7l1, bA, (by rfl)⟩
 ·exact ⟨rfl, rfl, rfl, rfl, rfl, rfl, rfl, rfl, trivial⟩
 intro ⟨kl2, v7l2, x7l2⟩ σ_l2 H_l2 L_l2 ds_l2 s_l2 hI_l2
 obtain ⟨hkl2, hI_l2⟩ := hI_l2
 obtain ⟨hLl2, w7l2, hBl2_0, hQl2⟩ := hI_l2
 obtain ⟨A7l2, p7l2, rfl, m7l2, n7l2_, w7l2⟩ := RdS.shape w7l2
 refine T.has hLl2 ?_
 refine sR ?_
 refine R.lss rfl rfl rfl ?_
 refine nN ?_
 refine T.seq ?_
 refine T.condD rfl (fun c31 => ?_) (fun c31 => ?_)
 ·have hltl2 : kl2 < a2.length := by omega
  obtain ⟨yl2, hyl2⟩ := getk (xs := a2) (k := kl2) oA
  refine T.skip (Post.thnN ?_)
  refine T.seq ?_
  refine T.block ?_
  refine sR ?_
  obtain ⟨b32, o32, i32, k32⟩ := RdS.elem (ha2.mono (sb3_1.trans (s_l1.trans s_l2))) hyl2
  obtain ⟨l32, g32, k32⟩ := k32
  obtain rfl : l32 = [.int .u64 yl2] := g32
  refine R.ixp Tryz.underlying30 Tryz.sizeOf43 rfl rfl rfl oA i32 ?_
  refine R.ldC Tryz.isAgg43 rfl rfl (k32 0 _ rfl) ?_
  refine R.asE rfl cA ?_
  refine nN ?_
  refine T.region ?_
  refine R.mvE rfl cA ?_
  refine R.mvE rfl cA ?_
  obtain ⟨r36, er36⟩ : ∃ r, r = (k_b x7l2 yl2) := ⟨_, rfl⟩
  refine R.callp rfl rfl rfl (k_a9 _ _ x7l2 w7l2 (yl2) bA) ?_
  intro v36 H36 s36 q36
  rw [← er36] at q36
  obtain ⟨u36_0_0, rfl, w36_0_0⟩ := q36
  obtain ⟨A36_0_0, p36_0_0, rfl, m36_0_0, n36_0_0, w36_0_0⟩ := RdS.shape w36_0_0
  have trp36 := rput_len _ _ _ er36
  refine R.asE rfl cA ?_
  refine TL.nil (Post.blkN ?_)
  refine id (Post.thnN ?_)
  refine T.region ?_
  refine R.addI rfl rfl rfl oA ?_
  refine R.mvE rfl cA ?_
  refine nN ?_
  exact ⟨(kl2 + 1, .slice A36_0_0 r36.length p36_0_0, r36), (s_l2.trans s36), ⟨oA, (Has.cons .hd Has.nil), w36_0_0, bA, (by subst er36; rw [← hQl2, k_16 hyl2, k_73]; rw [LR.seq_go])⟩, by show a2.length - (kl2 + 1) < a2.length - kl2; omega, rfl, rfl, rfl, rfl, rfl, rfl, rfl, rfl, trivial⟩
 refine T.exit (Post.thnE (Post.thnE (Post.blkX ?_)))
 have hEl2 : k_73 a2 x7l1 = x7l2 := (hQl2.symm.trans (by rw [show kl2 = a2.length by omega, List.drop_length, k_73]))
 refine id (Post.thnN ?_)
 refine sR ?_
 refine R.alloc Tryz.zeroValue24 rfl ?_
 intro b12
 refine nN ?_
 refine T.seq ?_
 refine sR ?_
 refine R.mvE rfl cA ?_
 refine R.len Tryz.underlying30 rfl rfl ?_
 refine R.mvE rfl cA ?_
 refine nN ?_
 refine T.block ?_
 refine T.loop (ι := Nat × Value × (List (Int × (List Int))) × Chunk) (fun ⟨kl3, vb12l3_0, xb12l3_0, cb12l3_0⟩ H' L' ds' => kl3 ≤ x7l2.length ∧ Has L' [[(b12, .cells #[vb12l3_0] 24)], [(b6, .cells #[.slice none 0 0] 24)], cb12l3_0] ∧ OwnS listedE 45 H' vb12l3_0 xb12l3_0 cb12l3_0 ∧ xb12l3_0.length ≤ kl3 ∧ k_62 a0 a1 a2 (x7l2.drop kl3) xb12l3_0 = k_62 a0 a1 a2 x7l2 []) (fun ⟨kl3, vb12l3_0, xb12l3_0, cb12l3_0⟩ => [(40, .int .i64 (kl3 : Int)), (1, .int .i64 a1), (2, .slice Aa2 a2.length ca2), (3, .pointer (some ⟨b3, 0, none⟩)), (6, .pointer (some ⟨b6, 0, none⟩)), (12, .pointer (some ⟨b12, 0, none⟩)), (38, .slice A7l2 x7l2.length p7l2), (39, .int .i64 (x7l2.length : Int))]) (fun ⟨kl3, vb12l3_0, xb12l3_0, cb12l3_0⟩ => x7l2.length - kl3) (0, .slice none 0 0, [], []) ?_ ?_ ?_
 ·exact ⟨oA, (Has.cons .hd (Has.cons .hd (Has.none Has.nil))), OwnS.nil, bA, (by rfl)⟩
 ·exact ⟨rfl, rfl, rfl, rfl, rfl, rfl, rfl, rfl, trivial⟩
 intro ⟨kl3, vb12l3_0, xb12l3_0, cb12l3_0⟩ σ_l3 H_l3 L_l3 ds_l3 s_l3 hI_l3
 obtain ⟨hkl3, hI_l3⟩ := hI_l3
 obtain ⟨hLl3, wb12l3_0, hBl3_0, hQl3⟩ := hI_l3
 obtain ⟨Ab12l3_0, pb12l3_0, rfl, mb12l3_0, nb12l3_0_⟩ := OwnS.shape wb12l3_0
 refine T.has hLl3 ?_
 refine sR ?_
 refine R.lss rfl rfl rfl ?_
 refine nN ?_
 refine T.seq ?_
 refine T.condD rfl (fun c41 => ?_) (fun c41 => ?_)
 ·have hltl3 : kl3 < x7l2.length := by omega
  obtain ⟨yl3, hyl3⟩ := getk (xs := x7l2) (k := kl3) oA
  refine T.skip (Post.thnN ?_)
  refine T.seq ?_
  refine T.block ?_
  refine sR ?_
  obtain ⟨b42, o42, i42, k42⟩ := RdS.elem (w7l2.mono s_l3) hyl3
  obtain ⟨l42, g42, k42⟩ := k42
  obtain rfl : l42 = [.int .u64 yl3] := g42
  refine R.ixp Tryz.underlying30 Tryz.sizeOf43 rfl rfl rfl oA i42 ?_
  refine R.ldC Tryz.isAgg43 rfl rfl (k42 0 _ rfl) ?_
  refine R.asE rfl cA ?_
  refine nN ?_
  refine sR ?_
  refine R.ldXH (cs := [.slice Aa0_0 a0.length ca0_0]) (l := [.slice Aa0_0 a0.length ca0_0]) Tryz.isAgg24 Tryz.sizeOf24 rfl rfl ((s_l1.trans (s_l2.trans s_l3)) _ _ hb3_1) rfl rfl ?_
  refine R.mvE rfl cA ?_
  obtain ⟨r46, er46⟩ : ∃ r, r = (k_81 a0 yl3) := ⟨_, rfl⟩
  refine R.callp rfl rfl rfl (windroseref14_Find_c _ a0 _ (ha0_0.mono (sb3_1.trans (s_l1.trans (s_l2.trans s_l3)))) (yl3)) ?_
  intro v46 H46 s46 q46
  rw [← er46] at q46
  obtain ⟨u46_0_0, rfl, w46_0_0⟩ := q46
  obtain ⟨A46_0_0, p46_0_0, rfl, m46_0_0, n46_0_0, w46_0_0⟩ := RdS.shape w46_0_0
  have trf46 := rfind_len _ _ _ er46 _ (by assumption)
  refine R.mvE rfl cA ?_
  obtain ⟨r48, er48⟩ : ∃ r, r = (k_82 r46 a1) := ⟨_, rfl⟩
  refine TL.call [] rfl rfl rfl (windroseref14_without_c _ _ r46 w46_0_0 (a1) bA) ?_
  intro v48 H48 L48 s48 q48
  rw [← er48] at q48
  obtain ⟨u48_0_0, c48_0_0, rfl, rfl, w48_0_0⟩ := q48
  obtain ⟨A48_0_0, p48_0_0, rfl, m48_0_0, n48_0_0⟩ := OwnS.shape w48_0_0
  have trw48 := rwithout_len _ _ _ er48
  refine R.asE rfl cA ?_
  refine nN ?_
  refine T.seq ?_
  refine sR ?_
  refine R.mvE rfl cA ?_
  refine R.mvE rfl cA ?_
  refine R.callv rfl rfl rfl (windroseref03_Has_c _ _ a2 (ha2.mono (sb3_1.trans (s_l1.trans (s_l2.trans (s_l3.trans (s46.trans s48)))))) (yl3)) ?_
  refine nN ?_
  refine T.cutK (ι := Value × (List Int) × Chunk) (fun ⟨v15c4, x15c4, c15c4⟩ H' L' ds' => Has L' [[(b12, .cells #[.slice Ab12l3_0 xb12l3_0.length pb12l3_0] 24)], [(b6, .cells #[.slice none 0 0] 24)], cb12l3_0, c15c4] ∧ OwnS (intE .i64) 3 H' v15c4 x15c4 c15c4 ∧ (if (k_90 a2 yl3) = true then (LR.seq (k_63 r48 a1) (fun r54 => r54)) else r48 : (List Int)) = x15c4) (fun ⟨v15c4, x15c4, c15c4⟩ => [(1, .int .i64 a1), (2, .slice Aa2 a2.length ca2), (3, .pointer (some ⟨b3, 0, none⟩)), (6, .pointer (some ⟨b6, 0, none⟩)), (12, .pointer (some ⟨b12, 0, none⟩)), (14, .int .u64 yl3), (15, v15c4), (38, .slice A7l2 x7l2.length p7l2), (39, .int .i64 (x7l2.length : Int)), (40, .int .i64 (kl3 : Int))]) ?_ ?_
  ·refine T.cond rfl (fun c51 => ?_) (fun c51 => ?_)
   ·refine T.set 51 (.bool true) (congrArg Value.bool c51) ?_
    refine T.region ?_
    refine R.mvE rfl cA ?_
    refine R.mvE rfl cA ?_
    refine TL.shut .hd ?_
    intro HF48_0_0_3 sF48_0_0_3 qF48_0_0_3
    have fF48_0_0_3 := OwnS.read w48_0_0 sF48_0_0_3 qF48_0_0_3
    obtain ⟨r54, er54⟩ : ∃ r, r = (k_63 r48 a1) := ⟨_, rfl⟩
    refine TL.call [] rfl rfl rfl (windroseref14_with_c _ _ r48 fF48_0_0_3 (a1) bA) ?_
    intro v54 H54 L54 s54 q54
    rw [← er54] at q54
    obtain ⟨u54_0_0, c54_0_0, rfl, rfl, w54_0_0⟩ := q54
    obtain ⟨A54_0_0, p54_0_0, rfl, m54_0_0, n54_0_0⟩ := OwnS.shape w54_0_0
    refine R.asE rfl cA ?_
    refine nN ?_
    exact ⟨(.slice A54_0_0 r54.length p54_0_0, r54, c54_0_0), (sF48_0_0_3.trans s54), ⟨(Has.cons (.tl .hd) (Has.cons (.tl .hd) (Has.cons (.tl .hd) (Has.cons .hd Has.nil)))), w54_0_0, (by subst er54; rw [if_t c51, LR.seq_go])⟩, rfl, rfl, rfl, rfl, rfl, rfl, rfl, rfl, rfl, rfl, trivial⟩
   refine T.set 51 (.bool false) (congrArg Value.bool c51) ?_
   refine T.skip (Post.thnN ?_)
   exact ⟨(.slice A48_0_0 r48.length p48_0_0, r48, c48_0_0), HLe.refl _, ⟨(Has.cons (.tl .hd) (Has.cons (.tl .hd) (Has.cons (.tl .hd) (Has.cons .hd Has.nil)))), w48_0_0, (by rw [if_f c51])⟩, rfl, rfl, rfl, rfl, rfl, rfl, rfl, rfl, rfl, rfl, trivial⟩
  intro ⟨v15c4, x15c4, c15c4⟩ σ_c4 H_c4 L_c4 ds_c4 s_c4 hI_c4
  obtain ⟨hLc4, w15c4, hTc4⟩ := hI_c4
  obtain ⟨A15c4, p15c4, rfl, m15c4, n15c4_⟩ := OwnS.shape w15c4
  refine T.has hLc4 ?_
  refine sR ?_
  refine R.mvE rfl cA ?_
  refine R.len Tryz.underlying25 rfl rfl ?_
  refine R.gtr rfl rfl rfl ?_
  refine nN ?_
  refine T.condD rfl (fun c57 => ?_) (fun c57 => ?_)
  ·refine T.set 57 (.bool true) (congrArg Value.bool (decide_eq_true c57)) ?_
   refine T.region ?_
   refine R.fldA Tryz.underlying24 rfl Tryz.sizeOf22 (by decide) rfl rfl ?_
   refine R.ld Tryz.isAgg22 rfl rfl .hd rfl ?_
   refine R.mvE rfl cA ?_
   refine R.mvE rfl cA ?_
   refine R.bld (cs := [.int .u64 yl3, .slice A15c4 x15c4.length p15c4]) rfl (fun _ => by kernel_rfl) ?_
   refine TL.shut (.tl (.tl (.tl .hd))) ?_
   intro HF15c4_4 sF15c4_4 qF15c4_4
   have fF15c4_4 := OwnS.read w15c4 sF15c4_4 qF15c4_4
   refine R.bs (e := 45) (cs := [.int .u64 yl3, .slice A15c4 x15c4.length p15c4]) rfl (fun _ => by kernel_rfl) ?_
   intro b63
   have w63 : OwnS listedE 45 HF15c4_4 (.slice (some ⟨b63, 0, none⟩) 1 1) [(yl3, x15c4)] [(b63, .cells #[.int .u64 yl3, .slice A15c4 x15c4.length p15c4] 45)] := OwnS.lit (xs := [(yl3, x15c4)]) (k_2a (a := [.int .u64 yl3, .slice A15c4 x15c4.length p15c4]) ⟨_, rfl, fF15c4_4⟩ k_4d) (by show 1 ≤ maxLen; decide)
   obtain ⟨k64, y64, r64⟩ := Src.ownA w63
   refine R.app (E := listedE) (e := 45) (xs := xb12l3_0) (ys := [(yl3, x15c4)]) Tryz_ty22 rfl rfl rfl (OwnS.mono wb12l3_0 (s46.trans (s48.trans (s_c4.trans sF15c4_4)))) (.tl (.tl (.tl .hd))) (r64 _ .hd) y64 (by (try simp only [List.length_append, List.length_cons, List.length_nil, List.length_replicate, List.length_take, List.length_drop]); omega) (by (try simp only [List.length_append, List.length_cons, List.length_nil, List.length_replicate, List.length_take, List.length_drop]); omega) ?_
   intro v64 c64 w64
   obtain ⟨A64, p64, rfl, m64, n64⟩ := OwnS.shape w64
   refine TL.del (.tl .hd) ?_
   refine R.fldA Tryz.underlying24 rfl Tryz.sizeOf22 (by decide) rfl rfl ?_
   refine R.stX (old := [.slice Ab12l3_0 xb12l3_0.length pb12l3_0]) (l := [.slice A64 (xb12l3_0 ++ [(yl3, x15c4)]).length p64]) (new := [.slice A64 (xb12l3_0 ++ [(yl3, x15c4)]).length p64]) (et := 24) Tryz.sizeOf22 rfl rfl rfl (cells1 rfl) rfl (by show 0 + 1 ≤ 1; decide) rfl (k_20 rfl) (.tl .hd) ?_
   refine TL.nil (Post.blkN ?_)
   refine id (Post.thnN ?_)
   refine T.region ?_
   refine R.addI rfl rfl rfl oA ?_
   refine R.mvE rfl cA ?_
   refine nN ?_
   exact ⟨(kl3 + 1, .slice A64 (xb12l3_0 ++ [(yl3, x15c4)]).length p64, (xb12l3_0 ++ [(yl3, x15c4)]), c64), (s_l3.trans (s46.trans (s48.trans (s_c4.trans sF15c4_4)))), ⟨oA, (Has.cons (.tl .hd) (Has.cons (.tl .hd) (Has.cons .hd Has.nil))), w64, bA, (by subst er48; subst er46; rw [← hQl3, k_16 hyl3, k_62]; rw [LR.seq_go, LR.seq_go, hTc4, LR.seq_go, if_pos c57])⟩, by show x7l2.length - (kl3 + 1) < x7l2.length - kl3; omega, rfl, rfl, rfl, rfl, rfl, rfl, rfl, rfl, trivial⟩
  refine T.set 57 (.bool false) (congrArg Value.bool (decide_eq_false c57)) ?_
  refine T.skip (Post.blkN ?_)
  refine id (Post.thnN ?_)
  refine T.region ?_
  refine R.addI rfl rfl rfl oA ?_
  refine R.mvE rfl cA ?_
  refine nN ?_
  exact ⟨(kl3 + 1, .slice Ab12l3_0 xb12l3_0.length pb12l3_0, xb12l3_0, cb12l3_0), (s_l3.trans (s46.trans (s48.trans s_c4))), ⟨oA, (Has.cons .hd (Has.cons .hd (Has.cons .hd Has.nil))), (OwnS.mono wb12l3_0 (s46.trans (s48.trans s_c4))), bA, (by subst er48; subst er46; rw [← hQl3, k_16 hyl3, k_62]; rw [LR.seq_go, LR.seq_go, hTc4, LR.seq_go, if_neg c57])⟩, by show x7l2.length - (kl3 + 1) < x7l2.length - kl3; omega, rfl, rfl, rfl, rfl, rfl, rfl, rfl, rfl, trivial⟩
 refine T.exit (Post.thnE (Post.thnE (Post.blkX ?_)))
 have hEl3 : k_62 a0 a1 a2 x7l2 [] = xb12l3_0 := (hQl3.symm.trans (by rw [show kl3 = x7l2.length by omega, List.drop_length, k_62]))
 refine id (Post.thnN ?_)
 refine sR ?_
 refine R.ldX (cs := [.slice Ab12l3_0 xb12l3_0.length pb12l3_0]) (l := [.slice Ab12l3_0 xb12l3_0.length pb12l3_0]) Tryz.isAgg24 Tryz.sizeOf24 rfl rfl .hd rfl rfl ?_
 refine R.stX (old := [.slice none 0 0]) (l := [.slice Ab12l3_0 xb12l3_0.length pb12l3_0]) (new := [.slice Ab12l3_0 xb12l3_0.length pb12l3_0]) (et := 24) Tryz.sizeOf24 rfl rfl rfl rfl rfl (by show 0 + 1 ≤ 1; decide) rfl (k_20 rfl) (.tl .hd) ?_
 refine nN ?_
 refine T.has (Has.cons (.tl (.tl .hd)) (Has.cons (.tl .hd) Has.nil)) ?_
 refine T.ret ?_
 have hM : k_25 a0 a1 a2 = xb12l3_0 := by rw [k_25, hEl1, LR.seq_go, hEl2, LR.seq_go, hEl3, LR.seq_go]
 exact finR1 (v := .agg #[.slice Ab12l3_0 xb12l3_0.length pb12l3_0]) [cb12l3_0] rfl (.cellA (cs := [.slice Ab12l3_0 xb12l3_0.length pb12l3_0]) (l := [.slice Ab12l3_0 xb12l3_0.length pb12l3_0]) Tryz.isAgg24 Tryz.sizeOf24 rfl (.tl .hd) rfl rfl) (List.sublist_append_left ([cb12l3_0] : Own) _) ⟨.slice Ab12l3_0 xb12l3_0.length pb12l3_0, cb12l3_0, by first | rw [hM] | rfl, rfl, by rw [hM]; exact wb12l3_0⟩
end Go.SX
