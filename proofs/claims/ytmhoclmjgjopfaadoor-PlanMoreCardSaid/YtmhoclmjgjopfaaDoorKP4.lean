/- 'PlanMore' answers true, whatever it is handed, and what it is handed reads behind it as it did: the row, and its tied card. -/
import Derived.RangeFuncNested
import Derived.RangeFuncBound
import Derived.RangeFuncCalls
import Derived.RangeFuncLeaves
import Derived.Shelf.Abstract
import Derived.Laws.AppendOwn
import Derived.Laws.OwnMore
import Derived.KernelRfl
import Derived.IntWalk
import Derived.Laws.Append
import Derived.WideLaws
import Derived.Laws.Slices
import Derived.Laws.MakeOwn
import Derived.OrdersIn
import Derived.Laws.Cover3
import Derived.Test.YtmhoclmjgjopfaaDoorProg
import Derived.Laws.StructEq
import Derived.Shelf.Sort.Plain
import Derived.Sort.OwnSortedInts
import Derived.Shelf.Slices.In.SortNone
import Derived.Shelf.Slices.CompactI
import Derived.Lib.AppendZeros
import Derived.ProofKit
import Derived.ChangeSlices
import Derived.Carry
import Derived.Deep.Slices
import Derived.OpenShut
import Derived.Test.YtmhoclmjgjopfaaDoorCards
import Derived.Test.YtmhoclmjgjopfaaDoorTie
import Derived.LaidMore
import Derived.Stop.Joined
import Derived.MakeChecks
import Derived.Test.YtmhoclmjgjopfaaDoorKP3
set_option linter.unusedVariables false
set_option linter.unusedSimpArgs false
namespace Go.SX
open Go Go.Proofs

def slices_IndexFunc_int_l1 (a1 : Int → Bool) : List Int → Nat → Unit → LR (Int) (Unit)
  | [], kl1, sl1 => .go ()
  | yl1 :: ysl1, kl1, sl1 => if (a1 yl1) = true then (.ret ((kl1 : Int))) else (slices_IndexFunc_int_l1 a1 ysl1 (kl1 + 1) ())
def slices_IndexFunc_int_m (a0 : List Int) (a1 : Int → Bool) : Int :=
  LR.on (slices_IndexFunc_int_l1 a1 a0 0 ()) (fun r => r) (fun ol1 => (-1))
set_option maxHeartbeats 3200000 in
theorem slices_IndexFunc_int_c (H : Heap) (va0 : Value) (a0 : List Int) (ha0 : RdS (intE .i64) H va0 a0) (fa1 : Value) (a1 : Int → Bool) (ha1 : ∀ H', HLe H H' → ∀ (z0 : Int), Fv Tryd.prog fa1 [.int .i64 z0] H' (.bool (a1 z0))) : Fv Tryd.prog (fnv 103) [va0, fa1] H (.int .i64 (slices_IndexFunc_int_m a0 a1)) := by
  refine Fc.of_body (N := 19) Tryd.func103 rfl (by kernel_rfl) rfl rfl ?_
  intro w0
  obtain ⟨Aa0, ca0, rfl, hca0, hda0, ha0⟩ := ha0.shape
  refine T.seq ?_
  refine T.region ?_
  refine R.asE rfl (by conv => lhs; whnf) ?_
  refine TL.nil (Post.thnN ?_)
  refine T.seq ?_
  refine T.seq ?_
  refine T.region ?_
  refine R.mvE rfl (by conv => lhs; whnf) ?_
  refine R.len Tryd.underlying23 rfl rfl ?_
  refine R.mvE rfl (by conv => lhs; whnf) ?_
  refine TL.nil (Post.thnN ?_)
  refine T.block ?_
  refine T.loop (ι := Nat) (fun kl1 H' L' ds' => kl1 ≤ a0.length ∧ Has L' [] ∧ slices_IndexFunc_int_l1 a1 (a0.drop kl1) kl1 () = slices_IndexFunc_int_l1 a1 a0 0 ()) (fun kl1 => [(8, .int .i64 (kl1 : Int)), (0, .slice Aa0 a0.length ca0), (1, fa1), (7, .int .i64 (a0.length : Int))]) (fun kl1 => a0.length - kl1) 0 ?_ ?_ ?_
  · exact ⟨(by omega), Has.nil, (by rfl)⟩
  · exact ⟨rfl, rfl, rfl, rfl, trivial⟩
  · intro kl1 σ_l1 H_l1 L_l1 ds_l1 s_l1 hI_l1
    obtain ⟨hkl1, hI_l1⟩ := hI_l1
    obtain ⟨hLl1, hQl1⟩ := hI_l1
    refine T.has hLl1 ?_
    refine T.seq ?_
    refine T.region ?_
    refine R.lss rfl rfl rfl ?_
    refine TL.nil (Post.thnN ?_)
    refine T.seq ?_
    refine T.condD rfl (fun c9 => ?_) (fun c9 => ?_)
    · have hltl1 : kl1 < a0.length := by omega
      obtain ⟨yl1, hyl1⟩ := getk (xs := a0) (k := kl1) (by omega)
      refine T.skip (Post.thnN ?_)
      refine T.seq ?_
      refine T.block ?_
      refine T.seq ?_
      refine T.region ?_
      refine R.mvE rfl (by conv => lhs; whnf) ?_
      refine R.asE rfl (by conv => lhs; whnf) ?_
      refine TL.nil (Post.thnN ?_)
      refine T.seq ?_
      refine T.region ?_
      refine R.mvE rfl (by conv => lhs; whnf) ?_
      refine R.mvE rfl (by conv => lhs; whnf) ?_
      refine R.mvE rfl (by conv => lhs; whnf) ?_
      obtain ⟨b14, o14, i14, k14⟩ := RdS.elem (ha0.mono s_l1) hyl1
      obtain ⟨l14, g14, k14⟩ := k14
      obtain rfl : l14 = [.int .i64 yl1] := g14
      refine R.ixp Tryd.underlying23 Tryd.sizeOf3 rfl rfl rfl (by omega) i14 ?_
      refine R.ldC Tryd.isAgg3 rfl rfl (k14 0 _ rfl) ?_
      refine R.callv rfl rfl rfl (ha1 _ s_l1 (yl1)) ?_
      refine TL.nil (Post.thnN ?_)
      refine T.cond rfl (fun c16 => ?_) (fun c16 => ?_)
      · refine T.set 16 (.bool true) (congrArg Value.bool c16) ?_
        refine T.seq ?_
        refine T.region ?_
        refine R.mvE rfl (by conv => lhs; whnf) ?_
        refine R.asE rfl (by conv => lhs; whnf) ?_
        refine TL.nil (Post.thnN ?_)
        refine T.has Has.nil ?_
        refine T.ret (Post.blkR (Post.thnR (Post.thnR (Post.blkR (Post.thnR ?_)))))
        have hXl1 : slices_IndexFunc_int_l1 a1 a0 0 () = .ret ((kl1 : Int)) := by rw [← hQl1, drop_cons hyl1, slices_IndexFunc_int_l1]; rw [if_t c16]
        have hM : slices_IndexFunc_int_m a0 a1 = (kl1 : Int) := by rw [slices_IndexFunc_int_m, hXl1, LR.on_ret]
        exact fin1L (v := .int .i64 (kl1 : Int)) [] rfl rfl (List.Sublist.refl _) ⟨rfl, by first | rw [hM] | rfl⟩
      · refine T.set 16 (.bool false) (congrArg Value.bool c16) ?_
        refine T.skip (Post.blkN ?_)
        refine id (Post.thnN ?_)
        refine T.region ?_
        refine R.addI rfl rfl rfl (by omega) ?_
        refine R.mvE rfl (by conv => lhs; whnf) ?_
        refine TL.nil (Post.thnN ?_)
        exact ⟨kl1 + 1, s_l1, ⟨(by omega), Has.nil, (by rw [← hQl1, drop_cons hyl1, slices_IndexFunc_int_l1]; rw [if_f c16])⟩, by show a0.length - (kl1 + 1) < a0.length - kl1; omega, rfl, rfl, rfl, rfl, trivial⟩
    · refine T.exit (Post.thnE (Post.thnE (Post.blkX ?_)))
      have hEl1 : slices_IndexFunc_int_l1 a1 a0 0 () = .go () := (hQl1.symm.trans (by rw [show kl1 = a0.length by omega, List.drop_length, slices_IndexFunc_int_l1]))
      refine id (Post.thnN ?_)
      refine T.seq ?_
      refine T.region ?_
      refine R.asE rfl (by conv => lhs; whnf) ?_
      refine TL.nil (Post.thnN ?_)
      refine T.has Has.nil ?_
      refine T.ret ?_
      have hM : slices_IndexFunc_int_m a0 a1 = (-1) := by rw [slices_IndexFunc_int_m, hEl1, LR.on_go]
      exact fin1L (v := .int .i64 (-1)) [] rfl rfl (List.Sublist.refl _) ⟨rfl, by first | rw [hM] | rfl⟩

def slices_ContainsFunc_int_m (a0 : List Int) (a1 : Int → Bool) : Bool :=
  (decide ((0 : Int) ≤ (slices_IndexFunc_int_m a0 a1)))
set_option maxHeartbeats 3200000 in
theorem slices_ContainsFunc_int_c (H : Heap) (va0 : Value) (a0 : List Int) (ha0 : RdS (intE .i64) H va0 a0) (fa1 : Value) (a1 : Int → Bool) (ha1 : ∀ H', HLe H H' → ∀ (z0 : Int), Fv Tryd.prog fa1 [.int .i64 z0] H' (.bool (a1 z0))) : Fv Tryd.prog (fnv 52) [va0, fa1] H (.bool (slices_ContainsFunc_int_m a0 a1)) := by
  refine Fc.of_body (N := 9) Tryd.func52 rfl (by kernel_rfl) rfl rfl ?_
  intro w0
  obtain ⟨Aa0, ca0, rfl, hca0, hda0, ha0⟩ := ha0.shape
  refine T.seq ?_
  refine T.region ?_
  refine R.asE rfl (by conv => lhs; whnf) ?_
  refine TL.nil (Post.thnN ?_)
  refine T.seq ?_
  refine T.region ?_
  refine R.mvE rfl (by conv => lhs; whnf) ?_
  refine R.mvE rfl (by conv => lhs; whnf) ?_
  refine R.callv rfl rfl rfl (slices_IndexFunc_int_c _ _ a0 ha0 _ a1 (fun H' h' => ha1 H' ((HLe.refl _).trans h'))) ?_
  refine R.geq rfl rfl rfl ?_
  refine R.asE rfl (by conv => lhs; whnf) ?_
  refine TL.nil (Post.thnN ?_)
  refine T.has Has.nil ?_
  refine T.ret ?_
  have hM : slices_ContainsFunc_int_m a0 a1 = (decide ((0 : Int) ≤ (slices_IndexFunc_int_m a0 a1))) := by rw [slices_ContainsFunc_int_m]
  exact fin1L (v := .bool (decide ((0 : Int) ≤ (slices_IndexFunc_int_m a0 a1)))) [] rfl rfl (List.Sublist.refl _) ⟨rfl, by first | rw [hM] | rfl⟩

def slices_IndexFunc_mention_l1 (a1 : (Int × Int) → Bool) : List (Int × Int) → Nat → Unit → LR (Int) (Unit)
  | [], kl1, sl1 => .go ()
  | yl1 :: ysl1, kl1, sl1 => if (a1 yl1) = true then (.ret ((kl1 : Int))) else (slices_IndexFunc_mention_l1 a1 ysl1 (kl1 + 1) ())
def slices_IndexFunc_mention_m (a0 : List (Int × Int)) (a1 : (Int × Int) → Bool) : Int :=
  LR.on (slices_IndexFunc_mention_l1 a1 a0 0 ()) (fun r => r) (fun ol1 => (-1))
set_option maxHeartbeats 3200000 in
theorem slices_IndexFunc_mention_c (H : Heap) (va0 : Value) (a0 : List (Int × Int)) (ha0 : RdS pairE H va0 a0) (fa1 : Value) (a1 : (Int × Int) → Bool) (ha1 : ∀ H', HLe H H' → ∀ (z0 : Int × Int), Fv Tryd.prog fa1 [.agg #[.int .i64 z0.1, .int .i64 z0.2]] H' (.bool (a1 z0))) : Fv Tryd.prog (fnv 129) [va0, fa1] H (.int .i64 (slices_IndexFunc_mention_m a0 a1)) := by
  refine Fc.of_body (N := 19) Tryd.func129 rfl (by kernel_rfl) rfl rfl ?_
  intro w0
  obtain ⟨Aa0, ca0, rfl, hca0, hda0, ha0⟩ := ha0.shape
  refine T.seq ?_
  refine T.region ?_
  refine R.asE rfl (by conv => lhs; whnf) ?_
  refine TL.nil (Post.thnN ?_)
  refine T.seq ?_
  refine T.seq ?_
  refine T.region ?_
  refine R.mvE rfl (by conv => lhs; whnf) ?_
  refine R.len Tryd.underlying141 rfl rfl ?_
  refine R.mvE rfl (by conv => lhs; whnf) ?_
  refine TL.nil (Post.thnN ?_)
  refine T.block ?_
  refine T.loop (ι := Nat) (fun kl1 H' L' ds' => kl1 ≤ a0.length ∧ Has L' [] ∧ slices_IndexFunc_mention_l1 a1 (a0.drop kl1) kl1 () = slices_IndexFunc_mention_l1 a1 a0 0 ()) (fun kl1 => [(8, .int .i64 (kl1 : Int)), (0, .slice Aa0 a0.length ca0), (1, fa1), (7, .int .i64 (a0.length : Int))]) (fun kl1 => a0.length - kl1) 0 ?_ ?_ ?_
  · exact ⟨(by omega), Has.nil, (by rfl)⟩
  · exact ⟨rfl, rfl, rfl, rfl, trivial⟩
  · intro kl1 σ_l1 H_l1 L_l1 ds_l1 s_l1 hI_l1
    obtain ⟨hkl1, hI_l1⟩ := hI_l1
    obtain ⟨hLl1, hQl1⟩ := hI_l1
    refine T.has hLl1 ?_
    refine T.seq ?_
    refine T.region ?_
    refine R.lss rfl rfl rfl ?_
    refine TL.nil (Post.thnN ?_)
    refine T.seq ?_
    refine T.condD rfl (fun c9 => ?_) (fun c9 => ?_)
    · have hltl1 : kl1 < a0.length := by omega
      obtain ⟨yl1, hyl1⟩ := getk (xs := a0) (k := kl1) (by omega)
      refine T.skip (Post.thnN ?_)
      refine T.seq ?_
      refine T.block ?_
      refine T.seq ?_
      refine T.region ?_
      refine R.mvE rfl (by conv => lhs; whnf) ?_
      refine R.asE rfl (by conv => lhs; whnf) ?_
      refine TL.nil (Post.thnN ?_)
      refine T.seq ?_
      refine T.region ?_
      refine R.mvE rfl (by conv => lhs; whnf) ?_
      refine R.mvE rfl (by conv => lhs; whnf) ?_
      refine R.mvE rfl (by conv => lhs; whnf) ?_
      obtain ⟨b14, o14, i14, k14⟩ := RdS.elem (ha0.mono s_l1) hyl1
      obtain ⟨l14, g14, k14⟩ := k14
      obtain rfl : l14 = [.int .i64 (yl1.1), .int .i64 (yl1.2)] := g14
      refine R.ixp Tryd.underlying141 Tryd.sizeOf144 rfl rfl rfl (by omega) i14 ?_
      refine R.ldK (l := [.int .i64 (yl1.1), .int .i64 (yl1.2)]) Tryd.isAgg144 Tryd.sizeOf144 rfl rfl k14 rfl ?_
      refine R.callv rfl rfl rfl (ha1 _ s_l1 yl1) ?_
      refine TL.nil (Post.thnN ?_)
      refine T.cond rfl (fun c16 => ?_) (fun c16 => ?_)
      · refine T.set 16 (.bool true) (congrArg Value.bool c16) ?_
        refine T.seq ?_
        refine T.region ?_
        refine R.mvE rfl (by conv => lhs; whnf) ?_
        refine R.asE rfl (by conv => lhs; whnf) ?_
        refine TL.nil (Post.thnN ?_)
        refine T.has Has.nil ?_
        refine T.ret (Post.blkR (Post.thnR (Post.thnR (Post.blkR (Post.thnR ?_)))))
        have hXl1 : slices_IndexFunc_mention_l1 a1 a0 0 () = .ret ((kl1 : Int)) := by rw [← hQl1, drop_cons hyl1, slices_IndexFunc_mention_l1]; rw [if_t c16]
        have hM : slices_IndexFunc_mention_m a0 a1 = (kl1 : Int) := by rw [slices_IndexFunc_mention_m, hXl1, LR.on_ret]
        exact fin1L (v := .int .i64 (kl1 : Int)) [] rfl rfl (List.Sublist.refl _) ⟨rfl, by first | rw [hM] | rfl⟩
      · refine T.set 16 (.bool false) (congrArg Value.bool c16) ?_
        refine T.skip (Post.blkN ?_)
        refine id (Post.thnN ?_)
        refine T.region ?_
        refine R.addI rfl rfl rfl (by omega) ?_
        refine R.mvE rfl (by conv => lhs; whnf) ?_
        refine TL.nil (Post.thnN ?_)
        exact ⟨kl1 + 1, s_l1, ⟨(by omega), Has.nil, (by rw [← hQl1, drop_cons hyl1, slices_IndexFunc_mention_l1]; rw [if_f c16])⟩, by show a0.length - (kl1 + 1) < a0.length - kl1; omega, rfl, rfl, rfl, rfl, trivial⟩
    · refine T.exit (Post.thnE (Post.thnE (Post.blkX ?_)))
      have hEl1 : slices_IndexFunc_mention_l1 a1 a0 0 () = .go () := (hQl1.symm.trans (by rw [show kl1 = a0.length by omega, List.drop_length, slices_IndexFunc_mention_l1]))
      refine id (Post.thnN ?_)
      refine T.seq ?_
      refine T.region ?_
      refine R.asE rfl (by conv => lhs; whnf) ?_
      refine TL.nil (Post.thnN ?_)
      refine T.has Has.nil ?_
      refine T.ret ?_
      have hM : slices_IndexFunc_mention_m a0 a1 = (-1) := by rw [slices_IndexFunc_mention_m, hEl1, LR.on_go]
      exact fin1L (v := .int .i64 (-1)) [] rfl rfl (List.Sublist.refl _) ⟨rfl, by first | rw [hM] | rfl⟩

def slices_ContainsFunc_mention_m (a0 : List (Int × Int)) (a1 : (Int × Int) → Bool) : Bool :=
  (decide ((0 : Int) ≤ (slices_IndexFunc_mention_m a0 a1)))
set_option maxHeartbeats 3200000 in
theorem slices_ContainsFunc_mention_c (H : Heap) (va0 : Value) (a0 : List (Int × Int)) (ha0 : RdS pairE H va0 a0) (fa1 : Value) (a1 : (Int × Int) → Bool) (ha1 : ∀ H', HLe H H' → ∀ (z0 : Int × Int), Fv Tryd.prog fa1 [.agg #[.int .i64 z0.1, .int .i64 z0.2]] H' (.bool (a1 z0))) : Fv Tryd.prog (fnv 94) [va0, fa1] H (.bool (slices_ContainsFunc_mention_m a0 a1)) := by
  refine Fc.of_body (N := 9) Tryd.func94 rfl (by kernel_rfl) rfl rfl ?_
  intro w0
  obtain ⟨Aa0, ca0, rfl, hca0, hda0, ha0⟩ := ha0.shape
  refine T.seq ?_
  refine T.region ?_
  refine R.asE rfl (by conv => lhs; whnf) ?_
  refine TL.nil (Post.thnN ?_)
  refine T.seq ?_
  refine T.region ?_
  refine R.mvE rfl (by conv => lhs; whnf) ?_
  refine R.mvE rfl (by conv => lhs; whnf) ?_
  refine R.callv rfl rfl rfl (slices_IndexFunc_mention_c _ _ a0 ha0 _ a1 (fun H' h' => ha1 H' ((HLe.refl _).trans h'))) ?_
  refine R.geq rfl rfl rfl ?_
  refine R.asE rfl (by conv => lhs; whnf) ?_
  refine TL.nil (Post.thnN ?_)
  refine T.has Has.nil ?_
  refine T.ret ?_
  have hM : slices_ContainsFunc_mention_m a0 a1 = (decide ((0 : Int) ≤ (slices_IndexFunc_mention_m a0 a1))) := by rw [slices_ContainsFunc_mention_m]
  exact fin1L (v := .bool (decide ((0 : Int) ≤ (slices_IndexFunc_mention_m a0 a1)))) [] rfl rfl (List.Sublist.refl _) ⟨rfl, by first | rw [hM] | rfl⟩

def plan_Of_1_m (a0 : Int) : Bool :=
  (!(plan_index_m a0))
set_option maxHeartbeats 3200000 in
theorem plan_Of_1_c (H : Heap) (a0 : Int) : Fv Tryd.prog (fnv 91) [.int .i64 a0] H (.bool (plan_Of_1_m a0)) := by
  refine Fc.of_body (N := 6) Tryd.func91 rfl (by kernel_rfl) rfl rfl ?_
  intro w0
  refine T.seq ?_
  refine T.region ?_
  refine R.asE rfl (by conv => lhs; whnf) ?_
  refine TL.nil (Post.thnN ?_)
  refine T.seq ?_
  refine T.region ?_
  refine R.mvE rfl (by conv => lhs; whnf) ?_
  refine R.callv rfl rfl rfl (plan_index_c _ (a0)) ?_
  refine R.not rfl rfl ?_
  refine R.asE rfl (by conv => lhs; whnf) ?_
  refine TL.nil (Post.thnN ?_)
  refine T.has Has.nil ?_
  refine T.ret ?_
  have hM : plan_Of_1_m a0 = (!(plan_index_m a0)) := by rw [plan_Of_1_m]
  exact fin1L (v := .bool ((!(plan_index_m a0)))) [] rfl rfl (List.Sublist.refl _) ⟨rfl, by first | rw [hM] | rfl⟩

def plan_Of_2_2_1_m (q0 : List (Int × Bool)) (q1 : Int) (a0 : Int × Int) : Bool :=
  if ((mlk q0 a0.1).getD false) = true then ((decide (a0.2 = q1))) else false
set_option maxHeartbeats 3200000 in
theorem plan_Of_2_2_1_c (H : Heap) (b1000 : Nat) (mq0 : Nat) (q0 : List (Int × Bool)) (hq0 : MpR .i64 (fun z : Bool => Value.bool z) H mq0 q0) (hb0 : H b1000 = some (.cells #[.map (some mq0)] 137)) (b1001 : Nat) (q1 : Int) (hb1 : H b1001 = some (.cells #[.int .i64 q1] 3)) (a0 : Int × Int) : Fv Tryd.prog (.func (.func 95) #[] ([.pointer (some ⟨b1000, 0, none⟩), .pointer (some ⟨b1001, 0, none⟩)] : List Value).toArray) [.agg #[.int .i64 a0.1, .int .i64 a0.2]] H (.bool (plan_Of_2_2_1_m q0 q1 a0)) := by
  refine Fc.of_body (N := 15) Tryd.func95 rfl (by kernel_rfl) rfl rfl ?_
  intro w0
  refine T.seq ?_
  refine T.region ?_
  refine R.box rfl (by conv => lhs; whnf) ?_
  intro b3
  refine R.asE rfl (by conv => lhs; whnf) ?_
  refine TL.shut .hd ?_
  intro Hb3_1 sb3_1 qb3_1
  have hb3_1 : Hb3_1 b3 = some (.cells #[.int .i64 (a0.1), .int .i64 (a0.2)] 144) := shut1 qb3_1
  refine TL.nil (Post.thnN ?_)
  refine T.seq ?_
  refine T.region ?_
  refine R.ldH Tryd.isAgg137 rfl rfl (sb3_1 _ _ hb0) rfl ?_
  refine R.fldA Tryd.underlying144 rfl Tryd.sizeOf3 (by decide) rfl rfl ?_
  refine R.ldH Tryd.isAgg3 rfl rfl hb3_1 rfl ?_
  refine R.lkuVH (f := (fun z : Bool => Value.bool z)) (z0 := false) Tryd.underlying137 Tryd.underlying3 Tryd.zeroValue4 rfl rfl rfl rfl (hq0.mono sb3_1) ?_
  refine R.mvE rfl (by conv => lhs; whnf) ?_
  refine TL.gsplit 9 rfl (fun g9 => ?_) (fun g9 => ?_)
  · refine R.fldA Tryd.underlying144 rfl Tryd.sizeOf3 (by decide) rfl rfl ?_
    refine R.ldH Tryd.isAgg3 rfl rfl hb3_1 rfl ?_
    refine R.ldH Tryd.isAgg3 rfl rfl (sb3_1 _ _ hb1) rfl ?_
    refine R.eql rfl rfl rfl ?_
    refine R.pkTE rfl rfl (by conv => lhs; whnf) ?_
    refine R.asE rfl (by conv => lhs; whnf) ?_
    refine TL.nil (Post.thnN ?_)
    refine T.has Has.nil ?_
    refine T.ret ?_
    have hM : plan_Of_2_2_1_m q0 q1 a0 = (decide (a0.2 = q1)) := by rw [plan_Of_2_2_1_m, if_t g9]
    exact fin1L (v := .bool (decide (a0.2 = q1))) [] rfl rfl (List.Sublist.refl _) ⟨rfl, by first | rw [hM] | rfl⟩
  · refine TL.off rfl rfl rfl ?_
    refine TL.off rfl rfl rfl ?_
    refine TL.off rfl rfl rfl ?_
    refine TL.off rfl rfl rfl ?_
    refine R.pkFE rfl rfl (by conv => lhs; whnf) ?_
    refine R.asE rfl (by conv => lhs; whnf) ?_
    refine TL.nil (Post.thnN ?_)
    refine T.has Has.nil ?_
    refine T.ret ?_
    have hM : plan_Of_2_2_1_m q0 q1 a0 = false := by rw [plan_Of_2_2_1_m, if_f g9]
    exact fin1L (v := .bool false) [] rfl rfl (List.Sublist.refl _) ⟨rfl, by first | rw [hM] | rfl⟩

def plan_Of_2_m (q0 : List (Int × Int)) (q1 : List (Int × Bool)) (a0 : Int) : Bool :=
  LR.seq (slices_ContainsFunc_mention_m q0 ((fun z0 => plan_Of_2_2_1_m q1 a0 z0))) (fun r7 => r7)
set_option maxHeartbeats 3200000 in
theorem plan_Of_2_c (H : Heap) (b1000 : Nat) (vq0 : Value) (q0 : List (Int × Int)) (hq0 : RdS pairE H vq0 q0) (hb0 : H b1000 = some (.cells #[vq0] 141)) (b1001 : Nat) (mq1 : Nat) (q1 : List (Int × Bool)) (hq1 : MpR .i64 (fun z : Bool => Value.bool z) H mq1 q1) (hb1 : H b1001 = some (.cells #[.map (some mq1)] 137)) (a0 : Int) : Fv Tryd.prog (.func (.func 93) #[] ([.pointer (some ⟨b1000, 0, none⟩), .pointer (some ⟨b1001, 0, none⟩)] : List Value).toArray) [.int .i64 a0] H (.bool (plan_Of_2_m q0 q1 a0)) := by
  refine Fc.of_body (N := 8) Tryd.func93 rfl (by kernel_rfl) rfl rfl ?_
  intro w0
  obtain ⟨Aq0, cq0, rfl, hcq0, hdq0, hq0⟩ := hq0.shape
  refine T.seq ?_
  refine T.region ?_
  refine R.box rfl (by conv => lhs; whnf) ?_
  intro b3
  refine R.asE rfl (by conv => lhs; whnf) ?_
  refine TL.shut .hd ?_
  intro Hb3_1 sb3_1 qb3_1
  have hb3_1 : Hb3_1 b3 = some (.cells #[.int .i64 a0] 3) := shut1 qb3_1
  refine TL.nil (Post.thnN ?_)
  refine T.seq ?_
  refine T.region ?_
  refine R.ldH Tryd.isAgg141 rfl rfl (sb3_1 _ _ hb0) rfl ?_
  refine R.mkf (cs := [_, _]) rfl rfl ?_
  obtain ⟨r7, er7⟩ : ∃ r, r = (slices_ContainsFunc_mention_m q0 ((fun z0 => plan_Of_2_2_1_m q1 a0 z0))) := ⟨_, rfl⟩
  refine R.callv (v := .bool r7) rfl rfl rfl (by rw [er7]; exact slices_ContainsFunc_mention_c _ _ q0 (hq0.mono sb3_1) _ (fun z0 => plan_Of_2_2_1_m q1 a0 z0) (fun H2 h2 z0 => plan_Of_2_2_1_c H2 b1001 _ q1 ((hq1.mono sb3_1).mono h2) (h2 _ _ (sb3_1 _ _ hb1)) b3 (a0) (h2 _ _ hb3_1) z0)) ?_
  refine R.asE rfl (by conv => lhs; whnf) ?_
  refine TL.nil (Post.thnN ?_)
  refine T.has Has.nil ?_
  refine T.ret ?_
  have hM : plan_Of_2_m q0 q1 a0 = r7 := by subst er7; rw [plan_Of_2_m, LR.seq_go]
  exact fin1L (v := .bool (r7)) [] rfl rfl (List.Sublist.refl _) ⟨rfl, by first | rw [hM] | rfl⟩

def plan_Of_r2 (xM26r1 : List (Int × Bool)) : List ((Int × Int) × (List (Int × Int))) → ((List Int) × (List (Int × Int)) × (List (Int × Int))) → (List Int) × (List (Int × Int)) × (List (Int × Int))
  | [], sr2 => sr2
  | yr2 :: ysr2, sr2 => if ((mlk xM26r1 yr2.1.1).getD false) = true then (plan_Of_r2 xM26r1 ysr2 ((sr2.1, sr2.2.1, sr2.2.2))) else (LR.seq (if (plan_Of_2_m yr2.2 xM26r1 2) = true then ((sr2.1, sr2.2.1, (sr2.2.2 ++ [yr2.1]))) else ((sr2.1, sr2.2.1, sr2.2.2)) : (List Int) × (List (Int × Int)) × (List (Int × Int))) (fun sc3 => LR.seq (if (plan_Of_2_m yr2.2 xM26r1 2) = true then true else ((plan_Of_2_m yr2.2 xM26r1 0)) : Bool) (fun sc4 => if sc4 = true then (plan_Of_r2 xM26r1 ysr2 ((sc3.1, (sc3.2.1 ++ [yr2.1]), sc3.2.2))) else (plan_Of_r2 xM26r1 ysr2 ((sc3.1, sc3.2.1, sc3.2.2))))))
def plan_Of_r1  : List (Int × (List (Int × Int))) → ((List (Int × Bool)) × (List Int) × (List (Int × Int)) × (List (Int × Int))) → (List (Int × Bool)) × (List Int) × (List (Int × Int)) × (List (Int × Int))
  | [], sr1 => sr1
  | yr1 :: ysr1, sr1 => plan_Of_r1 ysr1 (((mpu sr1.1 yr1.1 true), (sr1.2.1 ++ [yr1.1]), sr1.2.2.1, sr1.2.2.2))
def plan_Of_m (a0 : List (Int × (Bool × Bool × Int × Int × Int))) (a1 : List (Int × Int)) (a2 : List Int) : ((List Int) × (List (Int × Int)) × (List (Int × Int))) × Int :=
  if ((plan_Check_m a0 a1) : Int) ≠ 0 then (((([], [], []) : (List Int) × (List (Int × Int)) × (List (Int × Int))), (plan_Check_m a0 a1))) else (if (slices_ContainsFunc_int_m a2 ((fun z0 => plan_Of_1_m z0))) = true then (((([], [], []) : (List Int) × (List (Int × Int)) × (List (Int × Int))), 2)) else (LR.seq (plan_killers_m a0 a1) (fun r29 => LR.seq (plan_deaths_m r29 a2) (fun r31 => LR.seq (plan_Of_r1 r31 ((([] : List (Int × Bool)), [], [], []))) (fun or1 => LR.seq (plan_mentions_m a0 a1) (fun r47 => LR.seq (plan_Of_r2 or1.1 r47 (((sortI or1.2.1), or1.2.2.1, or1.2.2.2))) (fun or2 => ((or2.1, or2.2.1, or2.2.2), 0))))))))
set_option maxHeartbeats 3200000 in
theorem plan_Of_c (H : Heap) {tG1 : TypeId} (hG1 : H 1 = some (.cells #[.int .i64 1, .bool true, .bool true, .int .i64 0, .int .i64 1, .int .i64 2, .int .i64 2, .bool true, .bool false, .int .i64 0, .int .i64 0, .int .i64 2] tG1)) (va0 : Value) (a0 : List (Int × (Bool × Bool × Int × Int × Int))) (ha0 : RdS relationE H va0 a0) (va1 : Value) (a1 : List (Int × Int)) (ha1 : RdS heldE H va1 a1) (va2 : Value) (a2 : List Int) (ha2 : RdS (intE .i64) H va2 a2) (hl : a0.length ≤ 2000000) (hh : a1.length ≤ 100) (hf : a2.length ≤ 100) : Fc Tryd.prog (fnv 44) [va0, va1, va2] H [] (fun v' H' L' => ∃ u0_0 u0_1 u0_2 c0_0 c0_1 c0_2, v' = .tuple #[.agg #[u0_0, u0_1, u0_2], .int .i64 (plan_Of_m a0 a1 a2).2] ∧ L' = [c0_0, c0_1, c0_2] ∧ OwnS (intE .i64) 3 H' u0_0 (plan_Of_m a0 a1 a2).1.1 c0_0 ∧ OwnS heldE 73 H' u0_1 (plan_Of_m a0 a1 a2).1.2.1 c0_1 ∧ OwnS heldE 73 H' u0_2 (plan_Of_m a0 a1 a2).1.2.2 c0_2) := by
  refine Fc.of_body (N := 76) Tryd.func44 rfl (by kernel_rfl) rfl rfl ?_
  intro w0
  obtain ⟨Aa0, ca0, rfl, hca0, hda0, ha0⟩ := ha0.shape
  obtain ⟨Aa1, ca1, rfl, hca1, hda1, ha1⟩ := ha1.shape
  obtain ⟨Aa2, ca2, rfl, hca2, hda2, ha2⟩ := ha2.shape
  refine T.seq ?_
  refine T.region ?_
  refine R.alloc Tryd.zeroValue81 rfl ?_
  intro b6
  refine R.asE rfl (by conv => lhs; whnf) ?_
  refine TL.nil (Post.thnN ?_)
  refine T.seq ?_
  refine T.seq ?_
  refine T.region ?_
  refine R.mvE rfl (by conv => lhs; whnf) ?_
  refine R.mvE rfl (by conv => lhs; whnf) ?_
  refine R.callv rfl rfl rfl (plan_Check_c _ hG1 _ a0 ha0 _ a1 ha1 (by first | omega | (simp; done) | (simp; omega) | (simp at *; omega))) ?_
  refine R.asE rfl (by conv => lhs; whnf) ?_
  refine TL.nil (Post.thnN ?_)
  refine T.seq ?_
  refine T.region ?_
  refine R.mvE rfl (by conv => lhs; whnf) ?_
  refine R.neq rfl rfl rfl ?_
  refine TL.nil (Post.thnN ?_)
  refine T.condD rfl (fun c20 => ?_) (fun c20 => ?_)
  · refine T.set 20 (.bool true) (congrArg Value.bool (decide_eq_true c20)) ?_
    refine T.seq ?_
    refine T.region ?_
    refine R.bld (cs := [.slice none 0 0, .slice none 0 0, .slice none 0 0]) rfl (fun _ => by kernel_rfl) ?_
    refine R.mvE rfl (by conv => lhs; whnf) ?_
    refine R.stX (old := [.slice none 0 0, .slice none 0 0, .slice none 0 0]) (l := [.slice none 0 0, .slice none 0 0, .slice none 0 0]) (new := [.slice none 0 0, .slice none 0 0, .slice none 0 0]) (et := 81) Tryd.sizeOf81 rfl rfl rfl rfl rfl (by show 0 + 3 ≤ 3; decide) rfl (all_one rfl) .hd ?_
    refine R.asE rfl (by conv => lhs; whnf) ?_
    refine TL.nil (Post.thnN ?_)
    refine T.has (Has.none (Has.none (Has.none (Has.cons .hd Has.nil)))) ?_
    refine T.ret (Post.thnR ?_)
    have hM : plan_Of_m a0 a1 a2 = ((([], [], []) : (List Int) × (List (Int × Int)) × (List (Int × Int))), (plan_Check_m a0 a1)) := by rw [plan_Of_m, if_pos c20]
    exact finR2 (v := .agg #[.slice none 0 0, .slice none 0 0, .slice none 0 0]) (v' := .int .i64 (plan_Check_m a0 a1)) [[], [], []] rfl (.cellA (cs := [.slice none 0 0, .slice none 0 0, .slice none 0 0]) (l := [.slice none 0 0, .slice none 0 0, .slice none 0 0]) Tryd.isAgg81 Tryd.sizeOf81 rfl (.tl (.tl (.tl .hd))) rfl rfl) (.tmp rfl) (List.sublist_append_left ([[], [], []] : Own) _) ⟨.slice none 0 0, .slice none 0 0, .slice none 0 0, [], [], [], by first | rw [hM] | rfl, rfl, by rw [hM]; exact OwnS.nil, by rw [hM]; exact OwnS.nil, by rw [hM]; exact OwnS.nil⟩
  · refine T.set 20 (.bool false) (congrArg Value.bool (decide_eq_false c20)) ?_
    refine T.skip (Post.thnN ?_)
    refine T.seq ?_
    refine T.seq ?_
    refine T.region ?_
    refine R.mvE rfl (by conv => lhs; whnf) ?_
    refine R.callv rfl rfl rfl (slices_ContainsFunc_int_c _ _ a2 ha2 _ (fun z0 => plan_Of_1_m z0) (fun H2 h2 z0 => plan_Of_1_c H2 z0)) ?_
    refine TL.nil (Post.thnN ?_)
    refine T.cond rfl (fun c24 => ?_) (fun c24 => ?_)
    · refine T.set 24 (.bool true) (congrArg Value.bool c24) ?_
      refine T.seq ?_
      refine T.region ?_
      refine R.bld (cs := [.slice none 0 0, .slice none 0 0, .slice none 0 0]) rfl (fun _ => by kernel_rfl) ?_
      refine R.stX (old := [.slice none 0 0, .slice none 0 0, .slice none 0 0]) (l := [.slice none 0 0, .slice none 0 0, .slice none 0 0]) (new := [.slice none 0 0, .slice none 0 0, .slice none 0 0]) (et := 81) Tryd.sizeOf81 rfl rfl rfl rfl rfl (by show 0 + 3 ≤ 3; decide) rfl (all_one rfl) .hd ?_
      refine R.asE rfl (by conv => lhs; whnf) ?_
      refine TL.nil (Post.thnN ?_)
      refine T.has (Has.none (Has.none (Has.none (Has.cons .hd Has.nil)))) ?_
      refine T.ret (Post.thnR ?_)
      have hM : plan_Of_m a0 a1 a2 = ((([], [], []) : (List Int) × (List (Int × Int)) × (List (Int × Int))), 2) := by rw [plan_Of_m, if_neg c20, if_t c24]
      exact finR2 (v := .agg #[.slice none 0 0, .slice none 0 0, .slice none 0 0]) (v' := .int .i64 2) [[], [], []] rfl (.cellA (cs := [.slice none 0 0, .slice none 0 0, .slice none 0 0]) (l := [.slice none 0 0, .slice none 0 0, .slice none 0 0]) Tryd.isAgg81 Tryd.sizeOf81 rfl (.tl (.tl (.tl .hd))) rfl rfl) (.tmp rfl) (List.sublist_append_left ([[], [], []] : Own) _) ⟨.slice none 0 0, .slice none 0 0, .slice none 0 0, [], [], [], by first | rw [hM] | rfl, rfl, by rw [hM]; exact OwnS.nil, by rw [hM]; exact OwnS.nil, by rw [hM]; exact OwnS.nil⟩
    · refine T.set 24 (.bool false) (congrArg Value.bool c24) ?_
      refine T.skip (Post.thnN ?_)
      refine T.seq ?_
      refine T.region ?_
      refine R.alloc Tryd.zeroValue81 rfl ?_
      intro b9
      refine TL.nil (Post.thnN ?_)
      refine T.seq ?_
      refine T.region ?_
      refine R.mkmV .i64 (fun z : Bool => Value.bool z) rfl ?_
      intro b26 w26
      refine R.alloc Tryd.zeroValue137 rfl ?_
      intro b10
      refine R.stX (old := [.map none]) (l := [.map (some b26)]) (new := [.map (some b26)]) (et := 137) Tryd.sizeOf137 rfl rfl rfl (cells1 rfl) rfl (by show 0 + 1 ≤ 1; decide) rfl (all_one rfl) .hd ?_
      refine TL.shut .hd ?_
      intro Hb10_1 sb10_1 qb10_1
      have hb10_1 : Hb10_1 b10 = some (.cells #[.map (some b26)] 137) := shut1 qb10_1
      refine TL.nil (Post.thnN ?_)
      refine T.seq ?_
      refine T.seq ?_
      refine T.region ?_
      refine R.mvE rfl (by conv => lhs; whnf) ?_
      refine R.mvE rfl (by conv => lhs; whnf) ?_
      obtain ⟨r29, er29⟩ : ∃ r, r = (plan_killers_m a0 a1) := ⟨_, rfl⟩
      refine R.callp rfl rfl rfl (plan_killers_c _ (sb10_1 _ _ hG1) _ a0 (ha0.mono sb10_1) _ a1 (ha1.mono sb10_1) (by first | omega | (simp; done) | (simp; omega) | (simp at *; omega)) (by first | omega | (simp; done) | (simp; omega) | (simp at *; omega))) ?_
      intro v29 H29 s29 q29
      rw [← er29] at q29
      obtain ⟨u29_0_0, rfl, w29_0_0⟩ := q29
      have hby29 : ByOk r29 := kill_by _ _ _ er29 (by first | omega | (simp; done) | (simp; omega) | (simp at *; omega))
      refine R.mvE rfl (by conv => lhs; whnf) ?_
      obtain ⟨r31, er31⟩ : ∃ r, r = (plan_deaths_m r29 a2) := ⟨_, rfl⟩
      refine R.callp rfl rfl rfl (plan_deaths_c _ _ r29 w29_0_0 _ a2 (ha2.mono (sb10_1.trans s29)) (by first | omega | (simp; done) | (simp; omega) | (simp at *; omega)) (by first | omega | (simp; done) | (simp; omega) | (simp at *; omega))) ?_
      intro v31 H31 s31 q31
      rw [← er31] at q31
      obtain ⟨u31_0_0, rfl, w31_0_0⟩ := q31
      have td31 := deaths_facts _ _ _ er31 (by assumption) (by first | omega | (simp; done) | (simp; omega) | (simp at *; omega))
      refine TL.nil (Post.thnN ?_)
      refine T.block ?_
      refine T.rangeFunc (xs := r31) rfl rfl (enters_of Tryd.func122 (by kernel_rfl) rfl) w31_0_0 (fun _ _ _ h => by obtain ⟨_, rfl, _⟩ := h; rfl) rfl (fun pre H' L' => ∃ (xM26r1 : List (Int × Bool)) (esM26r1 : Array MapEntry) (clM26r1 : Nat) (vb9r1_0 : Value) (xb9r1_0 : List Int) (cb9r1_0 : Chunk) (vb9r1_1 : Value) (xb9r1_1 : List (Int × Int)) (cb9r1_1 : Chunk) (vb9r1_2 : Value) (xb9r1_2 : List (Int × Int)) (cb9r1_2 : Chunk), Has L' [[(b26, .map esM26r1 clM26r1)], [(b9, .cells #[vb9r1_0, vb9r1_1, vb9r1_2] 81)], [(b6, .cells #[.slice none 0 0, .slice none 0 0, .slice none 0 0] 81)], cb9r1_0, cb9r1_1, cb9r1_2] ∧ MapV .i64 (fun z : Bool => Value.bool z) esM26r1 xM26r1 ∧ OwnS (intE .i64) 3 H' vb9r1_0 xb9r1_0 cb9r1_0 ∧ OwnS heldE 73 H' vb9r1_1 xb9r1_1 cb9r1_1 ∧ OwnS heldE 73 H' vb9r1_2 xb9r1_2 cb9r1_2 ∧ xb9r1_0.length = pre.length ∧ xb9r1_1.length = 0 ∧ xb9r1_2.length = 0 ∧ plan_Of_r1 (r31.drop pre.length) ((xM26r1, xb9r1_0, xb9r1_1, xb9r1_2)) = plan_Of_r1 r31 ((([] : List (Int × Bool)), [], [], []))) (fun _ _ _ _ => False) (fun pre H H' L hle ⟨xM26r1, esM26r1, clM26r1, vb9r1_0, xb9r1_0, cb9r1_0, vb9r1_1, xb9r1_1, cb9r1_1, vb9r1_2, xb9r1_2, cb9r1_2, hL, wM26r1, wb9r1_0, wb9r1_1, wb9r1_2, hB0, hB1, hB2, hQ⟩ => ⟨xM26r1, esM26r1, clM26r1, vb9r1_0, xb9r1_0, cb9r1_0, vb9r1_1, xb9r1_1, cb9r1_1, vb9r1_2, xb9r1_2, cb9r1_2, hL, wM26r1, (wb9r1_0.mono hle), (wb9r1_1.mono hle), (wb9r1_2.mono hle), hB0, hB1, hB2, hQ⟩) (fun _ _ _ _ _ _ h => h) ?_ ?_ ?_ ?_
      · exact ⟨([] : List (Int × Bool)), #[], 0, .slice none 0 0, [], [], .slice none 0 0, [], [], .slice none 0 0, [], [], (Has.cons .hd (Has.cons .hd (Has.cons .hd (Has.none (Has.none (Has.none Has.nil)))))), w26, OwnS.nil, OwnS.nil, OwnS.nil, (by first | omega | (simp; done) | (simp; omega) | (simp at *; omega)), (by first | omega | (simp; done) | (simp; omega) | (simp at *; omega)), (by first | omega | (simp; done) | (simp; omega) | (simp at *; omega)), (by rfl)⟩
      · intro lr1 rr1 wr1 prer1 yr1 vsr1 Hr1 Lr1 sr1 hpr1 hIr1 hYr1
        obtain ⟨xM26r1, esM26r1, clM26r1, vb9r1_0, xb9r1_0, cb9r1_0, vb9r1_1, xb9r1_1, cb9r1_1, vb9r1_2, xb9r1_2, cb9r1_2, hLr1, wM26r1, wb9r1_0, wb9r1_1, wb9r1_2, hBr1_0, hBr1_1, hBr1_2, hQr1⟩ := hIr1
        obtain ⟨Ab9r1_0, pb9r1_0, rfl, mb9r1_0, nb9r1_0_⟩ := OwnS.shape wb9r1_0
        obtain ⟨Ab9r1_1, pb9r1_1, rfl, mb9r1_1, nb9r1_1_⟩ := OwnS.shape wb9r1_1
        obtain ⟨Ab9r1_2, pb9r1_2, rfl, mb9r1_2, nb9r1_2_⟩ := OwnS.shape wb9r1_2
        obtain ⟨zYr1_1_0, rfl, rYr1_1_0⟩ := hYr1
        obtain ⟨AYr1_1_0, pYr1_1_0, rfl, mYr1_1_0, nYr1_1_0, rYr1_1_0⟩ := rYr1_1_0.shape
        refine T.has hLr1 ?_
        have hlpr1 : prer1.length + 1 ≤ r31.length := by have h0 := hpr1.length_le; simpa using h0
        refine T.region ?_
        refine R.asE rfl (by conv => lhs; whnf) ?_
        refine TL.nil ?_
        refine onlyN.mk ?_
        refine T.block ?_
        refine T.seq ?_
        refine T.region ?_
        refine R.ldH Tryd.isAgg137 rfl rfl ((s29.trans (s31.trans sr1)) _ _ hb10_1) rfl ?_
        refine R.mvE rfl (by conv => lhs; whnf) ?_
        refine R.mupV (f := (fun z : Bool => Value.bool z)) (v := true) Tryd.underlying137 Tryd.underlying3 rfl rfl rfl rfl .hd wM26r1 ?_
        intro esu26_8 clu26_8 wu26_8
        refine TL.nil (Post.thnN ?_)
        refine T.region ?_
        refine R.fldA Tryd.underlying81 rfl Tryd.sizeOf23 (by decide) rfl rfl ?_
        refine R.ld Tryd.isAgg23 rfl rfl (.tl .hd) rfl ?_
        refine R.mvE rfl (by conv => lhs; whnf) ?_
        refine R.bs rfl (run_buildSlice1 Tryd.underlying23 Tryd.sizeOf3 Tryd.zeroValue3 rfl rfl) ?_
        intro b39
        have w39 : OwnS (intE .i64) 3 Hr1 (.slice (some ⟨b39, 0, none⟩) 1 1) [yr1.1] [(b39, .cells #[.int .i64 (yr1.1)] 3)] := OwnS.lit (xs := [yr1.1]) (cellsOf_cons (a := [.int .i64 (yr1.1)]) rfl cellsOf_nil) (by show 1 ≤ maxLen; decide)
        obtain ⟨k40, y40, r40⟩ := Src.ownA w39
        refine R.app (E := (intE .i64)) (e := 3) (xs := xb9r1_0) (ys := [yr1.1]) Tryd_ty23 rfl rfl rfl wb9r1_0 (.tl (.tl (.tl (.tl .hd)))) (r40 _ .hd) y40 (by (try simp only [List.length_append, List.length_cons, List.length_nil, List.length_replicate, List.length_take, List.length_drop]); omega) (by (try simp only [List.length_append, List.length_cons, List.length_nil, List.length_replicate, List.length_take, List.length_drop]); omega) ?_
        intro v40 c40 w40
        obtain ⟨A40, p40, rfl, m40, n40⟩ := OwnS.shape w40
        refine TL.del (.tl .hd) ?_
        refine R.fldA Tryd.underlying81 rfl Tryd.sizeOf23 (by decide) rfl rfl ?_
        refine R.stX (old := [.slice Ab9r1_0 xb9r1_0.length pb9r1_0, .slice Ab9r1_1 xb9r1_1.length pb9r1_1, .slice Ab9r1_2 xb9r1_2.length pb9r1_2]) (l := [.slice A40 (xb9r1_0 ++ [yr1.1]).length p40]) (new := [.slice A40 (xb9r1_0 ++ [yr1.1]).length p40, .slice Ab9r1_1 xb9r1_1.length pb9r1_1, .slice Ab9r1_2 xb9r1_2.length pb9r1_2]) (et := 81) Tryd.sizeOf23 rfl rfl rfl (cells1 rfl) rfl (by show 0 + 1 ≤ 3; decide) rfl (all_one rfl) (.tl (.tl .hd)) ?_
        refine TL.nil (Post.blkN ?_)
        refine id ?_
        exact ⟨(mpu xM26r1 yr1.1 true), esu26_8, clu26_8, .slice A40 (xb9r1_0 ++ [yr1.1]).length p40, (xb9r1_0 ++ [yr1.1]), c40, .slice Ab9r1_1 xb9r1_1.length pb9r1_1, xb9r1_1, cb9r1_1, .slice Ab9r1_2 xb9r1_2.length pb9r1_2, xb9r1_2, cb9r1_2, (Has.cons (.tl .hd) (Has.cons (.tl .hd) (Has.cons (.tl .hd) (Has.cons .hd (Has.cons .hd (Has.cons .hd Has.nil)))))), wu26_8, w40, wb9r1_1, wb9r1_2, (by first | omega | (simp; done) | (simp; omega) | (simp at *; omega)), (by first | omega | (simp; done) | (simp; omega) | (simp at *; omega)), (by first | omega | (simp; done) | (simp; omega) | (simp at *; omega)), (by rw [← hQr1, drop_pre hpr1, plan_Of_r1])⟩
      · intro Dr1 Hr1 Lr1 sr1 hIr1
        obtain ⟨xM26r1, esM26r1, clM26r1, vb9r1_0, xb9r1_0, cb9r1_0, vb9r1_1, xb9r1_1, cb9r1_1, vb9r1_2, xb9r1_2, cb9r1_2, hLr1, wM26r1, wb9r1_0, wb9r1_1, wb9r1_2, hBr1_0, hBr1_1, hBr1_2, hQr1⟩ := hIr1
        obtain ⟨Ab9r1_0, pb9r1_0, rfl, mb9r1_0, nb9r1_0_⟩ := OwnS.shape wb9r1_0
        obtain ⟨Ab9r1_1, pb9r1_1, rfl, mb9r1_1, nb9r1_1_⟩ := OwnS.shape wb9r1_1
        obtain ⟨Ab9r1_2, pb9r1_2, rfl, mb9r1_2, nb9r1_2_⟩ := OwnS.shape wb9r1_2
        have hEr1 : plan_Of_r1 r31 ((([] : List (Int × Bool)), [], [], [])) = (xM26r1, xb9r1_0, xb9r1_1, xb9r1_2) := by rw [← hQr1, List.drop_length, plan_Of_r1]
        refine id (Post.blkN ?_)
        refine id (Post.thnN ?_)
        refine T.has hLr1 ?_
        refine T.seq ?_
        refine T.region ?_
        refine R.fldA Tryd.underlying81 rfl Tryd.sizeOf23 (by decide) rfl rfl ?_
        refine R.ld Tryd.isAgg23 rfl rfl (.tl .hd) rfl ?_
        refine TL.call [false, false, false, true] rfl rfl rfl (sortA_c _ _ _ _ wb9r1_0 (by first | omega | (simp; done) | (simp; omega) | (simp at *; omega))) ?_
        intro v44 H44 L44 s44 q44
        obtain ⟨rfl, c44, rfl, w44⟩ := q44
        refine TL.nil (Post.thnN ?_)
        refine T.seq ?_
        refine T.seq ?_
        refine T.region ?_
        refine R.mvE rfl (by conv => lhs; whnf) ?_
        refine R.mvE rfl (by conv => lhs; whnf) ?_
        obtain ⟨r47, er47⟩ : ∃ r, r = (plan_mentions_m a0 a1) := ⟨_, rfl⟩
        refine R.callp rfl rfl rfl (plan_mentions_c _ ((sb10_1.trans (s29.trans (s31.trans sr1))) _ _ hG1) _ a0 (ha0.mono (sb10_1.trans (s29.trans (s31.trans sr1)))) _ a1 (ha1.mono (sb10_1.trans (s29.trans (s31.trans sr1)))) (by first | omega | (simp; done) | (simp; omega) | (simp at *; omega))) ?_
        intro v47 H47 s47 q47
        rw [← er47] at q47
        obtain ⟨u47_0_0, rfl, w47_0_0⟩ := q47
        have tm47 := ment_fact _ _ _ er47
        refine TL.nil (Post.thnN ?_)
        refine T.block ?_
        refine T.rangeFunc (xs := r47) rfl rfl (enters_of Tryd.func127 (by kernel_rfl) rfl) w47_0_0 (fun _ _ _ h => by obtain ⟨_, rfl, _⟩ := h; rfl) rfl (fun pre H' L' => ∃ (vb9r2_0 : Value) (xb9r2_0 : List Int) (cb9r2_0 : Chunk) (vb9r2_1 : Value) (xb9r2_1 : List (Int × Int)) (cb9r2_1 : Chunk) (vb9r2_2 : Value) (xb9r2_2 : List (Int × Int)) (cb9r2_2 : Chunk), Has L' [[(b26, .map esM26r1 clM26r1)], [(b9, .cells #[vb9r2_0, vb9r2_1, vb9r2_2] 81)], [(b6, .cells #[.slice none 0 0, .slice none 0 0, .slice none 0 0] 81)], cb9r2_0, cb9r2_1, cb9r2_2] ∧ OwnS (intE .i64) 3 H' vb9r2_0 xb9r2_0 cb9r2_0 ∧ OwnS heldE 73 H' vb9r2_1 xb9r2_1 cb9r2_1 ∧ OwnS heldE 73 H' vb9r2_2 xb9r2_2 cb9r2_2 ∧ xb9r2_1.length ≤ pre.length ∧ xb9r2_2.length ≤ pre.length ∧ plan_Of_r2 xM26r1 (r47.drop pre.length) ((xb9r2_0, xb9r2_1, xb9r2_2)) = plan_Of_r2 xM26r1 r47 (((sortI xb9r1_0), xb9r1_1, xb9r1_2))) (fun _ _ _ _ => False) (fun pre H H' L hle ⟨vb9r2_0, xb9r2_0, cb9r2_0, vb9r2_1, xb9r2_1, cb9r2_1, vb9r2_2, xb9r2_2, cb9r2_2, hL, wb9r2_0, wb9r2_1, wb9r2_2, hB0, hB1, hQ⟩ => ⟨vb9r2_0, xb9r2_0, cb9r2_0, vb9r2_1, xb9r2_1, cb9r2_1, vb9r2_2, xb9r2_2, cb9r2_2, hL, (wb9r2_0.mono hle), (wb9r2_1.mono hle), (wb9r2_2.mono hle), hB0, hB1, hQ⟩) (fun _ _ _ _ _ _ h => h) ?_ ?_ ?_ ?_
        · exact ⟨.slice Ab9r1_0 xb9r1_0.length pb9r1_0, (sortI xb9r1_0), c44, .slice Ab9r1_1 xb9r1_1.length pb9r1_1, xb9r1_1, cb9r1_1, .slice Ab9r1_2 xb9r1_2.length pb9r1_2, xb9r1_2, cb9r1_2, (Has.cons (.tl .hd) (Has.cons (.tl .hd) (Has.cons (.tl .hd) (Has.cons .hd (Has.cons .hd (Has.cons .hd Has.nil)))))), (OwnS.mono w44 s47), (OwnS.mono wb9r1_1 s47), (OwnS.mono wb9r1_2 s47), (by first | omega | (simp; done) | (simp; omega) | (simp at *; omega)), (by first | omega | (simp; done) | (simp; omega) | (simp at *; omega)), (by rfl)⟩
        · intro lr2 rr2 wr2 prer2 yr2 vsr2 Hr2 Lr2 sr2 hpr2 hIr2 hYr2
          obtain ⟨vb9r2_0, xb9r2_0, cb9r2_0, vb9r2_1, xb9r2_1, cb9r2_1, vb9r2_2, xb9r2_2, cb9r2_2, hLr2, wb9r2_0, wb9r2_1, wb9r2_2, hBr2_0, hBr2_1, hQr2⟩ := hIr2
          obtain ⟨Ab9r2_0, pb9r2_0, rfl, mb9r2_0, nb9r2_0_⟩ := OwnS.shape wb9r2_0
          obtain ⟨Ab9r2_1, pb9r2_1, rfl, mb9r2_1, nb9r2_1_⟩ := OwnS.shape wb9r2_1
          obtain ⟨Ab9r2_2, pb9r2_2, rfl, mb9r2_2, nb9r2_2_⟩ := OwnS.shape wb9r2_2
          obtain ⟨zYr2_1_0, rfl, rYr2_1_0⟩ := hYr2
          obtain ⟨AYr2_1_0, pYr2_1_0, rfl, mYr2_1_0, nYr2_1_0, rYr2_1_0⟩ := rYr2_1_0.shape
          refine T.has hLr2 ?_
          have hlpr2 : prer2.length + 1 ≤ r47.length := by have h0 := hpr2.length_le; simpa using h0
          refine T.seq ?_
          refine T.region ?_
          refine R.alloc Tryd.zeroValue73 rfl ?_
          intro b12
          refine R.stX (old := [.int .i64 0, .int .u64 0]) (l := [.int .i64 (yr2.1.1), .int .u64 (yr2.1.2)]) (new := [.int .i64 (yr2.1.1), .int .u64 (yr2.1.2)]) (et := 73) Tryd.sizeOf73 rfl rfl rfl rfl rfl (by show 0 + 2 ≤ 2; decide) rfl (all_one rfl) .hd ?_
          refine TL.shut .hd ?_
          intro Hb12_2 sb12_2 qb12_2
          have hb12_2 : Hb12_2 b12 = some (.cells #[.int .i64 (yr2.1.1), .int .u64 (yr2.1.2)] 73) := shut1 qb12_2
          refine TL.nil (Post.thnN ?_)
          refine T.region ?_
          refine R.alloc Tryd.zeroValue141 rfl ?_
          intro b13
          refine R.stX (old := [.slice none 0 0]) (l := [.slice AYr2_1_0 yr2.2.length pYr2_1_0]) (new := [.slice AYr2_1_0 yr2.2.length pYr2_1_0]) (et := 141) Tryd.sizeOf141 rfl rfl rfl (cells1 rfl) rfl (by show 0 + 1 ≤ 1; decide) rfl (all_one rfl) .hd ?_
          refine TL.shut .hd ?_
          intro Hb13_3 sb13_3 qb13_3
          have hb13_3 : Hb13_3 b13 = some (.cells #[.slice AYr2_1_0 yr2.2.length pYr2_1_0] 141) := shut1 qb13_3
          refine TL.nil ?_
          refine onlyN.mk ?_
          refine T.block ?_
          refine T.seq ?_
          refine T.seq ?_
          refine T.region ?_
          refine R.ldH Tryd.isAgg137 rfl rfl ((s29.trans (s31.trans (sr1.trans (s47.trans (sr2.trans (sb12_2.trans sb13_3)))))) _ _ hb10_1) rfl ?_
          refine R.fldA Tryd.underlying73 rfl Tryd.sizeOf3 (by decide) rfl rfl ?_
          refine R.ldH Tryd.isAgg3 rfl rfl (sb13_3 _ _ hb12_2) rfl ?_
          refine R.lkuV (f := (fun z : Bool => Value.bool z)) (z0 := false) Tryd.underlying137 Tryd.underlying3 Tryd.zeroValue4 rfl rfl rfl rfl .hd wM26r1 ?_
          refine TL.nil (Post.thnN ?_)
          refine T.cond rfl (fun c53 => ?_) (fun c53 => ?_)
          · refine T.set 53 (.bool true) (congrArg Value.bool c53) ?_
            refine T.exit (Post.thnE (Post.blkX ?_))
            refine id ?_
            exact ⟨.slice Ab9r2_0 xb9r2_0.length pb9r2_0, xb9r2_0, cb9r2_0, .slice Ab9r2_1 xb9r2_1.length pb9r2_1, xb9r2_1, cb9r2_1, .slice Ab9r2_2 xb9r2_2.length pb9r2_2, xb9r2_2, cb9r2_2, (Has.cons .hd (Has.cons .hd (Has.cons .hd (Has.cons .hd (Has.cons .hd (Has.cons .hd Has.nil)))))), (OwnS.mono wb9r2_0 (sb12_2.trans sb13_3)), (OwnS.mono wb9r2_1 (sb12_2.trans sb13_3)), (OwnS.mono wb9r2_2 (sb12_2.trans sb13_3)), (by first | omega | (simp; done) | (simp; omega) | (simp at *; omega)), (by first | omega | (simp; done) | (simp; omega) | (simp at *; omega)), (by rw [← hQr2, drop_pre hpr2, plan_Of_r2]; rw [if_t c53])⟩
          · refine T.set 53 (.bool false) (congrArg Value.bool c53) ?_
            refine T.skip (Post.thnN ?_)
            refine T.seq ?_
            refine T.region ?_
            refine R.mkf (cs := [_, _]) rfl rfl ?_
            refine R.asE rfl (by conv => lhs; whnf) ?_
            refine TL.nil (Post.thnN ?_)
            refine T.seq ?_
            refine T.region ?_
            refine R.mvE rfl (by conv => lhs; whnf) ?_
            refine R.callvB rfl rfl rfl (fun HB56 sB56 qB56 => by have fB56_0 := MpR.of wM26r1 (In.all .hd qB56); exact (plan_Of_2_c _ b13 _ yr2.2 (rYr2_1_0.mono (sb12_2.trans (sb13_3.trans sB56))) (sB56 _ _ hb13_3) b10 _ xM26r1 fB56_0 ((s29.trans (s31.trans (sr1.trans (s47.trans (sr2.trans (sb12_2.trans (sb13_3.trans sB56))))))) _ _ hb10_1) (2))) ?_
            refine R.asE rfl (by conv => lhs; whnf) ?_
            refine TL.nil (Post.thnN ?_)
            refine T.seq ?_
            refine T.seq ?_
            refine T.region ?_
            refine R.mvE rfl (by conv => lhs; whnf) ?_
            refine TL.nil (Post.thnN ?_)
            refine T.cutK (ι := Value × (List Int) × Chunk × Value × (List (Int × Int)) × Chunk × Value × (List (Int × Int)) × Chunk) (fun ⟨vb9c3_0, xb9c3_0, cb9c3_0, vb9c3_1, xb9c3_1, cb9c3_1, vb9c3_2, xb9c3_2, cb9c3_2⟩ H' L' ds' => Has L' [[(b26, .map esM26r1 clM26r1)], [(b9, .cells #[vb9c3_0, vb9c3_1, vb9c3_2] 81)], [(b6, .cells #[.slice none 0 0, .slice none 0 0, .slice none 0 0] 81)], cb9c3_0, cb9c3_1, cb9c3_2] ∧ OwnS (intE .i64) 3 H' vb9c3_0 xb9c3_0 cb9c3_0 ∧ OwnS heldE 73 H' vb9c3_1 xb9c3_1 cb9c3_1 ∧ OwnS heldE 73 H' vb9c3_2 xb9c3_2 cb9c3_2 ∧ xb9c3_1.length ≤ prer2.length ∧ xb9c3_2.length ≤ prer2.length + 1 ∧ (if (plan_Of_2_m yr2.2 xM26r1 2) = true then ((xb9r2_0, xb9r2_1, (xb9r2_2 ++ [yr2.1]))) else ((xb9r2_0, xb9r2_1, xb9r2_2)) : (List Int) × (List (Int × Int)) × (List (Int × Int))) = (xb9c3_0, xb9c3_1, xb9c3_2)) (fun ⟨vb9c3_0, xb9c3_0, cb9c3_0, vb9c3_1, xb9c3_1, cb9c3_1, vb9c3_2, xb9c3_2, cb9c3_2⟩ => [(6, .pointer (some ⟨b6, 0, none⟩)), (9, .pointer (some ⟨b9, 0, none⟩)), (10, .pointer (some ⟨b10, 0, none⟩)), (12, .pointer (some ⟨b12, 0, none⟩)), (14, .func (.func 93) #[] ([.pointer (some ⟨b13, 0, none⟩), .pointer (some ⟨b10, 0, none⟩)] : List Value).toArray), (15, .bool ((plan_Of_2_m yr2.2 xM26r1 2)))]) ?_ ?_
            · refine T.cond rfl (fun c57 => ?_) (fun c57 => ?_)
              · refine T.set 57 (.bool true) (congrArg Value.bool c57) ?_
                refine T.region ?_
                refine R.fldA Tryd.underlying81 rfl Tryd.sizeOf60 (by decide) rfl rfl ?_
                refine R.ld Tryd.isAgg60 rfl rfl (.tl .hd) rfl ?_
                refine R.ldXH (cs := [.int .i64 (yr2.1.1), .int .u64 (yr2.1.2)]) (l := [.int .i64 (yr2.1.1), .int .u64 (yr2.1.2)]) Tryd.isAgg73 Tryd.sizeOf73 rfl rfl (sb13_3 _ _ hb12_2) rfl rfl ?_
                refine R.bs (e := 73) (cs := [.int .i64 (yr2.1.1), .int .u64 (yr2.1.2)]) rfl (fun _ => by kernel_rfl) ?_
                intro b61
                have w61 : OwnS heldE 73 Hb13_3 (.slice (some ⟨b61, 0, none⟩) 1 1) [yr2.1] [(b61, .cells #[.int .i64 (yr2.1.1), .int .u64 (yr2.1.2)] 73)] := OwnS.lit (xs := [yr2.1]) (cellsOf_cons (a := [.int .i64 (yr2.1.1), .int .u64 (yr2.1.2)]) rfl cellsOf_nil) (by show 1 ≤ maxLen; decide)
                obtain ⟨k62, y62, r62⟩ := Src.ownA w61
                refine R.app (E := heldE) (e := 73) (xs := xb9r2_2) (ys := [yr2.1]) Tryd_ty60 rfl rfl rfl (OwnS.mono wb9r2_2 (sb12_2.trans sb13_3)) (.tl (.tl (.tl (.tl (.tl (.tl .hd)))))) (r62 _ .hd) y62 (by (try simp only [List.length_append, List.length_cons, List.length_nil, List.length_replicate, List.length_take, List.length_drop]); omega) (by (try simp only [List.length_append, List.length_cons, List.length_nil, List.length_replicate, List.length_take, List.length_drop]); omega) ?_
                intro v62 c62 w62
                obtain ⟨A62, p62, rfl, m62, n62⟩ := OwnS.shape w62
                refine TL.del (.tl .hd) ?_
                refine R.fldA Tryd.underlying81 rfl Tryd.sizeOf60 (by decide) rfl rfl ?_
                refine R.stX (old := [.slice Ab9r2_0 xb9r2_0.length pb9r2_0, .slice Ab9r2_1 xb9r2_1.length pb9r2_1, .slice Ab9r2_2 xb9r2_2.length pb9r2_2]) (l := [.slice A62 (xb9r2_2 ++ [yr2.1]).length p62]) (new := [.slice Ab9r2_0 xb9r2_0.length pb9r2_0, .slice Ab9r2_1 xb9r2_1.length pb9r2_1, .slice A62 (xb9r2_2 ++ [yr2.1]).length p62]) (et := 81) Tryd.sizeOf60 rfl rfl rfl (cells1 rfl) rfl (by show 2 + 1 ≤ 3; decide) rfl (all_one rfl) (.tl (.tl .hd)) ?_
                refine TL.nil (Post.thnN ?_)
                exact ⟨(.slice Ab9r2_0 xb9r2_0.length pb9r2_0, xb9r2_0, cb9r2_0, .slice Ab9r2_1 xb9r2_1.length pb9r2_1, xb9r2_1, cb9r2_1, .slice A62 (xb9r2_2 ++ [yr2.1]).length p62, (xb9r2_2 ++ [yr2.1]), c62), HLe.refl _, ⟨(Has.cons (.tl .hd) (Has.cons (.tl .hd) (Has.cons (.tl .hd) (Has.cons (.tl .hd) (Has.cons (.tl .hd) (Has.cons .hd Has.nil)))))), (OwnS.mono wb9r2_0 (sb12_2.trans sb13_3)), (OwnS.mono wb9r2_1 (sb12_2.trans sb13_3)), w62, (by first | omega | (simp; done) | (simp; omega) | (simp at *; omega)), (by first | omega | (simp; done) | (simp; omega) | (simp at *; omega)), (by rw [if_t c57])⟩, rfl, rfl, rfl, rfl, rfl, rfl, trivial⟩
              · refine T.set 57 (.bool false) (congrArg Value.bool c57) ?_
                refine T.skip (Post.thnN ?_)
                exact ⟨(.slice Ab9r2_0 xb9r2_0.length pb9r2_0, xb9r2_0, cb9r2_0, .slice Ab9r2_1 xb9r2_1.length pb9r2_1, xb9r2_1, cb9r2_1, .slice Ab9r2_2 xb9r2_2.length pb9r2_2, xb9r2_2, cb9r2_2), HLe.refl _, ⟨(Has.cons .hd (Has.cons .hd (Has.cons .hd (Has.cons .hd (Has.cons .hd (Has.cons .hd Has.nil)))))), (OwnS.mono wb9r2_0 (sb12_2.trans sb13_3)), (OwnS.mono wb9r2_1 (sb12_2.trans sb13_3)), (OwnS.mono wb9r2_2 (sb12_2.trans sb13_3)), (by first | omega | (simp; done) | (simp; omega) | (simp at *; omega)), (by first | omega | (simp; done) | (simp; omega) | (simp at *; omega)), (by rw [if_f c57])⟩, rfl, rfl, rfl, rfl, rfl, rfl, trivial⟩
            · intro ⟨vb9c3_0, xb9c3_0, cb9c3_0, vb9c3_1, xb9c3_1, cb9c3_1, vb9c3_2, xb9c3_2, cb9c3_2⟩ σ_c3 H_c3 L_c3 ds_c3 s_c3 hI_c3
              obtain ⟨hLc3, wb9c3_0, wb9c3_1, wb9c3_2, hBc3_0, hBc3_1, hTc3⟩ := hI_c3
              obtain ⟨Ab9c3_0, pb9c3_0, rfl, mb9c3_0, nb9c3_0_⟩ := OwnS.shape wb9c3_0
              obtain ⟨Ab9c3_1, pb9c3_1, rfl, mb9c3_1, nb9c3_1_⟩ := OwnS.shape wb9c3_1
              obtain ⟨Ab9c3_2, pb9c3_2, rfl, mb9c3_2, nb9c3_2_⟩ := OwnS.shape wb9c3_2
              refine T.has hLc3 ?_
              refine T.seq ?_
              refine T.cutK (ι := Bool) (fun b68c4 H' L' ds' => Has L' [[(b26, .map esM26r1 clM26r1)], [(b9, .cells #[.slice Ab9c3_0 xb9c3_0.length pb9c3_0, .slice Ab9c3_1 xb9c3_1.length pb9c3_1, .slice Ab9c3_2 xb9c3_2.length pb9c3_2] 81)], [(b6, .cells #[.slice none 0 0, .slice none 0 0, .slice none 0 0] 81)], cb9c3_0, cb9c3_1, cb9c3_2] ∧ (if (plan_Of_2_m yr2.2 xM26r1 2) = true then true else ((plan_Of_2_m yr2.2 xM26r1 0)) : Bool) = b68c4) (fun b68c4 => [(6, .pointer (some ⟨b6, 0, none⟩)), (9, .pointer (some ⟨b9, 0, none⟩)), (10, .pointer (some ⟨b10, 0, none⟩)), (12, .pointer (some ⟨b12, 0, none⟩)), (68, .bool (b68c4))]) ?_ ?_
              · refine T.region ?_
                refine R.mvE rfl (by conv => lhs; whnf) ?_
                refine R.mvE rfl (by conv => lhs; whnf) ?_
                refine TL.gsplit 65 rfl (fun g65 => ?_) (fun g65 => ?_)
                · refine TL.off rfl rfl rfl ?_
                  refine TL.off rfl rfl rfl ?_
                  refine R.pkTE rfl rfl (by conv => lhs; whnf) ?_
                  refine TL.nil (Post.thnN ?_)
                  exact ⟨true, HLe.refl _, ⟨(Has.cons .hd (Has.cons .hd (Has.cons .hd (Has.cons .hd (Has.cons .hd (Has.cons .hd Has.nil)))))), (by rw [if_t g65])⟩, rfl, rfl, rfl, rfl, rfl, trivial⟩
                · refine R.mvE rfl (by conv => lhs; whnf) ?_
                  refine R.callvB rfl rfl rfl (fun HB67 sB67 qB67 => by have fB67_0 := MpR.of wM26r1 (In.all .hd qB67); exact (plan_Of_2_c _ b13 _ yr2.2 (rYr2_1_0.mono (sb12_2.trans (sb13_3.trans (s_c3.trans sB67)))) ((s_c3.trans sB67) _ _ hb13_3) b10 _ xM26r1 fB67_0 ((s29.trans (s31.trans (sr1.trans (s47.trans (sr2.trans (sb12_2.trans (sb13_3.trans (s_c3.trans sB67)))))))) _ _ hb10_1) (0))) ?_
                  refine R.pkFE rfl rfl (by conv => lhs; whnf) ?_
                  refine TL.nil (Post.thnN ?_)
                  exact ⟨(plan_Of_2_m yr2.2 xM26r1 0), HLe.refl _, ⟨(Has.cons .hd (Has.cons .hd (Has.cons .hd (Has.cons .hd (Has.cons .hd (Has.cons .hd Has.nil)))))), (by rw [if_f g65])⟩, rfl, rfl, rfl, rfl, rfl, trivial⟩
              · intro b68c4 σ_c4 H_c4 L_c4 ds_c4 s_c4 hI_c4
                obtain ⟨hLc4, hTc4⟩ := hI_c4
                refine T.has hLc4 ?_
                refine T.cond rfl (fun c68 => ?_) (fun c68 => ?_)
                · refine T.set 68 (.bool true) (congrArg Value.bool c68) ?_
                  have hZ68 := hTc4.trans c68
                  try simp only [or_f, or_t, and_f, and_t, decide_eq_true_eq, decide_eq_false_iff_not, Bool.not_eq_true'] at hZ68
                  refine T.region ?_
                  refine R.fldA Tryd.underlying81 rfl Tryd.sizeOf60 (by decide) rfl rfl ?_
                  refine R.ld Tryd.isAgg60 rfl rfl (.tl .hd) rfl ?_
                  refine R.ldXH (cs := [.int .i64 (yr2.1.1), .int .u64 (yr2.1.2)]) (l := [.int .i64 (yr2.1.1), .int .u64 (yr2.1.2)]) Tryd.isAgg73 Tryd.sizeOf73 rfl rfl ((sb13_3.trans (s_c3.trans s_c4)) _ _ hb12_2) rfl rfl ?_
                  refine R.bs (e := 73) (cs := [.int .i64 (yr2.1.1), .int .u64 (yr2.1.2)]) rfl (fun _ => by kernel_rfl) ?_
                  intro b72
                  have w72 : OwnS heldE 73 H_c4 (.slice (some ⟨b72, 0, none⟩) 1 1) [yr2.1] [(b72, .cells #[.int .i64 (yr2.1.1), .int .u64 (yr2.1.2)] 73)] := OwnS.lit (xs := [yr2.1]) (cellsOf_cons (a := [.int .i64 (yr2.1.1), .int .u64 (yr2.1.2)]) rfl cellsOf_nil) (by show 1 ≤ maxLen; decide)
                  obtain ⟨k73, y73, r73⟩ := Src.ownA w72
                  refine R.app (E := heldE) (e := 73) (xs := xb9c3_1) (ys := [yr2.1]) Tryd_ty60 rfl rfl rfl (OwnS.mono wb9c3_1 s_c4) (.tl (.tl (.tl (.tl (.tl .hd))))) (r73 _ .hd) y73 (by (try simp only [List.length_append, List.length_cons, List.length_nil, List.length_replicate, List.length_take, List.length_drop]); omega) (by (try simp only [List.length_append, List.length_cons, List.length_nil, List.length_replicate, List.length_take, List.length_drop]); omega) ?_
                  intro v73 c73 w73
                  obtain ⟨A73, p73, rfl, m73, n73⟩ := OwnS.shape w73
                  refine TL.del (.tl .hd) ?_
                  refine R.fldA Tryd.underlying81 rfl Tryd.sizeOf60 (by decide) rfl rfl ?_
                  refine R.stX (old := [.slice Ab9c3_0 xb9c3_0.length pb9c3_0, .slice Ab9c3_1 xb9c3_1.length pb9c3_1, .slice Ab9c3_2 xb9c3_2.length pb9c3_2]) (l := [.slice A73 (xb9c3_1 ++ [yr2.1]).length p73]) (new := [.slice Ab9c3_0 xb9c3_0.length pb9c3_0, .slice A73 (xb9c3_1 ++ [yr2.1]).length p73, .slice Ab9c3_2 xb9c3_2.length pb9c3_2]) (et := 81) Tryd.sizeOf60 rfl rfl rfl (cells1 rfl) rfl (by show 1 + 1 ≤ 3; decide) rfl (all_one rfl) (.tl (.tl .hd)) ?_
                  refine TL.nil (Post.blkN ?_)
                  refine id ?_
                  exact ⟨.slice Ab9c3_0 xb9c3_0.length pb9c3_0, xb9c3_0, cb9c3_0, .slice A73 (xb9c3_1 ++ [yr2.1]).length p73, (xb9c3_1 ++ [yr2.1]), c73, .slice Ab9c3_2 xb9c3_2.length pb9c3_2, xb9c3_2, cb9c3_2, (Has.cons (.tl .hd) (Has.cons (.tl .hd) (Has.cons (.tl .hd) (Has.cons (.tl .hd) (Has.cons .hd (Has.cons .hd Has.nil)))))), (OwnS.mono wb9c3_0 s_c4), w73, (OwnS.mono wb9c3_2 s_c4), (by first | omega | (simp; done) | (simp; omega) | (simp at *; omega)), (by first | omega | (simp; done) | (simp; omega) | (simp at *; omega)), (by rw [← hQr2, drop_pre hpr2, plan_Of_r2]; rw [if_f c53, hTc3, LR.seq_go, hTc4, LR.seq_go, if_t c68])⟩
                · refine T.set 68 (.bool false) (congrArg Value.bool c68) ?_
                  have hZ68 := hTc4.trans c68
                  try simp only [or_f, or_t, and_f, and_t, decide_eq_true_eq, decide_eq_false_iff_not, Bool.not_eq_true'] at hZ68
                  refine T.skip (Post.blkN ?_)
                  refine id ?_
                  exact ⟨.slice Ab9c3_0 xb9c3_0.length pb9c3_0, xb9c3_0, cb9c3_0, .slice Ab9c3_1 xb9c3_1.length pb9c3_1, xb9c3_1, cb9c3_1, .slice Ab9c3_2 xb9c3_2.length pb9c3_2, xb9c3_2, cb9c3_2, (Has.cons .hd (Has.cons .hd (Has.cons .hd (Has.cons .hd (Has.cons .hd (Has.cons .hd Has.nil)))))), (OwnS.mono wb9c3_0 s_c4), (OwnS.mono wb9c3_1 s_c4), (OwnS.mono wb9c3_2 s_c4), (by first | omega | (simp; done) | (simp; omega) | (simp at *; omega)), (by first | omega | (simp; done) | (simp; omega) | (simp at *; omega)), (by rw [← hQr2, drop_pre hpr2, plan_Of_r2]; rw [if_f c53, hTc3, LR.seq_go, hTc4, LR.seq_go, if_f c68])⟩
        · intro Dr2 Hr2 Lr2 sr2 hIr2
          obtain ⟨vb9r2_0, xb9r2_0, cb9r2_0, vb9r2_1, xb9r2_1, cb9r2_1, vb9r2_2, xb9r2_2, cb9r2_2, hLr2, wb9r2_0, wb9r2_1, wb9r2_2, hBr2_0, hBr2_1, hQr2⟩ := hIr2
          obtain ⟨Ab9r2_0, pb9r2_0, rfl, mb9r2_0, nb9r2_0_⟩ := OwnS.shape wb9r2_0
          obtain ⟨Ab9r2_1, pb9r2_1, rfl, mb9r2_1, nb9r2_1_⟩ := OwnS.shape wb9r2_1
          obtain ⟨Ab9r2_2, pb9r2_2, rfl, mb9r2_2, nb9r2_2_⟩ := OwnS.shape wb9r2_2
          have hEr2 : plan_Of_r2 xM26r1 r47 (((sortI xb9r1_0), xb9r1_1, xb9r1_2)) = (xb9r2_0, xb9r2_1, xb9r2_2) := by rw [← hQr2, List.drop_length, plan_Of_r2]
          refine id (Post.blkN ?_)
          refine id (Post.thnN ?_)
          refine T.has hLr2 ?_
          refine T.seq ?_
          refine T.region ?_
          refine R.ldX (cs := [.slice Ab9r2_0 xb9r2_0.length pb9r2_0, .slice Ab9r2_1 xb9r2_1.length pb9r2_1, .slice Ab9r2_2 xb9r2_2.length pb9r2_2]) (l := [.slice Ab9r2_0 xb9r2_0.length pb9r2_0, .slice Ab9r2_1 xb9r2_1.length pb9r2_1, .slice Ab9r2_2 xb9r2_2.length pb9r2_2]) Tryd.isAgg81 Tryd.sizeOf81 rfl rfl (.tl .hd) rfl rfl ?_
          refine R.stX (old := [.slice none 0 0, .slice none 0 0, .slice none 0 0]) (l := [.slice Ab9r2_0 xb9r2_0.length pb9r2_0, .slice Ab9r2_1 xb9r2_1.length pb9r2_1, .slice Ab9r2_2 xb9r2_2.length pb9r2_2]) (new := [.slice Ab9r2_0 xb9r2_0.length pb9r2_0, .slice Ab9r2_1 xb9r2_1.length pb9r2_1, .slice Ab9r2_2 xb9r2_2.length pb9r2_2]) (et := 81) Tryd.sizeOf81 rfl rfl rfl rfl rfl (by show 0 + 3 ≤ 3; decide) rfl (all_one rfl) (.tl (.tl .hd)) ?_
          refine R.asE rfl (by conv => lhs; whnf) ?_
          refine TL.nil (Post.thnN ?_)
          refine T.has (Has.cons (.tl (.tl (.tl .hd))) (Has.cons (.tl (.tl (.tl .hd))) (Has.cons (.tl (.tl (.tl .hd))) (Has.cons (.tl (.tl .hd)) Has.nil)))) ?_
          refine T.ret ?_
          have hM : plan_Of_m a0 a1 a2 = ((xb9r2_0, xb9r2_1, xb9r2_2), 0) := by subst er47; subst er31; subst er29; rw [plan_Of_m, if_neg c20, if_f c24, LR.seq_go, LR.seq_go, hEr1, LR.seq_go, LR.seq_go, hEr2, LR.seq_go]
          exact finR2 (v := .agg #[.slice Ab9r2_0 xb9r2_0.length pb9r2_0, .slice Ab9r2_1 xb9r2_1.length pb9r2_1, .slice Ab9r2_2 xb9r2_2.length pb9r2_2]) (v' := .int .i64 0) [cb9r2_0, cb9r2_1, cb9r2_2] rfl (.cellA (cs := [.slice Ab9r2_0 xb9r2_0.length pb9r2_0, .slice Ab9r2_1 xb9r2_1.length pb9r2_1, .slice Ab9r2_2 xb9r2_2.length pb9r2_2]) (l := [.slice Ab9r2_0 xb9r2_0.length pb9r2_0, .slice Ab9r2_1 xb9r2_1.length pb9r2_1, .slice Ab9r2_2 xb9r2_2.length pb9r2_2]) Tryd.isAgg81 Tryd.sizeOf81 rfl (.tl (.tl (.tl .hd))) rfl rfl) (.tmp rfl) (List.sublist_append_left ([cb9r2_0, cb9r2_1, cb9r2_2] : Own) _) ⟨.slice Ab9r2_0 xb9r2_0.length pb9r2_0, .slice Ab9r2_1 xb9r2_1.length pb9r2_1, .slice Ab9r2_2 xb9r2_2.length pb9r2_2, cb9r2_0, cb9r2_1, cb9r2_2, by first | rw [hM] | rfl, rfl, by rw [hM]; exact wb9r2_0, by rw [hM]; exact wb9r2_1, by rw [hM]; exact wb9r2_2⟩
        · intro Dr2 cr2 prer2 yr2 Hr2 Lr2 sr2 hpr2 hIr2
          exact hIr2.elim
      · intro Dr1 cr1 prer1 yr1 Hr1 Lr1 sr1 hpr1 hIr1
        exact hIr1.elim

def slices_IndexFunc_Held_l1 (a1 : (Int × Int) → Bool) : List (Int × Int) → Nat → Unit → LR (Int) (Unit)
  | [], kl1, sl1 => .go ()
  | yl1 :: ysl1, kl1, sl1 => if (a1 yl1) = true then (.ret ((kl1 : Int))) else (slices_IndexFunc_Held_l1 a1 ysl1 (kl1 + 1) ())
def slices_IndexFunc_Held_m (a0 : List (Int × Int)) (a1 : (Int × Int) → Bool) : Int :=
  LR.on (slices_IndexFunc_Held_l1 a1 a0 0 ()) (fun r => r) (fun ol1 => (-1))
def slices_ContainsFunc_Held_m (a0 : List (Int × Int)) (a1 : (Int × Int) → Bool) : Bool :=
  (decide ((0 : Int) ≤ (slices_IndexFunc_Held_m a0 a1)))
def plan_Closed_1_m (q0 : List Int) (a0 : Int × Int) : Bool :=
  (decide (¬ (a0.1 ∈ q0)))
def plan_Closed_l1 (a2 : List Int) (r20 : (Int → List (Int × Int))) : List Int → Unit → LR (Bool × Int) (Unit)
  | [], sl1 => .go ()
  | yl1 :: ysl1, sl1 => LR.seq (slices_ContainsFunc_Held_m ((r20 yl1)) ((fun z0 => plan_Closed_1_m a2 z0))) (fun r31 => if r31 = true then (.ret ((false, 0))) else (plan_Closed_l1 a2 r20 ysl1 ()))
def plan_Closed_m (a0 : List (Int × (Bool × Bool × Int × Int × Int))) (a1 : List (Int × Int)) (a2 : List Int) : Bool × Int :=
  if ((plan_Check_m a0 a1) : Int) ≠ 0 then ((false, (plan_Check_m a0 a1))) else (LR.seq (plan_killers_m a0 a1) (fun r20 => LR.on (plan_Closed_l1 a2 r20 a2 ()) (fun r => r) (fun ol1 => (true, 0))))
def plan_Why_r3 (a3 : Int) : List (Int × (List (Int × Int))) → ((List (Int × Int)) × Int) → LR ((List (Int × Int)) × Int) ((List (Int × Int)) × Int)
  | [], sr3 => .go sr3
  | yr3 :: ysr3, sr3 => if yr3.1 = a3 then (.ret ((yr3.2, 0))) else (plan_Why_r3 a3 ysr3 ((sr3.1, sr3.2)))
def plan_Why_m (a0 : List (Int × (Bool × Bool × Int × Int × Int))) (a1 : List (Int × Int)) (a2 : Int) (a3 : Int) : (List (Int × Int)) × Int :=
  if ((plan_Check_m a0 a1) : Int) ≠ 0 then (([], (plan_Check_m a0 a1))) else (LR.seq (if (!(plan_index_m a2)) = true then true else ((!(plan_index_m a3))) : Bool) (fun sc1 => if sc1 = true then (([], 2)) else (LR.seq (plan_killers_m a0 a1) (fun r31 => LR.seq (plan_deaths_m r31 [a2]) (fun r34 => LR.seq (LR.on (plan_Why_r3 a3 r34 (([], 4))) (fun br3 => (br3.1, br3.2)) (fun or3 => (or3.1, or3.2)) : (List (Int × Int)) × Int) (fun sc2 => (sc2.1, sc2.2)))))))
set_option maxHeartbeats 3200000 in
theorem plan_Why_c (H : Heap) {tG1 : TypeId} (hG1 : H 1 = some (.cells #[.int .i64 1, .bool true, .bool true, .int .i64 0, .int .i64 1, .int .i64 2, .int .i64 2, .bool true, .bool false, .int .i64 0, .int .i64 0, .int .i64 2] tG1)) (va0 : Value) (a0 : List (Int × (Bool × Bool × Int × Int × Int))) (ha0 : RdS relationE H va0 a0) (va1 : Value) (a1 : List (Int × Int)) (ha1 : RdS heldE H va1 a1) (a2 : Int) (a3 : Int) (hl : a0.length ≤ 2000000) (hh : a1.length ≤ 100) : Fc Tryd.prog (fnv 39) [va0, va1, .int .i64 a2, .int .i64 a3] H [] (fun v' H' L' => ∃ u0_0 c0_0, v' = .tuple #[u0_0, .int .i64 (plan_Why_m a0 a1 a2 a3).2] ∧ L' = [c0_0] ∧ OwnS heldE 73 H' u0_0 (plan_Why_m a0 a1 a2 a3).1 c0_0) := by
  refine Fc.of_body (N := 44) Tryd.func39 rfl (by kernel_rfl) rfl rfl ?_
  intro w0
  obtain ⟨Aa0, ca0, rfl, hca0, hda0, ha0⟩ := ha0.shape
  obtain ⟨Aa1, ca1, rfl, hca1, hda1, ha1⟩ := ha1.shape
  refine T.seq ?_
  refine T.region ?_
  refine R.box rfl (by conv => lhs; whnf) ?_
  intro b7
  refine R.asE rfl (by conv => lhs; whnf) ?_
  refine R.asE rfl (by conv => lhs; whnf) ?_
  refine TL.shut .hd ?_
  intro Hb7_1 sb7_1 qb7_1
  have hb7_1 : Hb7_1 b7 = some (.cells #[.int .i64 a3] 3) := shut1 qb7_1
  refine TL.nil (Post.thnN ?_)
  refine T.scope ?_
  refine T.seq ?_
  refine T.seq ?_
  refine T.region ?_
  refine R.mvE rfl (by conv => lhs; whnf) ?_
  refine R.mvE rfl (by conv => lhs; whnf) ?_
  refine R.callv rfl rfl rfl (plan_Check_c _ (sb7_1 _ _ hG1) _ a0 (ha0.mono sb7_1) _ a1 (ha1.mono sb7_1) (by first | omega | (simp; done) | (simp; omega) | (simp at *; omega))) ?_
  refine R.asE rfl (by conv => lhs; whnf) ?_
  refine TL.nil (Post.thnN ?_)
  refine T.seq ?_
  refine T.region ?_
  refine R.mvE rfl (by conv => lhs; whnf) ?_
  refine R.neq rfl rfl rfl ?_
  refine TL.nil (Post.thnN ?_)
  refine T.condD rfl (fun c19 => ?_) (fun c19 => ?_)
  · refine T.set 19 (.bool true) (congrArg Value.bool (decide_eq_true c19)) ?_
    refine T.seq ?_
    refine T.region ?_
    refine R.mvE rfl (by conv => lhs; whnf) ?_
    refine R.asE rfl (by conv => lhs; whnf) ?_
    refine R.asE rfl (by conv => lhs; whnf) ?_
    refine TL.nil (Post.thnN ?_)
    refine T.has (Has.none Has.nil) ?_
    refine T.ret (Post.thnR (Post.ngR ?_))
    have hM : plan_Why_m a0 a1 a2 a3 = ([], (plan_Check_m a0 a1)) := by rw [plan_Why_m, if_pos c19]
    exact fin2L (v := .slice none 0 0) (v' := .int .i64 (plan_Check_m a0 a1)) [[]] rfl rfl rfl (List.Sublist.refl _) ⟨.slice none 0 0, [], by first | rw [hM] | rfl, rfl, by rw [hM]; exact OwnS.nil⟩
  · refine T.set 19 (.bool false) (congrArg Value.bool (decide_eq_false c19)) ?_
    refine T.skip (Post.thnN ?_)
    refine T.seq ?_
    refine T.seq ?_
    refine T.cutK (ι := Bool) (fun b28c1 H' L' ds' => Has L' [] ∧ (if (!(plan_index_m a2)) = true then true else ((!(plan_index_m a3))) : Bool) = b28c1) (fun b28c1 => [(0, .slice Aa0 a0.length ca0), (1, .slice Aa1 a1.length ca1), (2, .int .i64 a2), (7, .pointer (some ⟨b7, 0, none⟩)), (28, .bool (b28c1))]) ?_ ?_
    · refine T.region ?_
      refine R.mvE rfl (by conv => lhs; whnf) ?_
      refine R.callv rfl rfl rfl (plan_index_c _ (a2)) ?_
      refine R.not rfl rfl ?_
      refine R.mvE rfl (by conv => lhs; whnf) ?_
      refine TL.gsplit 24 rfl (fun g24 => ?_) (fun g24 => ?_)
      · refine TL.off rfl rfl rfl ?_
        refine TL.off rfl rfl rfl ?_
        refine TL.off rfl rfl rfl ?_
        refine R.pkTE rfl rfl (by conv => lhs; whnf) ?_
        refine TL.nil (Post.thnN ?_)
        exact ⟨true, HLe.refl _, ⟨Has.nil, (by rw [if_t g24])⟩, rfl, rfl, rfl, rfl, rfl, trivial⟩
      · refine R.ldH Tryd.isAgg3 rfl rfl hb7_1 rfl ?_
        refine R.callv rfl rfl rfl (plan_index_c _ (a3)) ?_
        refine R.not rfl rfl ?_
        refine R.pkFE rfl rfl (by conv => lhs; whnf) ?_
        refine TL.nil (Post.thnN ?_)
        exact ⟨(!(plan_index_m a3)), HLe.refl _, ⟨Has.nil, (by rw [if_f g24])⟩, rfl, rfl, rfl, rfl, rfl, trivial⟩
    · intro b28c1 σ_c1 H_c1 L_c1 ds_c1 s_c1 hI_c1
      obtain ⟨hLc1, hTc1⟩ := hI_c1
      refine T.has hLc1 ?_
      refine T.cond rfl (fun c28 => ?_) (fun c28 => ?_)
      · refine T.set 28 (.bool true) (congrArg Value.bool c28) ?_
        have hZ28 := hTc1.trans c28
        try simp only [or_f, or_t, and_f, and_t, decide_eq_true_eq, decide_eq_false_iff_not, Bool.not_eq_true'] at hZ28
        refine T.seq ?_
        refine T.region ?_
        refine R.asE rfl (by conv => lhs; whnf) ?_
        refine R.asE rfl (by conv => lhs; whnf) ?_
        refine TL.nil (Post.thnN ?_)
        refine T.has (Has.none Has.nil) ?_
        refine T.ret (Post.thnR (Post.ngR ?_))
        have hM : plan_Why_m a0 a1 a2 a3 = ([], 2) := by rw [plan_Why_m, if_neg c19, hTc1, LR.seq_go, if_t c28]
        exact fin2L (v := .slice none 0 0) (v' := .int .i64 2) [[]] rfl rfl rfl (List.Sublist.refl _) ⟨.slice none 0 0, [], by first | rw [hM] | rfl, rfl, by rw [hM]; exact OwnS.nil⟩
      · refine T.set 28 (.bool false) (congrArg Value.bool c28) ?_
        have hZ28 := hTc1.trans c28
        try simp only [or_f, or_t, and_f, and_t, decide_eq_true_eq, decide_eq_false_iff_not, Bool.not_eq_true'] at hZ28
        refine T.skip (Post.thnN ?_)
        refine T.seq ?_
        refine T.region ?_
        refine R.alloc Tryd.zeroValue33 rfl ?_
        intro b11
        refine R.stX (old := [.int .i64 0]) (l := [.int .i64 4]) (new := [.int .i64 4]) (et := 33) Tryd.sizeOf33 rfl rfl rfl (cells1 rfl) rfl (by show 0 + 1 ≤ 1; decide) rfl (all_one rfl) .hd ?_
        refine TL.nil (Post.thnN ?_)
        refine T.seq ?_
        refine T.region ?_
        refine R.alloc Tryd.zeroValue60 rfl ?_
        intro b12
        refine TL.nil (Post.thnN ?_)
        refine T.seq ?_
        refine T.label (Post.thnN ?_)
        refine T.seq ?_
        refine T.seq ?_
        refine T.region ?_
        refine R.mvE rfl (by conv => lhs; whnf) ?_
        refine R.mvE rfl (by conv => lhs; whnf) ?_
        obtain ⟨r31, er31⟩ : ∃ r, r = (plan_killers_m a0 a1) := ⟨_, rfl⟩
        refine R.callp rfl rfl rfl (plan_killers_c _ ((sb7_1.trans s_c1) _ _ hG1) _ a0 (ha0.mono (sb7_1.trans s_c1)) _ a1 (ha1.mono (sb7_1.trans s_c1)) (by first | omega | (simp; done) | (simp; omega) | (simp at *; omega)) (by first | omega | (simp; done) | (simp; omega) | (simp at *; omega))) ?_
        intro v31 H31 s31 q31
        rw [← er31] at q31
        obtain ⟨u31_0_0, rfl, w31_0_0⟩ := q31
        have hby31 : ByOk r31 := kill_by _ _ _ er31 (by first | omega | (simp; done) | (simp; omega) | (simp at *; omega))
        refine R.mvE rfl (by conv => lhs; whnf) ?_
        refine R.bs rfl (run_buildSlice1 Tryd.underlying23 Tryd.sizeOf3 Tryd.zeroValue3 rfl rfl) ?_
        intro b33
        have w33 : OwnS (intE .i64) 3 H31 (.slice (some ⟨b33, 0, none⟩) 1 1) [a2] [(b33, .cells #[.int .i64 a2] 3)] := OwnS.lit (xs := [a2]) (cellsOf_cons (a := [.int .i64 a2]) rfl cellsOf_nil) (by show 1 ≤ maxLen; decide)
        refine TL.shut .hd ?_
        intro HF33_2 sF33_2 qF33_2
        have fF33_2 := OwnS.read w33 sF33_2 qF33_2
        obtain ⟨r34, er34⟩ : ∃ r, r = (plan_deaths_m r31 [a2]) := ⟨_, rfl⟩
        refine R.callp rfl rfl rfl (plan_deaths_c _ _ r31 (w31_0_0.mono sF33_2) _ [a2] fF33_2 (by first | omega | (simp; done) | (simp; omega) | (simp at *; omega)) (by first | omega | (simp; done) | (simp; omega) | (simp at *; omega))) ?_
        intro v34 H34 s34 q34
        rw [← er34] at q34
        obtain ⟨u34_0_0, rfl, w34_0_0⟩ := q34
        have td34 := deaths_facts _ _ _ er34 (by assumption) (by first | omega | (simp; done) | (simp; omega) | (simp at *; omega))
        refine TL.nil (Post.thnN ?_)
        refine T.cutK (ι := Value × (List (Int × Int)) × Chunk × Int) (fun ⟨vb12c2_0, xb12c2_0, cb12c2_0, nb11c2_0⟩ H' L' ds' => Has L' [[(b12, .cells #[vb12c2_0] 60)], [(b11, .cells #[.int .i64 nb11c2_0] 33)], cb12c2_0] ∧ OwnS heldE 73 H' vb12c2_0 xb12c2_0 cb12c2_0 ∧ (LR.on (plan_Why_r3 a3 r34 (([], 4))) (fun br3 => (br3.1, br3.2)) (fun or3 => (or3.1, or3.2)) : (List (Int × Int)) × Int) = (xb12c2_0, nb11c2_0)) (fun ⟨vb12c2_0, xb12c2_0, cb12c2_0, nb11c2_0⟩ => [(11, .pointer (some ⟨b11, 0, none⟩)), (12, .pointer (some ⟨b12, 0, none⟩))]) ?_ ?_
        · refine T.block ?_
          refine T.rangeFunc (xs := r34) rfl rfl (enters_of Tryd.func122 (by kernel_rfl) rfl) w34_0_0 (fun _ _ _ h => by obtain ⟨_, rfl, _⟩ := h; rfl) rfl (fun pre H' L' => ∃ (vb12r3_0 : Value) (xb12r3_0 : List (Int × Int)) (cb12r3_0 : Chunk) (nb11r3_0 : Int), Has L' [[(b12, .cells #[vb12r3_0] 60)], [(b11, .cells #[.int .i64 nb11r3_0] 33)], cb12r3_0] ∧ OwnS heldE 73 H' vb12r3_0 xb12r3_0 cb12r3_0 ∧ plan_Why_r3 a3 (r34.drop pre.length) ((xb12r3_0, nb11r3_0)) = plan_Why_r3 a3 r34 (([], 4))) (fun c pre H' L' => c = .exit 0 ∧ ∃ (vb12r3_0 : Value) (xb12r3_0 : List (Int × Int)) (cb12r3_0 : Chunk) (nb11r3_0 : Int), Has L' [[(b12, .cells #[vb12r3_0] 60)], [(b11, .cells #[.int .i64 nb11r3_0] 33)], cb12r3_0] ∧ OwnS heldE 73 H' vb12r3_0 xb12r3_0 cb12r3_0 ∧ plan_Why_r3 a3 r34 (([], 4)) = .ret ((xb12r3_0, nb11r3_0))) (fun pre H H' L hle ⟨vb12r3_0, xb12r3_0, cb12r3_0, nb11r3_0, hL, wb12r3_0, hQ⟩ => ⟨vb12r3_0, xb12r3_0, cb12r3_0, nb11r3_0, hL, (wb12r3_0.mono hle), hQ⟩) (fun c pre H H' L hle ⟨hc, vb12r3_0, xb12r3_0, cb12r3_0, nb11r3_0, hL, wb12r3_0, hQ⟩ => ⟨hc, vb12r3_0, xb12r3_0, cb12r3_0, nb11r3_0, hL, (wb12r3_0.mono hle), hQ⟩) ?_ ?_ ?_ ?_
          · exact ⟨.slice none 0 0, [], [], 4, (Has.cons .hd (Has.cons .hd (Has.none Has.nil))), OwnS.nil, (by rfl)⟩
          · intro lr3 rr3 wr3 prer3 yr3 vsr3 Hr3 Lr3 sr3 hpr3 hIr3 hYr3
            obtain ⟨vb12r3_0, xb12r3_0, cb12r3_0, nb11r3_0, hLr3, wb12r3_0, hQr3⟩ := hIr3
            obtain ⟨Ab12r3_0, pb12r3_0, rfl, mb12r3_0, nb12r3_0_⟩ := OwnS.shape wb12r3_0
            obtain ⟨zYr3_1_0, rfl, rYr3_1_0⟩ := hYr3
            obtain ⟨AYr3_1_0, pYr3_1_0, rfl, mYr3_1_0, nYr3_1_0, rYr3_1_0⟩ := rYr3_1_0.shape
            refine T.has hLr3 ?_
            have hlpr3 : prer3.length + 1 ≤ r34.length := by have h0 := hpr3.length_le; simpa using h0
            have hw3 := td34.2 yr3 (hpr3.subset (by simp))
            refine T.seq ?_
            refine T.region ?_
            refine R.asE rfl (by conv => lhs; whnf) ?_
            refine TL.nil (Post.thnN ?_)
            refine T.region ?_
            refine R.asE rfl (by conv => lhs; whnf) ?_
            refine TL.nil ?_
            refine onlyN.mk ?_
            refine T.block ?_
            refine T.seq ?_
            refine T.region ?_
            refine R.mvE rfl (by conv => lhs; whnf) ?_
            refine R.ldH Tryd.isAgg3 rfl rfl ((s_c1.trans (s31.trans (sF33_2.trans (s34.trans sr3)))) _ _ hb7_1) rfl ?_
            refine R.eql rfl rfl rfl ?_
            refine TL.nil (Post.thnN ?_)
            refine T.condD rfl (fun c39 => ?_) (fun c39 => ?_)
            · refine T.set 39 (.bool true) (congrArg Value.bool (decide_eq_true c39)) ?_
              refine T.seq ?_
              refine T.region ?_
              refine R.mvE rfl (by conv => lhs; whnf) ?_
              refine TL.call [] rfl rfl rfl (clone60_c _ _ yr3.2 rYr3_1_0 (by first | omega | (simp; done) | (simp; omega) | (simp at *; omega))) ?_
              intro v41 H41 L41 s41 q41
              obtain ⟨c41, rfl, w41⟩ := q41
              obtain ⟨x41, e41⟩ : ∃ x, x = yr3.2 := ⟨_, rfl⟩
              rw [← e41] at w41
              obtain ⟨A41, p41, rfl, m41, n41⟩ := OwnS.shape w41
              have t41 : x41.length = yr3.2.length := by rw [e41]
              refine R.stX (old := [.int .i64 nb11r3_0]) (l := [.int .i64 0]) (new := [.int .i64 0]) (et := 33) Tryd.sizeOf33 rfl rfl rfl (cells1 rfl) rfl (by show 0 + 1 ≤ 1; decide) rfl (all_one rfl) (.tl (.tl .hd)) ?_
              refine R.stX (old := [.slice Ab12r3_0 xb12r3_0.length pb12r3_0]) (l := [.slice A41 x41.length p41]) (new := [.slice A41 x41.length p41]) (et := 60) Tryd.sizeOf60 rfl rfl rfl (cells1 rfl) rfl (by show 0 + 1 ≤ 1; decide) rfl (all_one rfl) (.tl .hd) ?_
              refine TL.nil (Post.thnN ?_)
              refine T.exit (Post.blkE rfl ?_)
              exact ⟨rfl, .slice A41 x41.length p41, x41, c41, 0, (Has.cons (.tl .hd) (Has.cons (.tl .hd) (Has.cons .hd Has.nil))), w41, (by subst e41; rw [← hQr3, drop_pre hpr3, plan_Why_r3]; rw [if_pos c39])⟩
            · refine T.set 39 (.bool false) (congrArg Value.bool (decide_eq_false c39)) ?_
              refine T.skip (Post.blkN ?_)
              refine id ?_
              exact ⟨.slice Ab12r3_0 xb12r3_0.length pb12r3_0, xb12r3_0, cb12r3_0, nb11r3_0, (Has.cons .hd (Has.cons .hd (Has.cons .hd Has.nil))), wb12r3_0, (by rw [← hQr3, drop_pre hpr3, plan_Why_r3]; rw [if_neg c39])⟩
          · intro Dr3 Hr3 Lr3 sr3 hIr3
            obtain ⟨vb12r3_0, xb12r3_0, cb12r3_0, nb11r3_0, hLr3, wb12r3_0, hQr3⟩ := hIr3
            obtain ⟨Ab12r3_0, pb12r3_0, rfl, mb12r3_0, nb12r3_0_⟩ := OwnS.shape wb12r3_0
            have hEr3 : plan_Why_r3 a3 r34 (([], 4)) = .go ((xb12r3_0, nb11r3_0)) := by rw [← hQr3, List.drop_length, plan_Why_r3]
            refine id (Post.blkN ?_)
            refine id (Post.thnN ?_)
            exact ⟨(.slice Ab12r3_0 xb12r3_0.length pb12r3_0, xb12r3_0, cb12r3_0, nb11r3_0), sr3, ⟨(Has.trans hLr3 (Has.cons .hd (Has.cons .hd (Has.cons .hd Has.nil)))), wb12r3_0, (by rw [hEr3, LR.on_go])⟩, rfl, rfl, trivial⟩
          · intro Dr3 cr3 prer3 yr3 Hr3 Lr3 sr3 hpr3 hIr3
            obtain ⟨rfl, vb12r3_0, xb12r3_0, cb12r3_0, nb11r3_0, hLr3, wb12r3_0, hXr3⟩ := hIr3
            obtain ⟨Ab12r3_0, pb12r3_0, rfl, mb12r3_0, nb12r3_0_⟩ := OwnS.shape wb12r3_0
            refine T.has hLr3 ?_
            refine T.exit (Post.blkX ?_)
            refine id (Post.thnN ?_)
            exact ⟨(.slice Ab12r3_0 xb12r3_0.length pb12r3_0, xb12r3_0, cb12r3_0, nb11r3_0), sr3, ⟨(Has.cons .hd (Has.cons .hd (Has.cons .hd Has.nil))), wb12r3_0, (by rw [hXr3, LR.on_ret])⟩, rfl, rfl, trivial⟩
        · intro ⟨vb12c2_0, xb12c2_0, cb12c2_0, nb11c2_0⟩ σ_c2 H_c2 L_c2 ds_c2 s_c2 hI_c2
          obtain ⟨hLc2, wb12c2_0, hTc2⟩ := hI_c2
          obtain ⟨Ab12c2_0, pb12c2_0, rfl, mb12c2_0, nb12c2_0_⟩ := OwnS.shape wb12c2_0
          refine T.has hLc2 ?_
          refine T.seq ?_
          refine T.draw Tryd_mixed (by kernel_rfl) ?_
          refine Plan.s2 0 1 [1, 2, 3] [0, 2, 3] (by kernel_rfl) (by kernel_rfl) (by kernel_rfl) rfl rfl ?_ ?_
          · refine R.ld Tryd.isAgg60 rfl rfl .hd rfl ?_
            refine TL.nil (Plan.e1 (HLe.refl _) ?_)
            refine Plan.v 2 [1, 3] (by kernel_rfl) (by kernel_rfl) (by kernel_rfl) (by kernel_rfl) rfl (fun _ _ h_ => R.asE rfl (by conv => lhs; whnf) (TL.nil h_)) ?_
            refine Plan.s1 1 [3] (by kernel_rfl) (by kernel_rfl) rfl ?_
            refine R.ld Tryd.isAgg33 rfl rfl (.tl .hd) rfl ?_
            refine TL.nil (Plan.e1 (HLe.refl _) ?_)
            refine Plan.v 3 [] (by kernel_rfl) (by kernel_rfl) (by kernel_rfl) (by kernel_rfl) rfl (fun _ _ h_ => R.asE rfl (by conv => lhs; whnf) (TL.nil h_)) ?_
            refine Plan.done (Post.thnN ?_)
            refine T.has (Has.cons (.tl (.tl .hd)) Has.nil) ?_
            refine T.ret (Post.ngR ?_)
            have hM : plan_Why_m a0 a1 a2 a3 = (xb12c2_0, nb11c2_0) := by subst er34; subst er31; rw [plan_Why_m, if_neg c19, hTc1, LR.seq_go, if_f c28, LR.seq_go, LR.seq_go, hTc2, LR.seq_go]
            exact fin2L (v := .slice Ab12c2_0 xb12c2_0.length pb12c2_0) (v' := .int .i64 nb11c2_0) [cb12c2_0] rfl rfl rfl (List.Sublist.refl _) ⟨.slice Ab12c2_0 xb12c2_0.length pb12c2_0, cb12c2_0, by first | rw [hM] | rfl, rfl, by rw [hM]; exact wb12c2_0⟩
          · refine R.ld Tryd.isAgg33 rfl rfl (.tl .hd) rfl ?_
            refine TL.nil (Plan.e1 (HLe.refl _) ?_)
            refine Plan.s1 0 [2, 3] (by kernel_rfl) (by kernel_rfl) rfl ?_
            refine R.ld Tryd.isAgg60 rfl rfl .hd rfl ?_
            refine TL.nil (Plan.e1 (HLe.refl _) ?_)
            refine Plan.v 2 [3] (by kernel_rfl) (by kernel_rfl) (by kernel_rfl) (by kernel_rfl) rfl (fun _ _ h_ => R.asE rfl (by conv => lhs; whnf) (TL.nil h_)) ?_
            refine Plan.v 3 [] (by kernel_rfl) (by kernel_rfl) (by kernel_rfl) (by kernel_rfl) rfl (fun _ _ h_ => R.asE rfl (by conv => lhs; whnf) (TL.nil h_)) ?_
            refine Plan.done (Post.thnN ?_)
            refine T.has (Has.cons (.tl (.tl .hd)) Has.nil) ?_
            refine T.ret (Post.ngR ?_)
            have hM : plan_Why_m a0 a1 a2 a3 = (xb12c2_0, nb11c2_0) := by subst er34; subst er31; rw [plan_Why_m, if_neg c19, hTc1, LR.seq_go, if_f c28, LR.seq_go, LR.seq_go, hTc2, LR.seq_go]
            exact fin2L (v := .slice Ab12c2_0 xb12c2_0.length pb12c2_0) (v' := .int .i64 nb11c2_0) [cb12c2_0] rfl rfl rfl (List.Sublist.refl _) ⟨.slice Ab12c2_0 xb12c2_0.length pb12c2_0, cb12c2_0, by first | rw [hM] | rfl, rfl, by rw [hM]; exact wb12c2_0⟩

end Go.SX

set_option linter.unusedVariables false
set_option linter.unusedSimpArgs false
namespace Go.SX
open Go
theorem cf_int_l1 (f : Int → Bool) : ∀ (l : List Int) (k : Nat), (∃ j : Nat, slices_IndexFunc_int_l1 f l k () = .ret (j : Int) ∧ l.any f = true) ∨ (slices_IndexFunc_int_l1 f l k () = .go () ∧ l.any f = false)
  | [], k => .inr ⟨rfl, rfl⟩
  | y :: ys, k => by
    rw [slices_IndexFunc_int_l1, List.any_cons]
    cases h : f y with
    | true => exact .inl ⟨k, by rw [if_pos rfl], rfl⟩
    | false => rw [if_neg Bool.false_ne_true, Bool.false_or]; exact cf_int_l1 f ys (k + 1)
theorem cf_int (l : List Int) (f : Int → Bool) : slices_ContainsFunc_int_m l f = l.any f := by
  unfold slices_ContainsFunc_int_m slices_IndexFunc_int_m
  rcases cf_int_l1 f l 0 with ⟨j, e, h⟩ | ⟨e, h⟩
  · rw [e, LR.on_ret, h]; exact decide_eq_true (by omega)
  · rw [e, LR.on_go, h]; rfl
theorem cf_mention_l1 (f : (Int × Int) → Bool) : ∀ (l : List ((Int × Int))) (k : Nat), (∃ j : Nat, slices_IndexFunc_mention_l1 f l k () = .ret (j : Int) ∧ l.any f = true) ∨ (slices_IndexFunc_mention_l1 f l k () = .go () ∧ l.any f = false)
  | [], k => .inr ⟨rfl, rfl⟩
  | y :: ys, k => by
    rw [slices_IndexFunc_mention_l1, List.any_cons]
    cases h : f y with
    | true => exact .inl ⟨k, by rw [if_pos rfl], rfl⟩
    | false => rw [if_neg Bool.false_ne_true, Bool.false_or]; exact cf_mention_l1 f ys (k + 1)
theorem cf_mention (l : List ((Int × Int))) (f : (Int × Int) → Bool) : slices_ContainsFunc_mention_m l f = l.any f := by
  unfold slices_ContainsFunc_mention_m slices_IndexFunc_mention_m
  rcases cf_mention_l1 f l 0 with ⟨j, e, h⟩ | ⟨e, h⟩
  · rw [e, LR.on_ret, h]; exact decide_eq_true (by omega)
  · rw [e, LR.on_go, h]; rfl
def deadB (D : List Dh) (k : Int) : Bool := decide (k ∈ D.map Prod.fst)
def saysB (l : List Rl) (D : List Dh) (h : Hd) (p : Int) : Bool := (mentL l h).any (fun m => deadB D m.1 && decide (m.2 = p))
def refB (l : List Rl) (D : List Dh) (h : Hd) : Bool := !deadB D h.1 && saysB l D h 2
def goneB (l : List Rl) (D : List Dh) (h : Hd) : Bool := !deadB D h.1 && (saysB l D h 2 || saysB l D h 0)
theorem of_r1 : ∀ (D : List Dh) (s : (List (Int × Bool)) × (List Int) × (List Hd) × (List Hd)), (plan_Of_r1 D s).2 = (s.2.1 ++ D.map Prod.fst, s.2.2.1, s.2.2.2) ∧ ∀ k, (mlk (plan_Of_r1 D s).1 k).getD false = (deadB D k || (mlk s.1 k).getD false)
  | [], s => ⟨by simp [plan_Of_r1], fun k => by simp [plan_Of_r1, deadB]⟩
  | d :: D, s => by
    obtain ⟨h1, h2⟩ := of_r1 D (mpu s.1 d.1 true, s.2.1 ++ [d.1], s.2.2.1, s.2.2.2)
    rw [plan_Of_r1]
    refine ⟨by rw [h1]; simp, fun k => ?_⟩
    rw [h2, mlk_mpu]
    unfold deadB
    rw [List.map_cons]
    by_cases e : k = d.1
    · rw [if_pos e]; simp [e]
    · rw [if_neg e, show decide (k ∈ d.1 :: D.map Prod.fst) = decide (k ∈ D.map Prod.fst) by rw [decide_eq_decide, List.mem_cons]; exact ⟨fun h => h.resolve_left e, .inr⟩]
theorem of_says (l : List Rl) (D : List Dh) (M : List (Int × Bool)) (hM : ∀ k, (mlk M k).getD false = deadB D k) (h : Hd) (p : Int) : plan_Of_2_m (mentL l h) M p = saysB l D h p := by
  unfold plan_Of_2_m saysB
  rw [LR.seq_go, cf_mention]
  refine congrArg (fun f => (mentL l h).any f) (funext fun m => ?_)
  unfold plan_Of_2_2_1_m
  rw [hM]
  cases deadB D m.1 <;> simp
theorem of_r2 (l : List Rl) (D : List Dh) (M : List (Int × Bool)) (hM : ∀ k, (mlk M k).getD false = deadB D k) : ∀ (xs : List Hd) (s : (List Int) × (List Hd) × (List Hd)), plan_Of_r2 M (xs.map (fun h => (h, mentL l h))) s = (s.1, s.2.1 ++ xs.filter (goneB l D), s.2.2 ++ xs.filter (refB l D))
  | [], s => by simp [plan_Of_r2]
  | h :: xs, s => by
    rw [List.map_cons, plan_Of_r2, hM]
    simp only [of_says l D M hM, LR.seq]
    have ih := of_r2 l D M hM xs
    rw [List.filter_cons, List.filter_cons]
    unfold goneB refB at *
    cases hd : deadB D h.1 with
    | true => rw [if_pos rfl, ih]; simp
    | false =>
      rw [if_neg Bool.false_ne_true]
      cases h2 : saysB l D h 2 with
      | true => simp [ih]
      | false =>
        cases h0 : saysB l D h 0 with
        | true => simp [ih]
        | false => simp [ih]
theorem pindex_iff (n : Int) : plan_index_m n = true ↔ 1 ≤ n ∧ n ≤ 1048578 := by
  unfold plan_index_m
  by_cases h : 1 ≤ n
  · rw [if_pos h, decide_eq_true_eq]; exact ⟨fun k => ⟨h, k⟩, fun k => k.2⟩
  · rw [if_neg h]; exact ⟨fun k => (by cases k), fun k => absurd k.1 h⟩
def idxOk (n : Int) : Prop := 1 ≤ n ∧ n ≤ 1048578
theorem of_first (first : List Int) : slices_ContainsFunc_int_m first (fun z0 => plan_Of_1_m z0) = false ↔ ∀ n ∈ first, idxOk n := by
  rw [cf_int, List.any_eq_false]
  constructor
  · intro h n hn
    have := h n hn
    unfold plan_Of_1_m at this
    exact (pindex_iff n).1 (by simpa using this)
  · intro h n hn
    unfold plan_Of_1_m
    simpa using (pindex_iff n).2 (h n hn)
/-- who dies -/
def diesD (l : List Rl) (held : List Hd) (first : List Int) : List Dh := plan_deaths_m (plan_killers_m l held) first
theorem of_eq {l : List Rl} {held : List Hd} {first : List Int} (hc : plan_Check_m l held = 0) (hi : ∀ n ∈ first, idxOk n) :
    plan_Of_m l held first = ((sortI ((diesD l held first).map Prod.fst), held.filter (goneB l (diesD l held first)), held.filter (refB l (diesD l held first))), 0) := by
  unfold plan_Of_m
  rw [hc, if_neg (fun k => k rfl), (of_first first).2 hi, if_neg Bool.false_ne_true]
  simp only [LR.seq]
  rw [show plan_deaths_m (plan_killers_m l held) first = diesD l held first from rfl]
  obtain ⟨h1, h2⟩ := of_r1 (diesD l held first) (([] : List (Int × Bool)), [], [], [])
  rw [ment_eq, of_r2 l (diesD l held first) _ (fun k => by rw [h2, mlk_nil]; simp), h1]
  rfl
theorem of_bad {l : List Rl} {held : List Hd} {first : List Int} (hc : plan_Check_m l held ≠ 0) : plan_Of_m l held first = (([], [], []), plan_Check_m l held) := by
  unfold plan_Of_m
  rw [if_pos hc]
theorem of_arg {l : List Rl} {held : List Hd} {first : List Int} (hc : plan_Check_m l held = 0) (hi : ¬ ∀ n ∈ first, idxOk n) : plan_Of_m l held first = (([], [], []), 2) := by
  unfold plan_Of_m
  rw [if_neg (fun k => k hc), if_pos]
  cases h : slices_ContainsFunc_int_m first (fun z0 => plan_Of_1_m z0) with
  | true => rfl
  | false => exact absurd ((of_first first).1 h) hi
theorem dies_law {l : List Rl} {held : List Hd} {first : List Int} (hh : held.length ≤ 100) (hf : first.length ≤ 100) : ∃ met, Dv first (plan_killers_m l held) met (diesD l held first) ∧ Bf first (plan_killers_m l held) (diesD l held first).length (diesD l held first) :=
  deaths_law first (plan_killers_m l held) (kill_by l held _ rfl hh) hf
theorem dies_len {l : List Rl} {held : List Hd} {first : List Int} (hh : held.length ≤ 100) (hf : first.length ≤ 100) : (diesD l held first).length ≤ first.length + held.length := by
  obtain ⟨met, h1, h2⟩ := dies_law (l := l) hh hf
  have := nodup_len (l2 := first ++ held.map Prod.fst) h1.nd (fun x hx => by
    rw [List.mem_append]
    rcases h1.s x hx with k | ⟨j, d, hd, rfl⟩
    · exact .inl k
    · rw [kill_eq] at hd
      exact .inr (List.mem_map_of_mem (List.mem_filter.1 hd).1))
  rwa [List.length_map, List.length_append, List.length_map] at this
theorem of_len (l : List Rl) (held : List Hd) (first : List Int) (r : ((List Int) × (List Hd) × (List Hd)) × Int) (e : r = plan_Of_m l held first) (hh : held.length ≤ 100) (hf : first.length ≤ 100) : r.1.1.length ≤ first.length + held.length ∧ r.1.2.1.length ≤ held.length ∧ r.1.2.2.length ≤ held.length := by
  subst e
  by_cases hc : plan_Check_m l held = 0
  · by_cases hi : ∀ n ∈ first, idxOk n
    · rw [of_eq hc hi]
      refine ⟨?_, List.length_filter_le _ _, List.length_filter_le _ _⟩
      show (sortI _).length ≤ _
      rw [(sortI_perm _).length_eq, List.length_map]
      exact dies_len hh hf
    · rw [of_arg hc hi]; simp
  · rw [of_bad hc]; simp
end Go.SX

set_option linter.unusedVariables false
set_option linter.unusedSimpArgs false
namespace Go.SX
open Go Go.Proofs

theorem small_len : windroselaw20_small_m.1.length = 3 ∧ windroselaw20_small_m.2.length = 4 := by
  unfold windroselaw20_small_m
  simp [LR.seq, windroselaw20_small_l1]
def windroselaw20_wakes_m  : Bool :=
  LR.seq (windroselaw20_small_m) (fun r12 => LR.seq (plan_Of_m r12.1 r12.2 [4]) (fun r19 => LR.seq (plan_Of_m r12.1 r12.2 [3]) (fun r26 => LR.seq (plan_Why_m r12.1 r12.2 4 6) (fun r32 => LR.seq (plan_Why_m r12.1 r12.2 4 7) (fun r38 => if r19.2 = 0 then (if r26.2 = 0 then (if r32.2 = 0 then (if r38.2 = 4 then (if r19.1.1 = [4, 5, 6] then (if r19.1.2.1 = (r12.2.drop 2) then (if r19.1.2.2 = (r12.2.drop 3) then (if r26.1.1 = [3, 8] then ((decide (r32.1 = (r12.2.take 2)))) else false) else false) else false) else false) else false) else false) else false) else false)))))
set_option maxHeartbeats 3200000 in
theorem windroselaw20_wakes_c (H : Heap) {tG1 : TypeId} (hG1 : H 1 = some (.cells #[.int .i64 1, .bool true, .bool true, .int .i64 0, .int .i64 1, .int .i64 2, .int .i64 2, .bool true, .bool false, .int .i64 0, .int .i64 0, .int .i64 2] tG1)) : Fv Tryd.prog (fnv 36) [] H (.bool windroselaw20_wakes_m) := by
  refine Fc.of_body (N := 87) Tryd.func36 rfl (by kernel_rfl) rfl rfl ?_
  intro w0
  refine T.seq ?_
  refine T.region ?_
  refine R.asE rfl (by conv => lhs; whnf) ?_
  refine TL.nil (Post.thnN ?_)
  refine T.seq ?_
  refine T.region ?_
  obtain ⟨r12, er12⟩ : ∃ r, r = windroselaw20_small_m := ⟨_, rfl⟩
  refine TL.call [] rfl rfl rfl (windroselaw20_small_c _ ) ?_
  intro v12 H12 L12 s12 q12
  rw [← er12] at q12
  obtain ⟨u12_0_0, u12_1_0, c12_0_0, c12_1_0, rfl, rfl, w12_0_0, w12_1_0⟩ := q12
  obtain ⟨A12_0_0, p12_0_0, rfl, m12_0_0, n12_0_0⟩ := OwnS.shape w12_0_0
  obtain ⟨A12_1_0, p12_1_0, rfl, m12_1_0, n12_1_0⟩ := OwnS.shape w12_1_0
  have tq12 : r12.1.length = 3 ∧ r12.2.length = 4 := by rw [er12]; exact small_len
  refine R.mvE rfl (by conv => lhs; whnf) ?_
  refine R.ext rfl rfl rfl ?_
  refine R.ext rfl rfl rfl ?_
  refine R.asE rfl (by conv => lhs; whnf) ?_
  refine R.asE rfl (by conv => lhs; whnf) ?_
  refine TL.nil (Post.thnN ?_)
  refine T.seq ?_
  refine T.region ?_
  refine R.mvE rfl (by conv => lhs; whnf) ?_
  refine R.mvE rfl (by conv => lhs; whnf) ?_
  refine R.bs rfl (run_buildSlice1 Tryd.underlying23 Tryd.sizeOf3 Tryd.zeroValue3 rfl rfl) ?_
  intro b18
  have w18 : OwnS (intE .i64) 3 H12 (.slice (some ⟨b18, 0, none⟩) 1 1) [4] [(b18, .cells #[.int .i64 4] 3)] := OwnS.lit (xs := [4]) (cellsOf_cons (a := [.int .i64 4]) rfl cellsOf_nil) (by show 1 ≤ maxLen; decide)
  refine TL.shut (.tl .hd) ?_
  intro HF12_0_0_1 sF12_0_0_1 qF12_0_0_1
  have fF12_0_0_1 := OwnS.read w12_0_0 sF12_0_0_1 qF12_0_0_1
  refine TL.shut (.tl .hd) ?_
  intro HF12_1_0_2 sF12_1_0_2 qF12_1_0_2
  have fF12_1_0_2 := OwnS.read (OwnS.mono w12_1_0 sF12_0_0_1) sF12_1_0_2 qF12_1_0_2
  refine TL.shut .hd ?_
  intro HF18_3 sF18_3 qF18_3
  have fF18_3 := OwnS.read (OwnS.mono w18 (sF12_0_0_1.trans sF12_1_0_2)) sF18_3 qF18_3
  obtain ⟨r19, er19⟩ : ∃ r, r = (plan_Of_m r12.1 r12.2 [4]) := ⟨_, rfl⟩
  refine TL.call [] rfl rfl rfl (plan_Of_c _ ((s12.trans (sF12_0_0_1.trans (sF12_1_0_2.trans sF18_3))) _ _ hG1) _ r12.1 (fF12_0_0_1.mono (sF12_1_0_2.trans sF18_3)) _ r12.2 (fF12_1_0_2.mono sF18_3) _ [4] fF18_3 (by first | omega | (simp; done) | (simp; omega) | (simp at *; omega)) (by first | omega | (simp; done) | (simp; omega) | (simp at *; omega)) (by first | omega | (simp; done) | (simp; omega) | (simp at *; omega))) ?_
  intro v19 H19 L19 s19 q19
  rw [← er19] at q19
  obtain ⟨u19_0_0, u19_0_1, u19_0_2, c19_0_0, c19_0_1, c19_0_2, rfl, rfl, w19_0_0, w19_0_1, w19_0_2⟩ := q19
  obtain ⟨A19_0_0, p19_0_0, rfl, m19_0_0, n19_0_0⟩ := OwnS.shape w19_0_0
  obtain ⟨A19_0_1, p19_0_1, rfl, m19_0_1, n19_0_1⟩ := OwnS.shape w19_0_1
  obtain ⟨A19_0_2, p19_0_2, rfl, m19_0_2, n19_0_2⟩ := OwnS.shape w19_0_2
  have to19 := of_len _ _ _ _ er19 (by first | omega | (simp; done) | (simp; omega) | (simp at *; omega)) (by first | omega | (simp; done) | (simp; omega) | (simp at *; omega))
  refine R.mvE rfl (by conv => lhs; whnf) ?_
  refine R.ext rfl rfl rfl ?_
  refine R.ext rfl rfl rfl ?_
  refine R.alloc Tryd.zeroValue81 rfl ?_
  intro b3
  refine R.stX (old := [.slice none 0 0, .slice none 0 0, .slice none 0 0]) (l := [.slice A19_0_0 r19.1.1.length p19_0_0, .slice A19_0_1 r19.1.2.1.length p19_0_1, .slice A19_0_2 r19.1.2.2.length p19_0_2]) (new := [.slice A19_0_0 r19.1.1.length p19_0_0, .slice A19_0_1 r19.1.2.1.length p19_0_1, .slice A19_0_2 r19.1.2.2.length p19_0_2]) (et := 81) Tryd.sizeOf81 rfl rfl rfl rfl rfl (by show 0 + 3 ≤ 3; decide) rfl (all_one rfl) .hd ?_
  refine R.asE rfl (by conv => lhs; whnf) ?_
  refine TL.shut (.tl .hd) ?_
  intro HF19_0_0_4 sF19_0_0_4 qF19_0_0_4
  have fF19_0_0_4 := OwnS.read w19_0_0 sF19_0_0_4 qF19_0_0_4
  refine TL.shut (.tl .hd) ?_
  intro HF19_0_1_5 sF19_0_1_5 qF19_0_1_5
  have fF19_0_1_5 := OwnS.read (OwnS.mono w19_0_1 sF19_0_0_4) sF19_0_1_5 qF19_0_1_5
  refine TL.shut (.tl .hd) ?_
  intro HF19_0_2_6 sF19_0_2_6 qF19_0_2_6
  have fF19_0_2_6 := OwnS.read (OwnS.mono w19_0_2 (sF19_0_0_4.trans sF19_0_1_5)) sF19_0_2_6 qF19_0_2_6
  refine TL.shut .hd ?_
  intro Hb3_7 sb3_7 qb3_7
  have hb3_7 : Hb3_7 b3 = some (.cells #[.slice A19_0_0 r19.1.1.length p19_0_0, .slice A19_0_1 r19.1.2.1.length p19_0_1, .slice A19_0_2 r19.1.2.2.length p19_0_2] 81) := shut1 qb3_7
  refine TL.nil (Post.thnN ?_)
  refine T.seq ?_
  refine T.region ?_
  refine R.mvE rfl (by conv => lhs; whnf) ?_
  refine R.mvE rfl (by conv => lhs; whnf) ?_
  refine R.bs rfl (run_buildSlice1 Tryd.underlying23 Tryd.sizeOf3 Tryd.zeroValue3 rfl rfl) ?_
  intro b25
  have w25 : OwnS (intE .i64) 3 Hb3_7 (.slice (some ⟨b25, 0, none⟩) 1 1) [3] [(b25, .cells #[.int .i64 3] 3)] := OwnS.lit (xs := [3]) (cellsOf_cons (a := [.int .i64 3]) rfl cellsOf_nil) (by show 1 ≤ maxLen; decide)
  refine TL.shut .hd ?_
  intro HF25_8 sF25_8 qF25_8
  have fF25_8 := OwnS.read w25 sF25_8 qF25_8
  obtain ⟨r26, er26⟩ : ∃ r, r = (plan_Of_m r12.1 r12.2 [3]) := ⟨_, rfl⟩
  refine TL.call [] rfl rfl rfl (plan_Of_c _ ((s12.trans (sF12_0_0_1.trans (sF12_1_0_2.trans (sF18_3.trans (s19.trans (sF19_0_0_4.trans (sF19_0_1_5.trans (sF19_0_2_6.trans (sb3_7.trans sF25_8))))))))) _ _ hG1) _ r12.1 (fF12_0_0_1.mono (sF12_1_0_2.trans (sF18_3.trans (s19.trans (sF19_0_0_4.trans (sF19_0_1_5.trans (sF19_0_2_6.trans (sb3_7.trans sF25_8)))))))) _ r12.2 (fF12_1_0_2.mono (sF18_3.trans (s19.trans (sF19_0_0_4.trans (sF19_0_1_5.trans (sF19_0_2_6.trans (sb3_7.trans sF25_8))))))) _ [3] fF25_8 (by first | omega | (simp; done) | (simp; omega) | (simp at *; omega)) (by first | omega | (simp; done) | (simp; omega) | (simp at *; omega)) (by first | omega | (simp; done) | (simp; omega) | (simp at *; omega))) ?_
  intro v26 H26 L26 s26 q26
  rw [← er26] at q26
  obtain ⟨u26_0_0, u26_0_1, u26_0_2, c26_0_0, c26_0_1, c26_0_2, rfl, rfl, w26_0_0, w26_0_1, w26_0_2⟩ := q26
  obtain ⟨A26_0_0, p26_0_0, rfl, m26_0_0, n26_0_0⟩ := OwnS.shape w26_0_0
  obtain ⟨A26_0_1, p26_0_1, rfl, m26_0_1, n26_0_1⟩ := OwnS.shape w26_0_1
  obtain ⟨A26_0_2, p26_0_2, rfl, m26_0_2, n26_0_2⟩ := OwnS.shape w26_0_2
  have to26 := of_len _ _ _ _ er26 (by first | omega | (simp; done) | (simp; omega) | (simp at *; omega)) (by first | omega | (simp; done) | (simp; omega) | (simp at *; omega))
  refine R.mvE rfl (by conv => lhs; whnf) ?_
  refine R.ext rfl rfl rfl ?_
  refine R.ext rfl rfl rfl ?_
  refine R.alloc Tryd.zeroValue81 rfl ?_
  intro b5
  refine R.stX (old := [.slice none 0 0, .slice none 0 0, .slice none 0 0]) (l := [.slice A26_0_0 r26.1.1.length p26_0_0, .slice A26_0_1 r26.1.2.1.length p26_0_1, .slice A26_0_2 r26.1.2.2.length p26_0_2]) (new := [.slice A26_0_0 r26.1.1.length p26_0_0, .slice A26_0_1 r26.1.2.1.length p26_0_1, .slice A26_0_2 r26.1.2.2.length p26_0_2]) (et := 81) Tryd.sizeOf81 rfl rfl rfl rfl rfl (by show 0 + 3 ≤ 3; decide) rfl (all_one rfl) .hd ?_
  refine R.asE rfl (by conv => lhs; whnf) ?_
  refine TL.shut (.tl .hd) ?_
  intro HF26_0_0_9 sF26_0_0_9 qF26_0_0_9
  have fF26_0_0_9 := OwnS.read w26_0_0 sF26_0_0_9 qF26_0_0_9
  refine TL.shut (.tl .hd) ?_
  intro HF26_0_1_10 sF26_0_1_10 qF26_0_1_10
  have fF26_0_1_10 := OwnS.read (OwnS.mono w26_0_1 sF26_0_0_9) sF26_0_1_10 qF26_0_1_10
  refine TL.shut (.tl .hd) ?_
  intro HF26_0_2_11 sF26_0_2_11 qF26_0_2_11
  have fF26_0_2_11 := OwnS.read (OwnS.mono w26_0_2 (sF26_0_0_9.trans sF26_0_1_10)) sF26_0_2_11 qF26_0_2_11
  refine TL.shut .hd ?_
  intro Hb5_12 sb5_12 qb5_12
  have hb5_12 : Hb5_12 b5 = some (.cells #[.slice A26_0_0 r26.1.1.length p26_0_0, .slice A26_0_1 r26.1.2.1.length p26_0_1, .slice A26_0_2 r26.1.2.2.length p26_0_2] 81) := shut1 qb5_12
  refine TL.nil (Post.thnN ?_)
  refine T.seq ?_
  refine T.region ?_
  refine R.mvE rfl (by conv => lhs; whnf) ?_
  refine R.mvE rfl (by conv => lhs; whnf) ?_
  obtain ⟨r32, er32⟩ : ∃ r, r = (plan_Why_m r12.1 r12.2 4 6) := ⟨_, rfl⟩
  refine TL.call [] rfl rfl rfl (plan_Why_c _ ((s12.trans (sF12_0_0_1.trans (sF12_1_0_2.trans (sF18_3.trans (s19.trans (sF19_0_0_4.trans (sF19_0_1_5.trans (sF19_0_2_6.trans (sb3_7.trans (sF25_8.trans (s26.trans (sF26_0_0_9.trans (sF26_0_1_10.trans (sF26_0_2_11.trans sb5_12)))))))))))))) _ _ hG1) _ r12.1 (fF12_0_0_1.mono (sF12_1_0_2.trans (sF18_3.trans (s19.trans (sF19_0_0_4.trans (sF19_0_1_5.trans (sF19_0_2_6.trans (sb3_7.trans (sF25_8.trans (s26.trans (sF26_0_0_9.trans (sF26_0_1_10.trans (sF26_0_2_11.trans sb5_12))))))))))))) _ r12.2 (fF12_1_0_2.mono (sF18_3.trans (s19.trans (sF19_0_0_4.trans (sF19_0_1_5.trans (sF19_0_2_6.trans (sb3_7.trans (sF25_8.trans (s26.trans (sF26_0_0_9.trans (sF26_0_1_10.trans (sF26_0_2_11.trans sb5_12)))))))))))) (4) (6) (by first | omega | (simp; done) | (simp; omega) | (simp at *; omega)) (by first | omega | (simp; done) | (simp; omega) | (simp at *; omega))) ?_
  intro v32 H32 L32 s32 q32
  rw [← er32] at q32
  obtain ⟨u32_0_0, c32_0_0, rfl, rfl, w32_0_0⟩ := q32
  obtain ⟨A32_0_0, p32_0_0, rfl, m32_0_0, n32_0_0⟩ := OwnS.shape w32_0_0
  refine R.mvE rfl (by conv => lhs; whnf) ?_
  refine R.ext rfl rfl rfl ?_
  refine R.ext rfl rfl rfl ?_
  refine R.asE rfl (by conv => lhs; whnf) ?_
  refine R.asE rfl (by conv => lhs; whnf) ?_
  refine TL.nil (Post.thnN ?_)
  refine T.seq ?_
  refine T.region ?_
  refine R.mvE rfl (by conv => lhs; whnf) ?_
  refine R.mvE rfl (by conv => lhs; whnf) ?_
  obtain ⟨r38, er38⟩ : ∃ r, r = (plan_Why_m r12.1 r12.2 4 7) := ⟨_, rfl⟩
  refine TL.call [] rfl rfl rfl (plan_Why_c _ ((s12.trans (sF12_0_0_1.trans (sF12_1_0_2.trans (sF18_3.trans (s19.trans (sF19_0_0_4.trans (sF19_0_1_5.trans (sF19_0_2_6.trans (sb3_7.trans (sF25_8.trans (s26.trans (sF26_0_0_9.trans (sF26_0_1_10.trans (sF26_0_2_11.trans (sb5_12.trans s32))))))))))))))) _ _ hG1) _ r12.1 (fF12_0_0_1.mono (sF12_1_0_2.trans (sF18_3.trans (s19.trans (sF19_0_0_4.trans (sF19_0_1_5.trans (sF19_0_2_6.trans (sb3_7.trans (sF25_8.trans (s26.trans (sF26_0_0_9.trans (sF26_0_1_10.trans (sF26_0_2_11.trans (sb5_12.trans s32)))))))))))))) _ r12.2 (fF12_1_0_2.mono (sF18_3.trans (s19.trans (sF19_0_0_4.trans (sF19_0_1_5.trans (sF19_0_2_6.trans (sb3_7.trans (sF25_8.trans (s26.trans (sF26_0_0_9.trans (sF26_0_1_10.trans (sF26_0_2_11.trans (sb5_12.trans s32))))))))))))) (4) (7) (by first | omega | (simp; done) | (simp; omega) | (simp at *; omega)) (by first | omega | (simp; done) | (simp; omega) | (simp at *; omega))) ?_
  intro v38 H38 L38 s38 q38
  rw [← er38] at q38
  obtain ⟨u38_0_0, c38_0_0, rfl, rfl, w38_0_0⟩ := q38
  obtain ⟨A38_0_0, p38_0_0, rfl, m38_0_0, n38_0_0⟩ := OwnS.shape w38_0_0
  refine R.mvE rfl (by conv => lhs; whnf) ?_
  refine R.ext rfl rfl rfl ?_
  refine R.ext rfl rfl rfl ?_
  refine R.asE rfl (by conv => lhs; whnf) ?_
  refine R.asE rfl (by conv => lhs; whnf) ?_
  refine TL.nil (Post.thnN ?_)
  refine T.seq ?_
  refine T.draw Tryd_mixed (by kernel_rfl) ?_
  refine Plan.v 0 [1, 2, 3, 4, 5, 6, 7, 8, 9, 10, 11, 12, 13, 14, 15, 16, 17, 18, 19, 20, 21, 22, 23, 24, 25, 26, 27, 28, 29, 30, 31, 32, 33, 34, 35, 36, 37, 38, 39, 40, 41, 42, 43, 44, 45, 46] (by kernel_rfl) (by kernel_rfl) (by kernel_rfl) (by kernel_rfl) rfl (fun _ _ h_ => R.mvE rfl (by conv => lhs; whnf) (TL.nil h_)) ?_
  refine Plan.v 1 [2, 3, 4, 5, 6, 7, 8, 9, 10, 11, 12, 13, 14, 15, 16, 17, 18, 19, 20, 21, 22, 23, 24, 25, 26, 27, 28, 29, 30, 31, 32, 33, 34, 35, 36, 37, 38, 39, 40, 41, 42, 43, 44, 45, 46] (by kernel_rfl) (by kernel_rfl) (by kernel_rfl) (by kernel_rfl) rfl (fun _ _ h_ => R.eql rfl rfl rfl (TL.nil h_)) ?_
  refine Plan.v 2 [3, 4, 5, 6, 7, 8, 9, 10, 11, 12, 13, 14, 15, 16, 17, 18, 19, 20, 21, 22, 23, 24, 25, 26, 27, 28, 29, 30, 31, 32, 33, 34, 35, 36, 37, 38, 39, 40, 41, 42, 43, 44, 45, 46] (by kernel_rfl) (by kernel_rfl) (by kernel_rfl) (by kernel_rfl) rfl (fun _ _ h_ => R.mvE rfl (by conv => lhs; whnf) (TL.nil h_)) ?_
  refine Plan.gsplitD 43 rfl (fun g43 => ?_) (fun g43 => ?_)
  · refine Plan.v 3 [4, 5, 6, 7, 8, 9, 10, 11, 12, 13, 14, 15, 16, 17, 18, 19, 20, 21, 22, 23, 24, 25, 26, 27, 28, 29, 30, 31, 32, 33, 34, 35, 36, 37, 38, 39, 40, 41, 42, 43, 44, 45, 46] (by kernel_rfl) (by kernel_rfl) (by kernel_rfl) (by kernel_rfl) rfl (fun _ _ h_ => R.mvE rfl (by conv => lhs; whnf) (TL.nil h_)) ?_
    refine Plan.v 4 [5, 6, 7, 8, 9, 10, 11, 12, 13, 14, 15, 16, 17, 18, 19, 20, 21, 22, 23, 24, 25, 26, 27, 28, 29, 30, 31, 32, 33, 34, 35, 36, 37, 38, 39, 40, 41, 42, 43, 44, 45, 46] (by kernel_rfl) (by kernel_rfl) (by kernel_rfl) (by kernel_rfl) rfl (fun _ _ h_ => R.eql rfl rfl rfl (TL.nil h_)) ?_
    refine Plan.v 5 [6, 7, 8, 9, 10, 11, 12, 13, 14, 15, 16, 17, 18, 19, 20, 21, 22, 23, 24, 25, 26, 27, 28, 29, 30, 31, 32, 33, 34, 35, 36, 37, 38, 39, 40, 41, 42, 43, 44, 45, 46] (by kernel_rfl) (by kernel_rfl) (by kernel_rfl) (by kernel_rfl) rfl (fun _ _ h_ => R.pkTE rfl rfl (by conv => lhs; whnf) (TL.nil h_)) ?_
    refine Plan.v 6 [7, 8, 9, 10, 11, 12, 13, 14, 15, 16, 17, 18, 19, 20, 21, 22, 23, 24, 25, 26, 27, 28, 29, 30, 31, 32, 33, 34, 35, 36, 37, 38, 39, 40, 41, 42, 43, 44, 45, 46] (by kernel_rfl) (by kernel_rfl) (by kernel_rfl) (by kernel_rfl) rfl (fun _ _ h_ => R.mvE rfl (by conv => lhs; whnf) (TL.nil h_)) ?_
    refine Plan.gsplitD 47 rfl (fun g47 => ?_) (fun g47 => ?_)
    · refine Plan.v 7 [8, 9, 10, 11, 12, 13, 14, 15, 16, 17, 18, 19, 20, 21, 22, 23, 24, 25, 26, 27, 28, 29, 30, 31, 32, 33, 34, 35, 36, 37, 38, 39, 40, 41, 42, 43, 44, 45, 46] (by kernel_rfl) (by kernel_rfl) (by kernel_rfl) (by kernel_rfl) rfl (fun _ _ h_ => R.mvE rfl (by conv => lhs; whnf) (TL.nil h_)) ?_
      refine Plan.v 8 [9, 10, 11, 12, 13, 14, 15, 16, 17, 18, 19, 20, 21, 22, 23, 24, 25, 26, 27, 28, 29, 30, 31, 32, 33, 34, 35, 36, 37, 38, 39, 40, 41, 42, 43, 44, 45, 46] (by kernel_rfl) (by kernel_rfl) (by kernel_rfl) (by kernel_rfl) rfl (fun _ _ h_ => R.eql rfl rfl rfl (TL.nil h_)) ?_
      refine Plan.v 9 [10, 11, 12, 13, 14, 15, 16, 17, 18, 19, 20, 21, 22, 23, 24, 25, 26, 27, 28, 29, 30, 31, 32, 33, 34, 35, 36, 37, 38, 39, 40, 41, 42, 43, 44, 45, 46] (by kernel_rfl) (by kernel_rfl) (by kernel_rfl) (by kernel_rfl) rfl (fun _ _ h_ => R.pkTE rfl rfl (by conv => lhs; whnf) (TL.nil h_)) ?_
      refine Plan.v 10 [11, 12, 13, 14, 15, 16, 17, 18, 19, 20, 21, 22, 23, 24, 25, 26, 27, 28, 29, 30, 31, 32, 33, 34, 35, 36, 37, 38, 39, 40, 41, 42, 43, 44, 45, 46] (by kernel_rfl) (by kernel_rfl) (by kernel_rfl) (by kernel_rfl) rfl (fun _ _ h_ => R.mvE rfl (by conv => lhs; whnf) (TL.nil h_)) ?_
      refine Plan.gsplitD 51 rfl (fun g51 => ?_) (fun g51 => ?_)
      · refine Plan.v 11 [12, 13, 14, 15, 16, 17, 18, 19, 20, 21, 22, 23, 24, 25, 26, 27, 28, 29, 30, 31, 32, 33, 34, 35, 36, 37, 38, 39, 40, 41, 42, 43, 44, 45, 46] (by kernel_rfl) (by kernel_rfl) (by kernel_rfl) (by kernel_rfl) rfl (fun _ _ h_ => R.mvE rfl (by conv => lhs; whnf) (TL.nil h_)) ?_
        refine Plan.v 12 [13, 14, 15, 16, 17, 18, 19, 20, 21, 22, 23, 24, 25, 26, 27, 28, 29, 30, 31, 32, 33, 34, 35, 36, 37, 38, 39, 40, 41, 42, 43, 44, 45, 46] (by kernel_rfl) (by kernel_rfl) (by kernel_rfl) (by kernel_rfl) rfl (fun _ _ h_ => R.eql rfl rfl rfl (TL.nil h_)) ?_
        refine Plan.v 13 [14, 15, 16, 17, 18, 19, 20, 21, 22, 23, 24, 25, 26, 27, 28, 29, 30, 31, 32, 33, 34, 35, 36, 37, 38, 39, 40, 41, 42, 43, 44, 45, 46] (by kernel_rfl) (by kernel_rfl) (by kernel_rfl) (by kernel_rfl) rfl (fun _ _ h_ => R.pkTE rfl rfl (by conv => lhs; whnf) (TL.nil h_)) ?_
        refine Plan.v 14 [15, 16, 17, 18, 19, 20, 21, 22, 23, 24, 25, 26, 27, 28, 29, 30, 31, 32, 33, 34, 35, 36, 37, 38, 39, 40, 41, 42, 43, 44, 45, 46] (by kernel_rfl) (by kernel_rfl) (by kernel_rfl) (by kernel_rfl) rfl (fun _ _ h_ => R.mvE rfl (by conv => lhs; whnf) (TL.nil h_)) ?_
        refine Plan.gsplitD 55 rfl (fun g55 => ?_) (fun g55 => ?_)
        · refine Plan.v 15 [16, 17, 18, 19, 20, 21, 22, 23, 24, 25, 26, 27, 28, 29, 30, 31, 32, 33, 34, 35, 36, 37, 38, 39, 40, 41, 42, 43, 44, 45, 46] (by kernel_rfl) (by kernel_rfl) (by kernel_rfl) (by kernel_rfl) rfl (fun _ _ h_ => R.fldA Tryd.underlying81 rfl Tryd.sizeOf23 (by decide) rfl rfl (TL.nil h_)) ?_
          refine Plan.v 16 [17, 18, 19, 20, 21, 22, 23, 24, 25, 26, 27, 28, 29, 30, 31, 32, 33, 34, 35, 36, 37, 38, 39, 40, 41, 42, 43, 44, 45, 46] (by kernel_rfl) (by kernel_rfl) (by kernel_rfl) (by kernel_rfl) rfl (fun _ _ h_ => R.ldH Tryd.isAgg23 rfl rfl ((sF25_8.trans (s26.trans (sF26_0_0_9.trans (sF26_0_1_10.trans (sF26_0_2_11.trans (sb5_12.trans (s32.trans s38))))))) _ _ hb3_7) rfl (TL.nil h_)) ?_
          refine Plan.s1 17 [18, 19, 20, 21, 22, 23, 24, 25, 26, 27, 28, 29, 30, 31, 32, 33, 34, 35, 36, 37, 38, 39, 40, 41, 42, 43, 44, 45, 46] (by kernel_rfl) (by kernel_rfl) rfl ?_
          refine R.bsN [.int .i64 4, .int .i64 5, .int .i64 6] rfl Tryd.underlying23 Tryd.sizeOf3 Tryd.zeroValue3 rfl rfl rfl rfl rfl rfl ?_
          intro b58
          have w58 : OwnS (intE .i64) 3 H38 (.slice (some ⟨b58, 0, none⟩) 3 3) [4, 5, 6] [(b58, .cells #[.int .i64 4, .int .i64 5, .int .i64 6] 3)] := OwnS.lit (xs := [4, 5, 6]) (cellsOf_cons (a := [.int .i64 4]) rfl (cellsOf_cons (a := [.int .i64 5]) rfl (cellsOf_cons (a := [.int .i64 6]) rfl cellsOf_nil))) (by show 3 ≤ maxLen; decide)
          refine TL.nil (Plan.e1 (HLe.refl _) ?_)
          refine Plan.s1 18 [19, 20, 21, 22, 23, 24, 25, 26, 27, 28, 29, 30, 31, 32, 33, 34, 35, 36, 37, 38, 39, 40, 41, 42, 43, 44, 45, 46] (by kernel_rfl) (by kernel_rfl) rfl ?_
          refine TL.shut .hd ?_
          intro HF58_14 sF58_14 qF58_14
          have fF58_14 := OwnS.read w58 sF58_14 qF58_14
          refine R.callv rfl rfl rfl (slices_Equal_int_d _ _ r19.1.1 (fF19_0_0_4.mono (sF19_0_1_5.trans (sF19_0_2_6.trans (sb3_7.trans (sF25_8.trans (s26.trans (sF26_0_0_9.trans (sF26_0_1_10.trans (sF26_0_2_11.trans (sb5_12.trans (s32.trans (s38.trans sF58_14)))))))))))) _ ([4, 5, 6]) fF58_14) ?_
          refine TL.nil (Plan.e1 (sF58_14) ?_)
          refine Plan.v 19 [20, 21, 22, 23, 24, 25, 26, 27, 28, 29, 30, 31, 32, 33, 34, 35, 36, 37, 38, 39, 40, 41, 42, 43, 44, 45, 46] (by kernel_rfl) (by kernel_rfl) (by kernel_rfl) (by kernel_rfl) rfl (fun _ _ h_ => R.pkTE rfl rfl (by conv => lhs; whnf) (TL.nil h_)) ?_
          refine Plan.v 20 [21, 22, 23, 24, 25, 26, 27, 28, 29, 30, 31, 32, 33, 34, 35, 36, 37, 38, 39, 40, 41, 42, 43, 44, 45, 46] (by kernel_rfl) (by kernel_rfl) (by kernel_rfl) (by kernel_rfl) rfl (fun _ _ h_ => R.mvE rfl (by conv => lhs; whnf) (TL.nil h_)) ?_
          refine Plan.gsplitD 61 rfl (fun g61 => ?_) (fun g61 => ?_)
          · refine Plan.v 21 [22, 23, 24, 25, 26, 27, 28, 29, 30, 31, 32, 33, 34, 35, 36, 37, 38, 39, 40, 41, 42, 43, 44, 45, 46] (by kernel_rfl) (by kernel_rfl) (by kernel_rfl) (by kernel_rfl) rfl (fun _ _ h_ => R.fldA Tryd.underlying81 rfl Tryd.sizeOf60 (by decide) rfl rfl (TL.nil h_)) ?_
            refine Plan.v 22 [23, 24, 25, 26, 27, 28, 29, 30, 31, 32, 33, 34, 35, 36, 37, 38, 39, 40, 41, 42, 43, 44, 45, 46] (by kernel_rfl) (by kernel_rfl) (by kernel_rfl) (by kernel_rfl) rfl (fun _ _ h_ => R.ldH Tryd.isAgg60 rfl rfl ((sF25_8.trans (s26.trans (sF26_0_0_9.trans (sF26_0_1_10.trans (sF26_0_2_11.trans (sb5_12.trans (s32.trans (s38.trans sF58_14)))))))) _ _ hb3_7) rfl (TL.nil h_)) ?_
            refine Plan.v 23 [24, 25, 26, 27, 28, 29, 30, 31, 32, 33, 34, 35, 36, 37, 38, 39, 40, 41, 42, 43, 44, 45, 46] (by kernel_rfl) (by kernel_rfl) (by kernel_rfl) (by kernel_rfl) rfl (fun _ _ h_ => R.mvE rfl (by conv => lhs; whnf) (TL.nil h_)) ?_
            have z65 := RdS.drop (fF12_1_0_2.mono (sF18_3.trans (s19.trans (sF19_0_0_4.trans (sF19_0_1_5.trans (sF19_0_2_6.trans (sb3_7.trans (sF25_8.trans (s26.trans (sF26_0_0_9.trans (sF26_0_1_10.trans (sF26_0_2_11.trans (sb5_12.trans (s32.trans (s38.trans sF58_14))))))))))))))) (i := 2) (by omega) (by omega)
            obtain ⟨x65, e65⟩ : ∃ x, x = (r12.2.drop 2) := ⟨_, rfl⟩
            rw [← e65] at z65
            obtain ⟨A65, p65, q65, m65, n65, r65⟩ := RdS.shape z65
            have t65 : x65.length ≤ r12.2.length := by rw [e65]; simp; try omega
            refine Plan.v 24 [25, 26, 27, 28, 29, 30, 31, 32, 33, 34, 35, 36, 37, 38, 39, 40, 41, 42, 43, 44, 45, 46] (by kernel_rfl) (by kernel_rfl) (by kernel_rfl) (by kernel_rfl) rfl (fun _ _ h_ => R.sL Tryd.underlying60 Tryd.sizeOf73 rfl rfl rfl (by omega) (by omega)  (TL.nil h_)) ?_
            refine Plan.set 65 (.slice A65 x65.length p65) (by first | exact q65 | (rw [← q65]; simp; done) | (rw [← q65]; rfl)) ?_
            refine Plan.v 25 [26, 27, 28, 29, 30, 31, 32, 33, 34, 35, 36, 37, 38, 39, 40, 41, 42, 43, 44, 45, 46] (by kernel_rfl) (by kernel_rfl) (by kernel_rfl) (by kernel_rfl) rfl (fun _ _ h_ => R.callv rfl rfl rfl (slices_Equal_Held_d _ _ r19.1.2.1 (fF19_0_1_5.mono (sF19_0_2_6.trans (sb3_7.trans (sF25_8.trans (s26.trans (sF26_0_0_9.trans (sF26_0_1_10.trans (sF26_0_2_11.trans (sb5_12.trans (s32.trans (s38.trans sF58_14))))))))))) _ x65 r65) (TL.nil h_)) ?_
            refine Plan.v 26 [27, 28, 29, 30, 31, 32, 33, 34, 35, 36, 37, 38, 39, 40, 41, 42, 43, 44, 45, 46] (by kernel_rfl) (by kernel_rfl) (by kernel_rfl) (by kernel_rfl) rfl (fun _ _ h_ => R.pkTE rfl rfl (by conv => lhs; whnf) (TL.nil h_)) ?_
            refine Plan.v 27 [28, 29, 30, 31, 32, 33, 34, 35, 36, 37, 38, 39, 40, 41, 42, 43, 44, 45, 46] (by kernel_rfl) (by kernel_rfl) (by kernel_rfl) (by kernel_rfl) rfl (fun _ _ h_ => R.mvE rfl (by conv => lhs; whnf) (TL.nil h_)) ?_
            refine Plan.gsplitD 68 rfl (fun g68 => ?_) (fun g68 => ?_)
            · refine Plan.v 28 [29, 30, 31, 32, 33, 34, 35, 36, 37, 38, 39, 40, 41, 42, 43, 44, 45, 46] (by kernel_rfl) (by kernel_rfl) (by kernel_rfl) (by kernel_rfl) rfl (fun _ _ h_ => R.fldA Tryd.underlying81 rfl Tryd.sizeOf60 (by decide) rfl rfl (TL.nil h_)) ?_
              refine Plan.v 29 [30, 31, 32, 33, 34, 35, 36, 37, 38, 39, 40, 41, 42, 43, 44, 45, 46] (by kernel_rfl) (by kernel_rfl) (by kernel_rfl) (by kernel_rfl) rfl (fun _ _ h_ => R.ldH Tryd.isAgg60 rfl rfl ((sF25_8.trans (s26.trans (sF26_0_0_9.trans (sF26_0_1_10.trans (sF26_0_2_11.trans (sb5_12.trans (s32.trans (s38.trans sF58_14)))))))) _ _ hb3_7) rfl (TL.nil h_)) ?_
              refine Plan.v 30 [31, 32, 33, 34, 35, 36, 37, 38, 39, 40, 41, 42, 43, 44, 45, 46] (by kernel_rfl) (by kernel_rfl) (by kernel_rfl) (by kernel_rfl) rfl (fun _ _ h_ => R.mvE rfl (by conv => lhs; whnf) (TL.nil h_)) ?_
              have z72 := RdS.drop (fF12_1_0_2.mono (sF18_3.trans (s19.trans (sF19_0_0_4.trans (sF19_0_1_5.trans (sF19_0_2_6.trans (sb3_7.trans (sF25_8.trans (s26.trans (sF26_0_0_9.trans (sF26_0_1_10.trans (sF26_0_2_11.trans (sb5_12.trans (s32.trans (s38.trans sF58_14))))))))))))))) (i := 3) (by omega) (by omega)
              obtain ⟨x72, e72⟩ : ∃ x, x = (r12.2.drop 3) := ⟨_, rfl⟩
              rw [← e72] at z72
              obtain ⟨A72, p72, q72, m72, n72, r72⟩ := RdS.shape z72
              have t72 : x72.length ≤ r12.2.length := by rw [e72]; simp; try omega
              refine Plan.v 31 [32, 33, 34, 35, 36, 37, 38, 39, 40, 41, 42, 43, 44, 45, 46] (by kernel_rfl) (by kernel_rfl) (by kernel_rfl) (by kernel_rfl) rfl (fun _ _ h_ => R.sL Tryd.underlying60 Tryd.sizeOf73 rfl rfl rfl (by omega) (by omega)  (TL.nil h_)) ?_
              refine Plan.set 72 (.slice A72 x72.length p72) (by first | exact q72 | (rw [← q72]; simp; done) | (rw [← q72]; rfl)) ?_
              refine Plan.v 32 [33, 34, 35, 36, 37, 38, 39, 40, 41, 42, 43, 44, 45, 46] (by kernel_rfl) (by kernel_rfl) (by kernel_rfl) (by kernel_rfl) rfl (fun _ _ h_ => R.callv rfl rfl rfl (slices_Equal_Held_d _ _ r19.1.2.2 (fF19_0_2_6.mono (sb3_7.trans (sF25_8.trans (s26.trans (sF26_0_0_9.trans (sF26_0_1_10.trans (sF26_0_2_11.trans (sb5_12.trans (s32.trans (s38.trans sF58_14)))))))))) _ x72 r72) (TL.nil h_)) ?_
              refine Plan.v 33 [34, 35, 36, 37, 38, 39, 40, 41, 42, 43, 44, 45, 46] (by kernel_rfl) (by kernel_rfl) (by kernel_rfl) (by kernel_rfl) rfl (fun _ _ h_ => R.pkTE rfl rfl (by conv => lhs; whnf) (TL.nil h_)) ?_
              refine Plan.v 34 [35, 36, 37, 38, 39, 40, 41, 42, 43, 44, 45, 46] (by kernel_rfl) (by kernel_rfl) (by kernel_rfl) (by kernel_rfl) rfl (fun _ _ h_ => R.mvE rfl (by conv => lhs; whnf) (TL.nil h_)) ?_
              refine Plan.gsplitD 75 rfl (fun g75 => ?_) (fun g75 => ?_)
              · refine Plan.v 35 [36, 37, 38, 39, 40, 41, 42, 43, 44, 45, 46] (by kernel_rfl) (by kernel_rfl) (by kernel_rfl) (by kernel_rfl) rfl (fun _ _ h_ => R.fldA Tryd.underlying81 rfl Tryd.sizeOf23 (by decide) rfl rfl (TL.nil h_)) ?_
                refine Plan.v 36 [37, 38, 39, 40, 41, 42, 43, 44, 45, 46] (by kernel_rfl) (by kernel_rfl) (by kernel_rfl) (by kernel_rfl) rfl (fun _ _ h_ => R.ldH Tryd.isAgg23 rfl rfl ((s32.trans (s38.trans sF58_14)) _ _ hb5_12) rfl (TL.nil h_)) ?_
                refine Plan.s1 37 [38, 39, 40, 41, 42, 43, 44, 45, 46] (by kernel_rfl) (by kernel_rfl) rfl ?_
                refine R.bsN [.int .i64 3, .int .i64 8] rfl Tryd.underlying23 Tryd.sizeOf3 Tryd.zeroValue3 rfl rfl rfl rfl rfl rfl ?_
                intro b78
                have w78 : OwnS (intE .i64) 3 HF58_14 (.slice (some ⟨b78, 0, none⟩) 2 2) [3, 8] [(b78, .cells #[.int .i64 3, .int .i64 8] 3)] := OwnS.lit (xs := [3, 8]) (cellsOf_cons (a := [.int .i64 3]) rfl (cellsOf_cons (a := [.int .i64 8]) rfl cellsOf_nil)) (by show 2 ≤ maxLen; decide)
                refine TL.nil (Plan.e1 (HLe.refl _) ?_)
                refine Plan.s1 38 [39, 40, 41, 42, 43, 44, 45, 46] (by kernel_rfl) (by kernel_rfl) rfl ?_
                refine TL.shut .hd ?_
                intro HF78_16 sF78_16 qF78_16
                have fF78_16 := OwnS.read w78 sF78_16 qF78_16
                refine R.callv rfl rfl rfl (slices_Equal_int_d _ _ r26.1.1 (fF26_0_0_9.mono (sF26_0_1_10.trans (sF26_0_2_11.trans (sb5_12.trans (s32.trans (s38.trans (sF58_14.trans sF78_16))))))) _ ([3, 8]) fF78_16) ?_
                refine TL.nil (Plan.e1 (sF78_16) ?_)
                refine Plan.v 39 [40, 41, 42, 43, 44, 45, 46] (by kernel_rfl) (by kernel_rfl) (by kernel_rfl) (by kernel_rfl) rfl (fun _ _ h_ => R.pkTE rfl rfl (by conv => lhs; whnf) (TL.nil h_)) ?_
                refine Plan.v 40 [41, 42, 43, 44, 45, 46] (by kernel_rfl) (by kernel_rfl) (by kernel_rfl) (by kernel_rfl) rfl (fun _ _ h_ => R.mvE rfl (by conv => lhs; whnf) (TL.nil h_)) ?_
                refine Plan.gsplitD 81 rfl (fun g81 => ?_) (fun g81 => ?_)
                · refine Plan.v 41 [42, 43, 44, 45, 46] (by kernel_rfl) (by kernel_rfl) (by kernel_rfl) (by kernel_rfl) rfl (fun _ _ h_ => R.mvE rfl (by conv => lhs; whnf) (TL.nil h_)) ?_
                  refine Plan.v 42 [43, 44, 45, 46] (by kernel_rfl) (by kernel_rfl) (by kernel_rfl) (by kernel_rfl) rfl (fun _ _ h_ => R.mvE rfl (by conv => lhs; whnf) (TL.nil h_)) ?_
                  have z84 := RdS.takeC (fF12_1_0_2.mono (sF18_3.trans (s19.trans (sF19_0_0_4.trans (sF19_0_1_5.trans (sF19_0_2_6.trans (sb3_7.trans (sF25_8.trans (s26.trans (sF26_0_0_9.trans (sF26_0_1_10.trans (sF26_0_2_11.trans (sb5_12.trans (s32.trans (s38.trans (sF58_14.trans sF78_16)))))))))))))))) (i := 2) (by omega) (by omega)
                  obtain ⟨x84, e84⟩ : ∃ x, x = (r12.2.take 2) := ⟨_, rfl⟩
                  rw [← e84] at z84
                  obtain ⟨A84, p84, q84, m84, n84, r84⟩ := RdS.shape z84
                  have t84 : x84.length ≤ r12.2.length := by rw [e84]; simp; try omega
                  have t84_ : x84.length = min 2 r12.2.length := by rw [e84]; simp
                  refine Plan.v 43 [44, 45, 46] (by kernel_rfl) (by kernel_rfl) (by kernel_rfl) (by kernel_rfl) rfl (fun _ _ h_ => R.sH Tryd.underlying60 Tryd.sizeOf73 rfl rfl rfl (by omega) (by omega)  (TL.nil h_)) ?_
                  refine Plan.set 84 (.slice A84 x84.length p84) (by first | exact q84 | (rw [← q84]; simp; done) | (rw [← q84]; rfl)) ?_
                  refine Plan.s1 44 [45, 46] (by kernel_rfl) (by kernel_rfl) rfl ?_
                  refine TL.shut (.tl .hd) ?_
                  intro HF32_0_0_18 sF32_0_0_18 qF32_0_0_18
                  have fF32_0_0_18 := OwnS.read (OwnS.mono w32_0_0 (s38.trans (sF58_14.trans sF78_16))) sF32_0_0_18 qF32_0_0_18
                  refine R.callv rfl rfl rfl (slices_Equal_Held_d _ _ r32.1 fF32_0_0_18 _ x84 (r84.mono sF32_0_0_18)) ?_
                  refine TL.nil (Plan.e1 (sF32_0_0_18) ?_)
                  refine Plan.v 45 [46] (by kernel_rfl) (by kernel_rfl) (by kernel_rfl) (by kernel_rfl) rfl (fun _ _ h_ => R.pkTE rfl rfl (by conv => lhs; whnf) (TL.nil h_)) ?_
                  refine Plan.v 46 [] (by kernel_rfl) (by kernel_rfl) (by kernel_rfl) (by kernel_rfl) rfl (fun _ _ h_ => R.asE rfl (by conv => lhs; whnf) (TL.nil h_)) ?_
                  refine Plan.done (Post.thnN ?_)
                  refine T.has Has.nil ?_
                  refine T.ret ?_
                  have hM : windroselaw20_wakes_m = (decide (r32.1 = x84)) := by subst e84; subst e72; subst e65; subst er38; subst er32; subst er26; subst er19; subst er12; rw [windroselaw20_wakes_m, LR.seq_go, LR.seq_go, LR.seq_go, LR.seq_go, LR.seq_go, if_pos g43, if_pos g47, if_pos g51, if_pos g55, if_pos g61, if_pos g68, if_pos g75, if_pos g81]
                  exact fin1L (v := .bool (decide (r32.1 = x84))) [] rfl rfl (List.Sublist.refl _) ⟨rfl, by first | rw [hM] | rfl⟩
                · refine Plan.v 41 [42, 43, 44, 45, 46] (by kernel_rfl) (by kernel_rfl) (by kernel_rfl) (by kernel_rfl) rfl (fun _ _ h_ => TL.off rfl rfl rfl (TL.nil h_)) ?_
                  refine Plan.v 42 [43, 44, 45, 46] (by kernel_rfl) (by kernel_rfl) (by kernel_rfl) (by kernel_rfl) rfl (fun _ _ h_ => TL.off rfl rfl rfl (TL.nil h_)) ?_
                  refine Plan.v 43 [44, 45, 46] (by kernel_rfl) (by kernel_rfl) (by kernel_rfl) (by kernel_rfl) rfl (fun _ _ h_ => TL.off rfl rfl rfl (TL.nil h_)) ?_
                  refine Plan.v 44 [45, 46] (by kernel_rfl) (by kernel_rfl) (by kernel_rfl) (by kernel_rfl) rfl (fun _ _ h_ => TL.off rfl rfl rfl (TL.nil h_)) ?_
                  refine Plan.v 45 [46] (by kernel_rfl) (by kernel_rfl) (by kernel_rfl) (by kernel_rfl) rfl (fun _ _ h_ => R.pkFE rfl rfl (by conv => lhs; whnf) (TL.nil h_)) ?_
                  refine Plan.v 46 [] (by kernel_rfl) (by kernel_rfl) (by kernel_rfl) (by kernel_rfl) rfl (fun _ _ h_ => R.asE rfl (by conv => lhs; whnf) (TL.nil h_)) ?_
                  refine Plan.done (Post.thnN ?_)
                  refine T.has Has.nil ?_
                  refine T.ret ?_
                  have hM : windroselaw20_wakes_m = false := by subst e72; subst e65; subst er38; subst er32; subst er26; subst er19; subst er12; rw [windroselaw20_wakes_m, LR.seq_go, LR.seq_go, LR.seq_go, LR.seq_go, LR.seq_go, if_pos g43, if_pos g47, if_pos g51, if_pos g55, if_pos g61, if_pos g68, if_pos g75, if_neg g81]
                  exact fin1L (v := .bool false) [] rfl rfl (List.Sublist.refl _) ⟨rfl, by first | rw [hM] | rfl⟩
              · refine Plan.v 35 [36, 37, 38, 39, 40, 41, 42, 43, 44, 45, 46] (by kernel_rfl) (by kernel_rfl) (by kernel_rfl) (by kernel_rfl) rfl (fun _ _ h_ => TL.off rfl rfl rfl (TL.nil h_)) ?_
                refine Plan.v 36 [37, 38, 39, 40, 41, 42, 43, 44, 45, 46] (by kernel_rfl) (by kernel_rfl) (by kernel_rfl) (by kernel_rfl) rfl (fun _ _ h_ => TL.off rfl rfl rfl (TL.nil h_)) ?_
                refine Plan.v 37 [38, 39, 40, 41, 42, 43, 44, 45, 46] (by kernel_rfl) (by kernel_rfl) (by kernel_rfl) (by kernel_rfl) rfl (fun _ _ h_ => TL.off rfl rfl rfl (TL.nil h_)) ?_
                refine Plan.v 38 [39, 40, 41, 42, 43, 44, 45, 46] (by kernel_rfl) (by kernel_rfl) (by kernel_rfl) (by kernel_rfl) rfl (fun _ _ h_ => TL.off rfl rfl rfl (TL.nil h_)) ?_
                refine Plan.v 39 [40, 41, 42, 43, 44, 45, 46] (by kernel_rfl) (by kernel_rfl) (by kernel_rfl) (by kernel_rfl) rfl (fun _ _ h_ => R.pkFE rfl rfl (by conv => lhs; whnf) (TL.nil h_)) ?_
                refine Plan.v 40 [41, 42, 43, 44, 45, 46] (by kernel_rfl) (by kernel_rfl) (by kernel_rfl) (by kernel_rfl) rfl (fun _ _ h_ => R.mvE rfl (by conv => lhs; whnf) (TL.nil h_)) ?_
                refine Plan.v 41 [42, 43, 44, 45, 46] (by kernel_rfl) (by kernel_rfl) (by kernel_rfl) (by kernel_rfl) rfl (fun _ _ h_ => TL.off rfl rfl rfl (TL.nil h_)) ?_
                refine Plan.v 42 [43, 44, 45, 46] (by kernel_rfl) (by kernel_rfl) (by kernel_rfl) (by kernel_rfl) rfl (fun _ _ h_ => TL.off rfl rfl rfl (TL.nil h_)) ?_
                refine Plan.v 43 [44, 45, 46] (by kernel_rfl) (by kernel_rfl) (by kernel_rfl) (by kernel_rfl) rfl (fun _ _ h_ => TL.off rfl rfl rfl (TL.nil h_)) ?_
                refine Plan.v 44 [45, 46] (by kernel_rfl) (by kernel_rfl) (by kernel_rfl) (by kernel_rfl) rfl (fun _ _ h_ => TL.off rfl rfl rfl (TL.nil h_)) ?_
                refine Plan.v 45 [46] (by kernel_rfl) (by kernel_rfl) (by kernel_rfl) (by kernel_rfl) rfl (fun _ _ h_ => R.pkFE rfl rfl (by conv => lhs; whnf) (TL.nil h_)) ?_
                refine Plan.v 46 [] (by kernel_rfl) (by kernel_rfl) (by kernel_rfl) (by kernel_rfl) rfl (fun _ _ h_ => R.asE rfl (by conv => lhs; whnf) (TL.nil h_)) ?_
                refine Plan.done (Post.thnN ?_)
                refine T.has Has.nil ?_
                refine T.ret ?_
                have hM : windroselaw20_wakes_m = false := by subst e72; subst e65; subst er38; subst er32; subst er26; subst er19; subst er12; rw [windroselaw20_wakes_m, LR.seq_go, LR.seq_go, LR.seq_go, LR.seq_go, LR.seq_go, if_pos g43, if_pos g47, if_pos g51, if_pos g55, if_pos g61, if_pos g68, if_neg g75]
                exact fin1L (v := .bool false) [] rfl rfl (List.Sublist.refl _) ⟨rfl, by first | rw [hM] | rfl⟩
            · refine Plan.v 28 [29, 30, 31, 32, 33, 34, 35, 36, 37, 38, 39, 40, 41, 42, 43, 44, 45, 46] (by kernel_rfl) (by kernel_rfl) (by kernel_rfl) (by kernel_rfl) rfl (fun _ _ h_ => TL.off rfl rfl rfl (TL.nil h_)) ?_
              refine Plan.v 29 [30, 31, 32, 33, 34, 35, 36, 37, 38, 39, 40, 41, 42, 43, 44, 45, 46] (by kernel_rfl) (by kernel_rfl) (by kernel_rfl) (by kernel_rfl) rfl (fun _ _ h_ => TL.off rfl rfl rfl (TL.nil h_)) ?_
              refine Plan.v 30 [31, 32, 33, 34, 35, 36, 37, 38, 39, 40, 41, 42, 43, 44, 45, 46] (by kernel_rfl) (by kernel_rfl) (by kernel_rfl) (by kernel_rfl) rfl (fun _ _ h_ => TL.off rfl rfl rfl (TL.nil h_)) ?_
              refine Plan.v 31 [32, 33, 34, 35, 36, 37, 38, 39, 40, 41, 42, 43, 44, 45, 46] (by kernel_rfl) (by kernel_rfl) (by kernel_rfl) (by kernel_rfl) rfl (fun _ _ h_ => TL.off rfl rfl rfl (TL.nil h_)) ?_
              refine Plan.v 32 [33, 34, 35, 36, 37, 38, 39, 40, 41, 42, 43, 44, 45, 46] (by kernel_rfl) (by kernel_rfl) (by kernel_rfl) (by kernel_rfl) rfl (fun _ _ h_ => TL.off rfl rfl rfl (TL.nil h_)) ?_
              refine Plan.v 33 [34, 35, 36, 37, 38, 39, 40, 41, 42, 43, 44, 45, 46] (by kernel_rfl) (by kernel_rfl) (by kernel_rfl) (by kernel_rfl) rfl (fun _ _ h_ => R.pkFE rfl rfl (by conv => lhs; whnf) (TL.nil h_)) ?_
              refine Plan.v 34 [35, 36, 37, 38, 39, 40, 41, 42, 43, 44, 45, 46] (by kernel_rfl) (by kernel_rfl) (by kernel_rfl) (by kernel_rfl) rfl (fun _ _ h_ => R.mvE rfl (by conv => lhs; whnf) (TL.nil h_)) ?_
              refine Plan.v 35 [36, 37, 38, 39, 40, 41, 42, 43, 44, 45, 46] (by kernel_rfl) (by kernel_rfl) (by kernel_rfl) (by kernel_rfl) rfl (fun _ _ h_ => TL.off rfl rfl rfl (TL.nil h_)) ?_
              refine Plan.v 36 [37, 38, 39, 40, 41, 42, 43, 44, 45, 46] (by kernel_rfl) (by kernel_rfl) (by kernel_rfl) (by kernel_rfl) rfl (fun _ _ h_ => TL.off rfl rfl rfl (TL.nil h_)) ?_
              refine Plan.v 37 [38, 39, 40, 41, 42, 43, 44, 45, 46] (by kernel_rfl) (by kernel_rfl) (by kernel_rfl) (by kernel_rfl) rfl (fun _ _ h_ => TL.off rfl rfl rfl (TL.nil h_)) ?_
              refine Plan.v 38 [39, 40, 41, 42, 43, 44, 45, 46] (by kernel_rfl) (by kernel_rfl) (by kernel_rfl) (by kernel_rfl) rfl (fun _ _ h_ => TL.off rfl rfl rfl (TL.nil h_)) ?_
              refine Plan.v 39 [40, 41, 42, 43, 44, 45, 46] (by kernel_rfl) (by kernel_rfl) (by kernel_rfl) (by kernel_rfl) rfl (fun _ _ h_ => R.pkFE rfl rfl (by conv => lhs; whnf) (TL.nil h_)) ?_
              refine Plan.v 40 [41, 42, 43, 44, 45, 46] (by kernel_rfl) (by kernel_rfl) (by kernel_rfl) (by kernel_rfl) rfl (fun _ _ h_ => R.mvE rfl (by conv => lhs; whnf) (TL.nil h_)) ?_
              refine Plan.v 41 [42, 43, 44, 45, 46] (by kernel_rfl) (by kernel_rfl) (by kernel_rfl) (by kernel_rfl) rfl (fun _ _ h_ => TL.off rfl rfl rfl (TL.nil h_)) ?_
              refine Plan.v 42 [43, 44, 45, 46] (by kernel_rfl) (by kernel_rfl) (by kernel_rfl) (by kernel_rfl) rfl (fun _ _ h_ => TL.off rfl rfl rfl (TL.nil h_)) ?_
              refine Plan.v 43 [44, 45, 46] (by kernel_rfl) (by kernel_rfl) (by kernel_rfl) (by kernel_rfl) rfl (fun _ _ h_ => TL.off rfl rfl rfl (TL.nil h_)) ?_
              refine Plan.v 44 [45, 46] (by kernel_rfl) (by kernel_rfl) (by kernel_rfl) (by kernel_rfl) rfl (fun _ _ h_ => TL.off rfl rfl rfl (TL.nil h_)) ?_
              refine Plan.v 45 [46] (by kernel_rfl) (by kernel_rfl) (by kernel_rfl) (by kernel_rfl) rfl (fun _ _ h_ => R.pkFE rfl rfl (by conv => lhs; whnf) (TL.nil h_)) ?_
              refine Plan.v 46 [] (by kernel_rfl) (by kernel_rfl) (by kernel_rfl) (by kernel_rfl) rfl (fun _ _ h_ => R.asE rfl (by conv => lhs; whnf) (TL.nil h_)) ?_
              refine Plan.done (Post.thnN ?_)
              refine T.has Has.nil ?_
              refine T.ret ?_
              have hM : windroselaw20_wakes_m = false := by subst e65; subst er38; subst er32; subst er26; subst er19; subst er12; rw [windroselaw20_wakes_m, LR.seq_go, LR.seq_go, LR.seq_go, LR.seq_go, LR.seq_go, if_pos g43, if_pos g47, if_pos g51, if_pos g55, if_pos g61, if_neg g68]
              exact fin1L (v := .bool false) [] rfl rfl (List.Sublist.refl _) ⟨rfl, by first | rw [hM] | rfl⟩
          · refine Plan.v 21 [22, 23, 24, 25, 26, 27, 28, 29, 30, 31, 32, 33, 34, 35, 36, 37, 38, 39, 40, 41, 42, 43, 44, 45, 46] (by kernel_rfl) (by kernel_rfl) (by kernel_rfl) (by kernel_rfl) rfl (fun _ _ h_ => TL.off rfl rfl rfl (TL.nil h_)) ?_
            refine Plan.v 22 [23, 24, 25, 26, 27, 28, 29, 30, 31, 32, 33, 34, 35, 36, 37, 38, 39, 40, 41, 42, 43, 44, 45, 46] (by kernel_rfl) (by kernel_rfl) (by kernel_rfl) (by kernel_rfl) rfl (fun _ _ h_ => TL.off rfl rfl rfl (TL.nil h_)) ?_
            refine Plan.v 23 [24, 25, 26, 27, 28, 29, 30, 31, 32, 33, 34, 35, 36, 37, 38, 39, 40, 41, 42, 43, 44, 45, 46] (by kernel_rfl) (by kernel_rfl) (by kernel_rfl) (by kernel_rfl) rfl (fun _ _ h_ => TL.off rfl rfl rfl (TL.nil h_)) ?_
            refine Plan.v 24 [25, 26, 27, 28, 29, 30, 31, 32, 33, 34, 35, 36, 37, 38, 39, 40, 41, 42, 43, 44, 45, 46] (by kernel_rfl) (by kernel_rfl) (by kernel_rfl) (by kernel_rfl) rfl (fun _ _ h_ => TL.off rfl rfl rfl (TL.nil h_)) ?_
            refine Plan.v 25 [26, 27, 28, 29, 30, 31, 32, 33, 34, 35, 36, 37, 38, 39, 40, 41, 42, 43, 44, 45, 46] (by kernel_rfl) (by kernel_rfl) (by kernel_rfl) (by kernel_rfl) rfl (fun _ _ h_ => TL.off rfl rfl rfl (TL.nil h_)) ?_
            refine Plan.v 26 [27, 28, 29, 30, 31, 32, 33, 34, 35, 36, 37, 38, 39, 40, 41, 42, 43, 44, 45, 46] (by kernel_rfl) (by kernel_rfl) (by kernel_rfl) (by kernel_rfl) rfl (fun _ _ h_ => R.pkFE rfl rfl (by conv => lhs; whnf) (TL.nil h_)) ?_
            refine Plan.v 27 [28, 29, 30, 31, 32, 33, 34, 35, 36, 37, 38, 39, 40, 41, 42, 43, 44, 45, 46] (by kernel_rfl) (by kernel_rfl) (by kernel_rfl) (by kernel_rfl) rfl (fun _ _ h_ => R.mvE rfl (by conv => lhs; whnf) (TL.nil h_)) ?_
            refine Plan.v 28 [29, 30, 31, 32, 33, 34, 35, 36, 37, 38, 39, 40, 41, 42, 43, 44, 45, 46] (by kernel_rfl) (by kernel_rfl) (by kernel_rfl) (by kernel_rfl) rfl (fun _ _ h_ => TL.off rfl rfl rfl (TL.nil h_)) ?_
            refine Plan.v 29 [30, 31, 32, 33, 34, 35, 36, 37, 38, 39, 40, 41, 42, 43, 44, 45, 46] (by kernel_rfl) (by kernel_rfl) (by kernel_rfl) (by kernel_rfl) rfl (fun _ _ h_ => TL.off rfl rfl rfl (TL.nil h_)) ?_
            refine Plan.v 30 [31, 32, 33, 34, 35, 36, 37, 38, 39, 40, 41, 42, 43, 44, 45, 46] (by kernel_rfl) (by kernel_rfl) (by kernel_rfl) (by kernel_rfl) rfl (fun _ _ h_ => TL.off rfl rfl rfl (TL.nil h_)) ?_
            refine Plan.v 31 [32, 33, 34, 35, 36, 37, 38, 39, 40, 41, 42, 43, 44, 45, 46] (by kernel_rfl) (by kernel_rfl) (by kernel_rfl) (by kernel_rfl) rfl (fun _ _ h_ => TL.off rfl rfl rfl (TL.nil h_)) ?_
            refine Plan.v 32 [33, 34, 35, 36, 37, 38, 39, 40, 41, 42, 43, 44, 45, 46] (by kernel_rfl) (by kernel_rfl) (by kernel_rfl) (by kernel_rfl) rfl (fun _ _ h_ => TL.off rfl rfl rfl (TL.nil h_)) ?_
            refine Plan.v 33 [34, 35, 36, 37, 38, 39, 40, 41, 42, 43, 44, 45, 46] (by kernel_rfl) (by kernel_rfl) (by kernel_rfl) (by kernel_rfl) rfl (fun _ _ h_ => R.pkFE rfl rfl (by conv => lhs; whnf) (TL.nil h_)) ?_
            refine Plan.v 34 [35, 36, 37, 38, 39, 40, 41, 42, 43, 44, 45, 46] (by kernel_rfl) (by kernel_rfl) (by kernel_rfl) (by kernel_rfl) rfl (fun _ _ h_ => R.mvE rfl (by conv => lhs; whnf) (TL.nil h_)) ?_
            refine Plan.v 35 [36, 37, 38, 39, 40, 41, 42, 43, 44, 45, 46] (by kernel_rfl) (by kernel_rfl) (by kernel_rfl) (by kernel_rfl) rfl (fun _ _ h_ => TL.off rfl rfl rfl (TL.nil h_)) ?_
            refine Plan.v 36 [37, 38, 39, 40, 41, 42, 43, 44, 45, 46] (by kernel_rfl) (by kernel_rfl) (by kernel_rfl) (by kernel_rfl) rfl (fun _ _ h_ => TL.off rfl rfl rfl (TL.nil h_)) ?_
            refine Plan.v 37 [38, 39, 40, 41, 42, 43, 44, 45, 46] (by kernel_rfl) (by kernel_rfl) (by kernel_rfl) (by kernel_rfl) rfl (fun _ _ h_ => TL.off rfl rfl rfl (TL.nil h_)) ?_
            refine Plan.v 38 [39, 40, 41, 42, 43, 44, 45, 46] (by kernel_rfl) (by kernel_rfl) (by kernel_rfl) (by kernel_rfl) rfl (fun _ _ h_ => TL.off rfl rfl rfl (TL.nil h_)) ?_
            refine Plan.v 39 [40, 41, 42, 43, 44, 45, 46] (by kernel_rfl) (by kernel_rfl) (by kernel_rfl) (by kernel_rfl) rfl (fun _ _ h_ => R.pkFE rfl rfl (by conv => lhs; whnf) (TL.nil h_)) ?_
            refine Plan.v 40 [41, 42, 43, 44, 45, 46] (by kernel_rfl) (by kernel_rfl) (by kernel_rfl) (by kernel_rfl) rfl (fun _ _ h_ => R.mvE rfl (by conv => lhs; whnf) (TL.nil h_)) ?_
            refine Plan.v 41 [42, 43, 44, 45, 46] (by kernel_rfl) (by kernel_rfl) (by kernel_rfl) (by kernel_rfl) rfl (fun _ _ h_ => TL.off rfl rfl rfl (TL.nil h_)) ?_
            refine Plan.v 42 [43, 44, 45, 46] (by kernel_rfl) (by kernel_rfl) (by kernel_rfl) (by kernel_rfl) rfl (fun _ _ h_ => TL.off rfl rfl rfl (TL.nil h_)) ?_
            refine Plan.v 43 [44, 45, 46] (by kernel_rfl) (by kernel_rfl) (by kernel_rfl) (by kernel_rfl) rfl (fun _ _ h_ => TL.off rfl rfl rfl (TL.nil h_)) ?_
            refine Plan.v 44 [45, 46] (by kernel_rfl) (by kernel_rfl) (by kernel_rfl) (by kernel_rfl) rfl (fun _ _ h_ => TL.off rfl rfl rfl (TL.nil h_)) ?_
            refine Plan.v 45 [46] (by kernel_rfl) (by kernel_rfl) (by kernel_rfl) (by kernel_rfl) rfl (fun _ _ h_ => R.pkFE rfl rfl (by conv => lhs; whnf) (TL.nil h_)) ?_
            refine Plan.v 46 [] (by kernel_rfl) (by kernel_rfl) (by kernel_rfl) (by kernel_rfl) rfl (fun _ _ h_ => R.asE rfl (by conv => lhs; whnf) (TL.nil h_)) ?_
            refine Plan.done (Post.thnN ?_)
            refine T.has Has.nil ?_
            refine T.ret ?_
            have hM : windroselaw20_wakes_m = false := by subst er38; subst er32; subst er26; subst er19; subst er12; rw [windroselaw20_wakes_m, LR.seq_go, LR.seq_go, LR.seq_go, LR.seq_go, LR.seq_go, if_pos g43, if_pos g47, if_pos g51, if_pos g55, if_neg g61]
            exact fin1L (v := .bool false) [] rfl rfl (List.Sublist.refl _) ⟨rfl, by first | rw [hM] | rfl⟩
        · refine Plan.v 15 [16, 17, 18, 19, 20, 21, 22, 23, 24, 25, 26, 27, 28, 29, 30, 31, 32, 33, 34, 35, 36, 37, 38, 39, 40, 41, 42, 43, 44, 45, 46] (by kernel_rfl) (by kernel_rfl) (by kernel_rfl) (by kernel_rfl) rfl (fun _ _ h_ => TL.off rfl rfl rfl (TL.nil h_)) ?_
          refine Plan.v 16 [17, 18, 19, 20, 21, 22, 23, 24, 25, 26, 27, 28, 29, 30, 31, 32, 33, 34, 35, 36, 37, 38, 39, 40, 41, 42, 43, 44, 45, 46] (by kernel_rfl) (by kernel_rfl) (by kernel_rfl) (by kernel_rfl) rfl (fun _ _ h_ => TL.off rfl rfl rfl (TL.nil h_)) ?_
          refine Plan.v 17 [18, 19, 20, 21, 22, 23, 24, 25, 26, 27, 28, 29, 30, 31, 32, 33, 34, 35, 36, 37, 38, 39, 40, 41, 42, 43, 44, 45, 46] (by kernel_rfl) (by kernel_rfl) (by kernel_rfl) (by kernel_rfl) rfl (fun _ _ h_ => TL.off rfl rfl rfl (TL.nil h_)) ?_
          refine Plan.v 18 [19, 20, 21, 22, 23, 24, 25, 26, 27, 28, 29, 30, 31, 32, 33, 34, 35, 36, 37, 38, 39, 40, 41, 42, 43, 44, 45, 46] (by kernel_rfl) (by kernel_rfl) (by kernel_rfl) (by kernel_rfl) rfl (fun _ _ h_ => TL.off rfl rfl rfl (TL.nil h_)) ?_
          refine Plan.v 19 [20, 21, 22, 23, 24, 25, 26, 27, 28, 29, 30, 31, 32, 33, 34, 35, 36, 37, 38, 39, 40, 41, 42, 43, 44, 45, 46] (by kernel_rfl) (by kernel_rfl) (by kernel_rfl) (by kernel_rfl) rfl (fun _ _ h_ => R.pkFE rfl rfl (by conv => lhs; whnf) (TL.nil h_)) ?_
          refine Plan.v 20 [21, 22, 23, 24, 25, 26, 27, 28, 29, 30, 31, 32, 33, 34, 35, 36, 37, 38, 39, 40, 41, 42, 43, 44, 45, 46] (by kernel_rfl) (by kernel_rfl) (by kernel_rfl) (by kernel_rfl) rfl (fun _ _ h_ => R.mvE rfl (by conv => lhs; whnf) (TL.nil h_)) ?_
          refine Plan.v 21 [22, 23, 24, 25, 26, 27, 28, 29, 30, 31, 32, 33, 34, 35, 36, 37, 38, 39, 40, 41, 42, 43, 44, 45, 46] (by kernel_rfl) (by kernel_rfl) (by kernel_rfl) (by kernel_rfl) rfl (fun _ _ h_ => TL.off rfl rfl rfl (TL.nil h_)) ?_
          refine Plan.v 22 [23, 24, 25, 26, 27, 28, 29, 30, 31, 32, 33, 34, 35, 36, 37, 38, 39, 40, 41, 42, 43, 44, 45, 46] (by kernel_rfl) (by kernel_rfl) (by kernel_rfl) (by kernel_rfl) rfl (fun _ _ h_ => TL.off rfl rfl rfl (TL.nil h_)) ?_
          refine Plan.v 23 [24, 25, 26, 27, 28, 29, 30, 31, 32, 33, 34, 35, 36, 37, 38, 39, 40, 41, 42, 43, 44, 45, 46] (by kernel_rfl) (by kernel_rfl) (by kernel_rfl) (by kernel_rfl) rfl (fun _ _ h_ => TL.off rfl rfl rfl (TL.nil h_)) ?_
          refine Plan.v 24 [25, 26, 27, 28, 29, 30, 31, 32, 33, 34, 35, 36, 37, 38, 39, 40, 41, 42, 43, 44, 45, 46] (by kernel_rfl) (by kernel_rfl) (by kernel_rfl) (by kernel_rfl) rfl (fun _ _ h_ => TL.off rfl rfl rfl (TL.nil h_)) ?_
          refine Plan.v 25 [26, 27, 28, 29, 30, 31, 32, 33, 34, 35, 36, 37, 38, 39, 40, 41, 42, 43, 44, 45, 46] (by kernel_rfl) (by kernel_rfl) (by kernel_rfl) (by kernel_rfl) rfl (fun _ _ h_ => TL.off rfl rfl rfl (TL.nil h_)) ?_
          refine Plan.v 26 [27, 28, 29, 30, 31, 32, 33, 34, 35, 36, 37, 38, 39, 40, 41, 42, 43, 44, 45, 46] (by kernel_rfl) (by kernel_rfl) (by kernel_rfl) (by kernel_rfl) rfl (fun _ _ h_ => R.pkFE rfl rfl (by conv => lhs; whnf) (TL.nil h_)) ?_
          refine Plan.v 27 [28, 29, 30, 31, 32, 33, 34, 35, 36, 37, 38, 39, 40, 41, 42, 43, 44, 45, 46] (by kernel_rfl) (by kernel_rfl) (by kernel_rfl) (by kernel_rfl) rfl (fun _ _ h_ => R.mvE rfl (by conv => lhs; whnf) (TL.nil h_)) ?_
          refine Plan.v 28 [29, 30, 31, 32, 33, 34, 35, 36, 37, 38, 39, 40, 41, 42, 43, 44, 45, 46] (by kernel_rfl) (by kernel_rfl) (by kernel_rfl) (by kernel_rfl) rfl (fun _ _ h_ => TL.off rfl rfl rfl (TL.nil h_)) ?_
          refine Plan.v 29 [30, 31, 32, 33, 34, 35, 36, 37, 38, 39, 40, 41, 42, 43, 44, 45, 46] (by kernel_rfl) (by kernel_rfl) (by kernel_rfl) (by kernel_rfl) rfl (fun _ _ h_ => TL.off rfl rfl rfl (TL.nil h_)) ?_
          refine Plan.v 30 [31, 32, 33, 34, 35, 36, 37, 38, 39, 40, 41, 42, 43, 44, 45, 46] (by kernel_rfl) (by kernel_rfl) (by kernel_rfl) (by kernel_rfl) rfl (fun _ _ h_ => TL.off rfl rfl rfl (TL.nil h_)) ?_
          refine Plan.v 31 [32, 33, 34, 35, 36, 37, 38, 39, 40, 41, 42, 43, 44, 45, 46] (by kernel_rfl) (by kernel_rfl) (by kernel_rfl) (by kernel_rfl) rfl (fun _ _ h_ => TL.off rfl rfl rfl (TL.nil h_)) ?_
          refine Plan.v 32 [33, 34, 35, 36, 37, 38, 39, 40, 41, 42, 43, 44, 45, 46] (by kernel_rfl) (by kernel_rfl) (by kernel_rfl) (by kernel_rfl) rfl (fun _ _ h_ => TL.off rfl rfl rfl (TL.nil h_)) ?_
          refine Plan.v 33 [34, 35, 36, 37, 38, 39, 40, 41, 42, 43, 44, 45, 46] (by kernel_rfl) (by kernel_rfl) (by kernel_rfl) (by kernel_rfl) rfl (fun _ _ h_ => R.pkFE rfl rfl (by conv => lhs; whnf) (TL.nil h_)) ?_
          refine Plan.v 34 [35, 36, 37, 38, 39, 40, 41, 42, 43, 44, 45, 46] (by kernel_rfl) (by kernel_rfl) (by kernel_rfl) (by kernel_rfl) rfl (fun _ _ h_ => R.mvE rfl (by conv => lhs; whnf) (TL.nil h_)) ?_
          refine Plan.v 35 [36, 37, 38, 39, 40, 41, 42, 43, 44, 45, 46] (by kernel_rfl) (by kernel_rfl) (by kernel_rfl) (by kernel_rfl) rfl (fun _ _ h_ => TL.off rfl rfl rfl (TL.nil h_)) ?_
          refine Plan.v 36 [37, 38, 39, 40, 41, 42, 43, 44, 45, 46] (by kernel_rfl) (by kernel_rfl) (by kernel_rfl) (by kernel_rfl) rfl (fun _ _ h_ => TL.off rfl rfl rfl (TL.nil h_)) ?_
          refine Plan.v 37 [38, 39, 40, 41, 42, 43, 44, 45, 46] (by kernel_rfl) (by kernel_rfl) (by kernel_rfl) (by kernel_rfl) rfl (fun _ _ h_ => TL.off rfl rfl rfl (TL.nil h_)) ?_
          refine Plan.v 38 [39, 40, 41, 42, 43, 44, 45, 46] (by kernel_rfl) (by kernel_rfl) (by kernel_rfl) (by kernel_rfl) rfl (fun _ _ h_ => TL.off rfl rfl rfl (TL.nil h_)) ?_
          refine Plan.v 39 [40, 41, 42, 43, 44, 45, 46] (by kernel_rfl) (by kernel_rfl) (by kernel_rfl) (by kernel_rfl) rfl (fun _ _ h_ => R.pkFE rfl rfl (by conv => lhs; whnf) (TL.nil h_)) ?_
          refine Plan.v 40 [41, 42, 43, 44, 45, 46] (by kernel_rfl) (by kernel_rfl) (by kernel_rfl) (by kernel_rfl) rfl (fun _ _ h_ => R.mvE rfl (by conv => lhs; whnf) (TL.nil h_)) ?_
          refine Plan.v 41 [42, 43, 44, 45, 46] (by kernel_rfl) (by kernel_rfl) (by kernel_rfl) (by kernel_rfl) rfl (fun _ _ h_ => TL.off rfl rfl rfl (TL.nil h_)) ?_
          refine Plan.v 42 [43, 44, 45, 46] (by kernel_rfl) (by kernel_rfl) (by kernel_rfl) (by kernel_rfl) rfl (fun _ _ h_ => TL.off rfl rfl rfl (TL.nil h_)) ?_
          refine Plan.v 43 [44, 45, 46] (by kernel_rfl) (by kernel_rfl) (by kernel_rfl) (by kernel_rfl) rfl (fun _ _ h_ => TL.off rfl rfl rfl (TL.nil h_)) ?_
          refine Plan.v 44 [45, 46] (by kernel_rfl) (by kernel_rfl) (by kernel_rfl) (by kernel_rfl) rfl (fun _ _ h_ => TL.off rfl rfl rfl (TL.nil h_)) ?_
          refine Plan.v 45 [46] (by kernel_rfl) (by kernel_rfl) (by kernel_rfl) (by kernel_rfl) rfl (fun _ _ h_ => R.pkFE rfl rfl (by conv => lhs; whnf) (TL.nil h_)) ?_
          refine Plan.v 46 [] (by kernel_rfl) (by kernel_rfl) (by kernel_rfl) (by kernel_rfl) rfl (fun _ _ h_ => R.asE rfl (by conv => lhs; whnf) (TL.nil h_)) ?_
          refine Plan.done (Post.thnN ?_)
          refine T.has Has.nil ?_
          refine T.ret ?_
          have hM : windroselaw20_wakes_m = false := by subst er38; subst er32; subst er26; subst er19; subst er12; rw [windroselaw20_wakes_m, LR.seq_go, LR.seq_go, LR.seq_go, LR.seq_go, LR.seq_go, if_pos g43, if_pos g47, if_pos g51, if_neg g55]
          exact fin1L (v := .bool false) [] rfl rfl (List.Sublist.refl _) ⟨rfl, by first | rw [hM] | rfl⟩
      · refine Plan.v 11 [12, 13, 14, 15, 16, 17, 18, 19, 20, 21, 22, 23, 24, 25, 26, 27, 28, 29, 30, 31, 32, 33, 34, 35, 36, 37, 38, 39, 40, 41, 42, 43, 44, 45, 46] (by kernel_rfl) (by kernel_rfl) (by kernel_rfl) (by kernel_rfl) rfl (fun _ _ h_ => TL.off rfl rfl rfl (TL.nil h_)) ?_
        refine Plan.v 12 [13, 14, 15, 16, 17, 18, 19, 20, 21, 22, 23, 24, 25, 26, 27, 28, 29, 30, 31, 32, 33, 34, 35, 36, 37, 38, 39, 40, 41, 42, 43, 44, 45, 46] (by kernel_rfl) (by kernel_rfl) (by kernel_rfl) (by kernel_rfl) rfl (fun _ _ h_ => TL.off rfl rfl rfl (TL.nil h_)) ?_
        refine Plan.v 13 [14, 15, 16, 17, 18, 19, 20, 21, 22, 23, 24, 25, 26, 27, 28, 29, 30, 31, 32, 33, 34, 35, 36, 37, 38, 39, 40, 41, 42, 43, 44, 45, 46] (by kernel_rfl) (by kernel_rfl) (by kernel_rfl) (by kernel_rfl) rfl (fun _ _ h_ => R.pkFE rfl rfl (by conv => lhs; whnf) (TL.nil h_)) ?_
        refine Plan.v 14 [15, 16, 17, 18, 19, 20, 21, 22, 23, 24, 25, 26, 27, 28, 29, 30, 31, 32, 33, 34, 35, 36, 37, 38, 39, 40, 41, 42, 43, 44, 45, 46] (by kernel_rfl) (by kernel_rfl) (by kernel_rfl) (by kernel_rfl) rfl (fun _ _ h_ => R.mvE rfl (by conv => lhs; whnf) (TL.nil h_)) ?_
        refine Plan.v 15 [16, 17, 18, 19, 20, 21, 22, 23, 24, 25, 26, 27, 28, 29, 30, 31, 32, 33, 34, 35, 36, 37, 38, 39, 40, 41, 42, 43, 44, 45, 46] (by kernel_rfl) (by kernel_rfl) (by kernel_rfl) (by kernel_rfl) rfl (fun _ _ h_ => TL.off rfl rfl rfl (TL.nil h_)) ?_
        refine Plan.v 16 [17, 18, 19, 20, 21, 22, 23, 24, 25, 26, 27, 28, 29, 30, 31, 32, 33, 34, 35, 36, 37, 38, 39, 40, 41, 42, 43, 44, 45, 46] (by kernel_rfl) (by kernel_rfl) (by kernel_rfl) (by kernel_rfl) rfl (fun _ _ h_ => TL.off rfl rfl rfl (TL.nil h_)) ?_
        refine Plan.v 17 [18, 19, 20, 21, 22, 23, 24, 25, 26, 27, 28, 29, 30, 31, 32, 33, 34, 35, 36, 37, 38, 39, 40, 41, 42, 43, 44, 45, 46] (by kernel_rfl) (by kernel_rfl) (by kernel_rfl) (by kernel_rfl) rfl (fun _ _ h_ => TL.off rfl rfl rfl (TL.nil h_)) ?_
        refine Plan.v 18 [19, 20, 21, 22, 23, 24, 25, 26, 27, 28, 29, 30, 31, 32, 33, 34, 35, 36, 37, 38, 39, 40, 41, 42, 43, 44, 45, 46] (by kernel_rfl) (by kernel_rfl) (by kernel_rfl) (by kernel_rfl) rfl (fun _ _ h_ => TL.off rfl rfl rfl (TL.nil h_)) ?_
        refine Plan.v 19 [20, 21, 22, 23, 24, 25, 26, 27, 28, 29, 30, 31, 32, 33, 34, 35, 36, 37, 38, 39, 40, 41, 42, 43, 44, 45, 46] (by kernel_rfl) (by kernel_rfl) (by kernel_rfl) (by kernel_rfl) rfl (fun _ _ h_ => R.pkFE rfl rfl (by conv => lhs; whnf) (TL.nil h_)) ?_
        refine Plan.v 20 [21, 22, 23, 24, 25, 26, 27, 28, 29, 30, 31, 32, 33, 34, 35, 36, 37, 38, 39, 40, 41, 42, 43, 44, 45, 46] (by kernel_rfl) (by kernel_rfl) (by kernel_rfl) (by kernel_rfl) rfl (fun _ _ h_ => R.mvE rfl (by conv => lhs; whnf) (TL.nil h_)) ?_
        refine Plan.v 21 [22, 23, 24, 25, 26, 27, 28, 29, 30, 31, 32, 33, 34, 35, 36, 37, 38, 39, 40, 41, 42, 43, 44, 45, 46] (by kernel_rfl) (by kernel_rfl) (by kernel_rfl) (by kernel_rfl) rfl (fun _ _ h_ => TL.off rfl rfl rfl (TL.nil h_)) ?_
        refine Plan.v 22 [23, 24, 25, 26, 27, 28, 29, 30, 31, 32, 33, 34, 35, 36, 37, 38, 39, 40, 41, 42, 43, 44, 45, 46] (by kernel_rfl) (by kernel_rfl) (by kernel_rfl) (by kernel_rfl) rfl (fun _ _ h_ => TL.off rfl rfl rfl (TL.nil h_)) ?_
        refine Plan.v 23 [24, 25, 26, 27, 28, 29, 30, 31, 32, 33, 34, 35, 36, 37, 38, 39, 40, 41, 42, 43, 44, 45, 46] (by kernel_rfl) (by kernel_rfl) (by kernel_rfl) (by kernel_rfl) rfl (fun _ _ h_ => TL.off rfl rfl rfl (TL.nil h_)) ?_
        refine Plan.v 24 [25, 26, 27, 28, 29, 30, 31, 32, 33, 34, 35, 36, 37, 38, 39, 40, 41, 42, 43, 44, 45, 46] (by kernel_rfl) (by kernel_rfl) (by kernel_rfl) (by kernel_rfl) rfl (fun _ _ h_ => TL.off rfl rfl rfl (TL.nil h_)) ?_
        refine Plan.v 25 [26, 27, 28, 29, 30, 31, 32, 33, 34, 35, 36, 37, 38, 39, 40, 41, 42, 43, 44, 45, 46] (by kernel_rfl) (by kernel_rfl) (by kernel_rfl) (by kernel_rfl) rfl (fun _ _ h_ => TL.off rfl rfl rfl (TL.nil h_)) ?_
        refine Plan.v 26 [27, 28, 29, 30, 31, 32, 33, 34, 35, 36, 37, 38, 39, 40, 41, 42, 43, 44, 45, 46] (by kernel_rfl) (by kernel_rfl) (by kernel_rfl) (by kernel_rfl) rfl (fun _ _ h_ => R.pkFE rfl rfl (by conv => lhs; whnf) (TL.nil h_)) ?_
        refine Plan.v 27 [28, 29, 30, 31, 32, 33, 34, 35, 36, 37, 38, 39, 40, 41, 42, 43, 44, 45, 46] (by kernel_rfl) (by kernel_rfl) (by kernel_rfl) (by kernel_rfl) rfl (fun _ _ h_ => R.mvE rfl (by conv => lhs; whnf) (TL.nil h_)) ?_
        refine Plan.v 28 [29, 30, 31, 32, 33, 34, 35, 36, 37, 38, 39, 40, 41, 42, 43, 44, 45, 46] (by kernel_rfl) (by kernel_rfl) (by kernel_rfl) (by kernel_rfl) rfl (fun _ _ h_ => TL.off rfl rfl rfl (TL.nil h_)) ?_
        refine Plan.v 29 [30, 31, 32, 33, 34, 35, 36, 37, 38, 39, 40, 41, 42, 43, 44, 45, 46] (by kernel_rfl) (by kernel_rfl) (by kernel_rfl) (by kernel_rfl) rfl (fun _ _ h_ => TL.off rfl rfl rfl (TL.nil h_)) ?_
        refine Plan.v 30 [31, 32, 33, 34, 35, 36, 37, 38, 39, 40, 41, 42, 43, 44, 45, 46] (by kernel_rfl) (by kernel_rfl) (by kernel_rfl) (by kernel_rfl) rfl (fun _ _ h_ => TL.off rfl rfl rfl (TL.nil h_)) ?_
        refine Plan.v 31 [32, 33, 34, 35, 36, 37, 38, 39, 40, 41, 42, 43, 44, 45, 46] (by kernel_rfl) (by kernel_rfl) (by kernel_rfl) (by kernel_rfl) rfl (fun _ _ h_ => TL.off rfl rfl rfl (TL.nil h_)) ?_
        refine Plan.v 32 [33, 34, 35, 36, 37, 38, 39, 40, 41, 42, 43, 44, 45, 46] (by kernel_rfl) (by kernel_rfl) (by kernel_rfl) (by kernel_rfl) rfl (fun _ _ h_ => TL.off rfl rfl rfl (TL.nil h_)) ?_
        refine Plan.v 33 [34, 35, 36, 37, 38, 39, 40, 41, 42, 43, 44, 45, 46] (by kernel_rfl) (by kernel_rfl) (by kernel_rfl) (by kernel_rfl) rfl (fun _ _ h_ => R.pkFE rfl rfl (by conv => lhs; whnf) (TL.nil h_)) ?_
        refine Plan.v 34 [35, 36, 37, 38, 39, 40, 41, 42, 43, 44, 45, 46] (by kernel_rfl) (by kernel_rfl) (by kernel_rfl) (by kernel_rfl) rfl (fun _ _ h_ => R.mvE rfl (by conv => lhs; whnf) (TL.nil h_)) ?_
        refine Plan.v 35 [36, 37, 38, 39, 40, 41, 42, 43, 44, 45, 46] (by kernel_rfl) (by kernel_rfl) (by kernel_rfl) (by kernel_rfl) rfl (fun _ _ h_ => TL.off rfl rfl rfl (TL.nil h_)) ?_
        refine Plan.v 36 [37, 38, 39, 40, 41, 42, 43, 44, 45, 46] (by kernel_rfl) (by kernel_rfl) (by kernel_rfl) (by kernel_rfl) rfl (fun _ _ h_ => TL.off rfl rfl rfl (TL.nil h_)) ?_
        refine Plan.v 37 [38, 39, 40, 41, 42, 43, 44, 45, 46] (by kernel_rfl) (by kernel_rfl) (by kernel_rfl) (by kernel_rfl) rfl (fun _ _ h_ => TL.off rfl rfl rfl (TL.nil h_)) ?_
        refine Plan.v 38 [39, 40, 41, 42, 43, 44, 45, 46] (by kernel_rfl) (by kernel_rfl) (by kernel_rfl) (by kernel_rfl) rfl (fun _ _ h_ => TL.off rfl rfl rfl (TL.nil h_)) ?_
        refine Plan.v 39 [40, 41, 42, 43, 44, 45, 46] (by kernel_rfl) (by kernel_rfl) (by kernel_rfl) (by kernel_rfl) rfl (fun _ _ h_ => R.pkFE rfl rfl (by conv => lhs; whnf) (TL.nil h_)) ?_
        refine Plan.v 40 [41, 42, 43, 44, 45, 46] (by kernel_rfl) (by kernel_rfl) (by kernel_rfl) (by kernel_rfl) rfl (fun _ _ h_ => R.mvE rfl (by conv => lhs; whnf) (TL.nil h_)) ?_
        refine Plan.v 41 [42, 43, 44, 45, 46] (by kernel_rfl) (by kernel_rfl) (by kernel_rfl) (by kernel_rfl) rfl (fun _ _ h_ => TL.off rfl rfl rfl (TL.nil h_)) ?_
        refine Plan.v 42 [43, 44, 45, 46] (by kernel_rfl) (by kernel_rfl) (by kernel_rfl) (by kernel_rfl) rfl (fun _ _ h_ => TL.off rfl rfl rfl (TL.nil h_)) ?_
        refine Plan.v 43 [44, 45, 46] (by kernel_rfl) (by kernel_rfl) (by kernel_rfl) (by kernel_rfl) rfl (fun _ _ h_ => TL.off rfl rfl rfl (TL.nil h_)) ?_
        refine Plan.v 44 [45, 46] (by kernel_rfl) (by kernel_rfl) (by kernel_rfl) (by kernel_rfl) rfl (fun _ _ h_ => TL.off rfl rfl rfl (TL.nil h_)) ?_
        refine Plan.v 45 [46] (by kernel_rfl) (by kernel_rfl) (by kernel_rfl) (by kernel_rfl) rfl (fun _ _ h_ => R.pkFE rfl rfl (by conv => lhs; whnf) (TL.nil h_)) ?_
        refine Plan.v 46 [] (by kernel_rfl) (by kernel_rfl) (by kernel_rfl) (by kernel_rfl) rfl (fun _ _ h_ => R.asE rfl (by conv => lhs; whnf) (TL.nil h_)) ?_
        refine Plan.done (Post.thnN ?_)
        refine T.has Has.nil ?_
        refine T.ret ?_
        have hM : windroselaw20_wakes_m = false := by subst er38; subst er32; subst er26; subst er19; subst er12; rw [windroselaw20_wakes_m, LR.seq_go, LR.seq_go, LR.seq_go, LR.seq_go, LR.seq_go, if_pos g43, if_pos g47, if_neg g51]
        exact fin1L (v := .bool false) [] rfl rfl (List.Sublist.refl _) ⟨rfl, by first | rw [hM] | rfl⟩
    · refine Plan.v 7 [8, 9, 10, 11, 12, 13, 14, 15, 16, 17, 18, 19, 20, 21, 22, 23, 24, 25, 26, 27, 28, 29, 30, 31, 32, 33, 34, 35, 36, 37, 38, 39, 40, 41, 42, 43, 44, 45, 46] (by kernel_rfl) (by kernel_rfl) (by kernel_rfl) (by kernel_rfl) rfl (fun _ _ h_ => TL.off rfl rfl rfl (TL.nil h_)) ?_
      refine Plan.v 8 [9, 10, 11, 12, 13, 14, 15, 16, 17, 18, 19, 20, 21, 22, 23, 24, 25, 26, 27, 28, 29, 30, 31, 32, 33, 34, 35, 36, 37, 38, 39, 40, 41, 42, 43, 44, 45, 46] (by kernel_rfl) (by kernel_rfl) (by kernel_rfl) (by kernel_rfl) rfl (fun _ _ h_ => TL.off rfl rfl rfl (TL.nil h_)) ?_
      refine Plan.v 9 [10, 11, 12, 13, 14, 15, 16, 17, 18, 19, 20, 21, 22, 23, 24, 25, 26, 27, 28, 29, 30, 31, 32, 33, 34, 35, 36, 37, 38, 39, 40, 41, 42, 43, 44, 45, 46] (by kernel_rfl) (by kernel_rfl) (by kernel_rfl) (by kernel_rfl) rfl (fun _ _ h_ => R.pkFE rfl rfl (by conv => lhs; whnf) (TL.nil h_)) ?_
      refine Plan.v 10 [11, 12, 13, 14, 15, 16, 17, 18, 19, 20, 21, 22, 23, 24, 25, 26, 27, 28, 29, 30, 31, 32, 33, 34, 35, 36, 37, 38, 39, 40, 41, 42, 43, 44, 45, 46] (by kernel_rfl) (by kernel_rfl) (by kernel_rfl) (by kernel_rfl) rfl (fun _ _ h_ => R.mvE rfl (by conv => lhs; whnf) (TL.nil h_)) ?_
      refine Plan.v 11 [12, 13, 14, 15, 16, 17, 18, 19, 20, 21, 22, 23, 24, 25, 26, 27, 28, 29, 30, 31, 32, 33, 34, 35, 36, 37, 38, 39, 40, 41, 42, 43, 44, 45, 46] (by kernel_rfl) (by kernel_rfl) (by kernel_rfl) (by kernel_rfl) rfl (fun _ _ h_ => TL.off rfl rfl rfl (TL.nil h_)) ?_
      refine Plan.v 12 [13, 14, 15, 16, 17, 18, 19, 20, 21, 22, 23, 24, 25, 26, 27, 28, 29, 30, 31, 32, 33, 34, 35, 36, 37, 38, 39, 40, 41, 42, 43, 44, 45, 46] (by kernel_rfl) (by kernel_rfl) (by kernel_rfl) (by kernel_rfl) rfl (fun _ _ h_ => TL.off rfl rfl rfl (TL.nil h_)) ?_
      refine Plan.v 13 [14, 15, 16, 17, 18, 19, 20, 21, 22, 23, 24, 25, 26, 27, 28, 29, 30, 31, 32, 33, 34, 35, 36, 37, 38, 39, 40, 41, 42, 43, 44, 45, 46] (by kernel_rfl) (by kernel_rfl) (by kernel_rfl) (by kernel_rfl) rfl (fun _ _ h_ => R.pkFE rfl rfl (by conv => lhs; whnf) (TL.nil h_)) ?_
      refine Plan.v 14 [15, 16, 17, 18, 19, 20, 21, 22, 23, 24, 25, 26, 27, 28, 29, 30, 31, 32, 33, 34, 35, 36, 37, 38, 39, 40, 41, 42, 43, 44, 45, 46] (by kernel_rfl) (by kernel_rfl) (by kernel_rfl) (by kernel_rfl) rfl (fun _ _ h_ => R.mvE rfl (by conv => lhs; whnf) (TL.nil h_)) ?_
      refine Plan.v 15 [16, 17, 18, 19, 20, 21, 22, 23, 24, 25, 26, 27, 28, 29, 30, 31, 32, 33, 34, 35, 36, 37, 38, 39, 40, 41, 42, 43, 44, 45, 46] (by kernel_rfl) (by kernel_rfl) (by kernel_rfl) (by kernel_rfl) rfl (fun _ _ h_ => TL.off rfl rfl rfl (TL.nil h_)) ?_
      refine Plan.v 16 [17, 18, 19, 20, 21, 22, 23, 24, 25, 26, 27, 28, 29, 30, 31, 32, 33, 34, 35, 36, 37, 38, 39, 40, 41, 42, 43, 44, 45, 46] (by kernel_rfl) (by kernel_rfl) (by kernel_rfl) (by kernel_rfl) rfl (fun _ _ h_ => TL.off rfl rfl rfl (TL.nil h_)) ?_
      refine Plan.v 17 [18, 19, 20, 21, 22, 23, 24, 25, 26, 27, 28, 29, 30, 31, 32, 33, 34, 35, 36, 37, 38, 39, 40, 41, 42, 43, 44, 45, 46] (by kernel_rfl) (by kernel_rfl) (by kernel_rfl) (by kernel_rfl) rfl (fun _ _ h_ => TL.off rfl rfl rfl (TL.nil h_)) ?_
      refine Plan.v 18 [19, 20, 21, 22, 23, 24, 25, 26, 27, 28, 29, 30, 31, 32, 33, 34, 35, 36, 37, 38, 39, 40, 41, 42, 43, 44, 45, 46] (by kernel_rfl) (by kernel_rfl) (by kernel_rfl) (by kernel_rfl) rfl (fun _ _ h_ => TL.off rfl rfl rfl (TL.nil h_)) ?_
      refine Plan.v 19 [20, 21, 22, 23, 24, 25, 26, 27, 28, 29, 30, 31, 32, 33, 34, 35, 36, 37, 38, 39, 40, 41, 42, 43, 44, 45, 46] (by kernel_rfl) (by kernel_rfl) (by kernel_rfl) (by kernel_rfl) rfl (fun _ _ h_ => R.pkFE rfl rfl (by conv => lhs; whnf) (TL.nil h_)) ?_
      refine Plan.v 20 [21, 22, 23, 24, 25, 26, 27, 28, 29, 30, 31, 32, 33, 34, 35, 36, 37, 38, 39, 40, 41, 42, 43, 44, 45, 46] (by kernel_rfl) (by kernel_rfl) (by kernel_rfl) (by kernel_rfl) rfl (fun _ _ h_ => R.mvE rfl (by conv => lhs; whnf) (TL.nil h_)) ?_
      refine Plan.v 21 [22, 23, 24, 25, 26, 27, 28, 29, 30, 31, 32, 33, 34, 35, 36, 37, 38, 39, 40, 41, 42, 43, 44, 45, 46] (by kernel_rfl) (by kernel_rfl) (by kernel_rfl) (by kernel_rfl) rfl (fun _ _ h_ => TL.off rfl rfl rfl (TL.nil h_)) ?_
      refine Plan.v 22 [23, 24, 25, 26, 27, 28, 29, 30, 31, 32, 33, 34, 35, 36, 37, 38, 39, 40, 41, 42, 43, 44, 45, 46] (by kernel_rfl) (by kernel_rfl) (by kernel_rfl) (by kernel_rfl) rfl (fun _ _ h_ => TL.off rfl rfl rfl (TL.nil h_)) ?_
      refine Plan.v 23 [24, 25, 26, 27, 28, 29, 30, 31, 32, 33, 34, 35, 36, 37, 38, 39, 40, 41, 42, 43, 44, 45, 46] (by kernel_rfl) (by kernel_rfl) (by kernel_rfl) (by kernel_rfl) rfl (fun _ _ h_ => TL.off rfl rfl rfl (TL.nil h_)) ?_
      refine Plan.v 24 [25, 26, 27, 28, 29, 30, 31, 32, 33, 34, 35, 36, 37, 38, 39, 40, 41, 42, 43, 44, 45, 46] (by kernel_rfl) (by kernel_rfl) (by kernel_rfl) (by kernel_rfl) rfl (fun _ _ h_ => TL.off rfl rfl rfl (TL.nil h_)) ?_
      refine Plan.v 25 [26, 27, 28, 29, 30, 31, 32, 33, 34, 35, 36, 37, 38, 39, 40, 41, 42, 43, 44, 45, 46] (by kernel_rfl) (by kernel_rfl) (by kernel_rfl) (by kernel_rfl) rfl (fun _ _ h_ => TL.off rfl rfl rfl (TL.nil h_)) ?_
      refine Plan.v 26 [27, 28, 29, 30, 31, 32, 33, 34, 35, 36, 37, 38, 39, 40, 41, 42, 43, 44, 45, 46] (by kernel_rfl) (by kernel_rfl) (by kernel_rfl) (by kernel_rfl) rfl (fun _ _ h_ => R.pkFE rfl rfl (by conv => lhs; whnf) (TL.nil h_)) ?_
      refine Plan.v 27 [28, 29, 30, 31, 32, 33, 34, 35, 36, 37, 38, 39, 40, 41, 42, 43, 44, 45, 46] (by kernel_rfl) (by kernel_rfl) (by kernel_rfl) (by kernel_rfl) rfl (fun _ _ h_ => R.mvE rfl (by conv => lhs; whnf) (TL.nil h_)) ?_
      refine Plan.v 28 [29, 30, 31, 32, 33, 34, 35, 36, 37, 38, 39, 40, 41, 42, 43, 44, 45, 46] (by kernel_rfl) (by kernel_rfl) (by kernel_rfl) (by kernel_rfl) rfl (fun _ _ h_ => TL.off rfl rfl rfl (TL.nil h_)) ?_
      refine Plan.v 29 [30, 31, 32, 33, 34, 35, 36, 37, 38, 39, 40, 41, 42, 43, 44, 45, 46] (by kernel_rfl) (by kernel_rfl) (by kernel_rfl) (by kernel_rfl) rfl (fun _ _ h_ => TL.off rfl rfl rfl (TL.nil h_)) ?_
      refine Plan.v 30 [31, 32, 33, 34, 35, 36, 37, 38, 39, 40, 41, 42, 43, 44, 45, 46] (by kernel_rfl) (by kernel_rfl) (by kernel_rfl) (by kernel_rfl) rfl (fun _ _ h_ => TL.off rfl rfl rfl (TL.nil h_)) ?_
      refine Plan.v 31 [32, 33, 34, 35, 36, 37, 38, 39, 40, 41, 42, 43, 44, 45, 46] (by kernel_rfl) (by kernel_rfl) (by kernel_rfl) (by kernel_rfl) rfl (fun _ _ h_ => TL.off rfl rfl rfl (TL.nil h_)) ?_
      refine Plan.v 32 [33, 34, 35, 36, 37, 38, 39, 40, 41, 42, 43, 44, 45, 46] (by kernel_rfl) (by kernel_rfl) (by kernel_rfl) (by kernel_rfl) rfl (fun _ _ h_ => TL.off rfl rfl rfl (TL.nil h_)) ?_
      refine Plan.v 33 [34, 35, 36, 37, 38, 39, 40, 41, 42, 43, 44, 45, 46] (by kernel_rfl) (by kernel_rfl) (by kernel_rfl) (by kernel_rfl) rfl (fun _ _ h_ => R.pkFE rfl rfl (by conv => lhs; whnf) (TL.nil h_)) ?_
      refine Plan.v 34 [35, 36, 37, 38, 39, 40, 41, 42, 43, 44, 45, 46] (by kernel_rfl) (by kernel_rfl) (by kernel_rfl) (by kernel_rfl) rfl (fun _ _ h_ => R.mvE rfl (by conv => lhs; whnf) (TL.nil h_)) ?_
      refine Plan.v 35 [36, 37, 38, 39, 40, 41, 42, 43, 44, 45, 46] (by kernel_rfl) (by kernel_rfl) (by kernel_rfl) (by kernel_rfl) rfl (fun _ _ h_ => TL.off rfl rfl rfl (TL.nil h_)) ?_
      refine Plan.v 36 [37, 38, 39, 40, 41, 42, 43, 44, 45, 46] (by kernel_rfl) (by kernel_rfl) (by kernel_rfl) (by kernel_rfl) rfl (fun _ _ h_ => TL.off rfl rfl rfl (TL.nil h_)) ?_
      refine Plan.v 37 [38, 39, 40, 41, 42, 43, 44, 45, 46] (by kernel_rfl) (by kernel_rfl) (by kernel_rfl) (by kernel_rfl) rfl (fun _ _ h_ => TL.off rfl rfl rfl (TL.nil h_)) ?_
      refine Plan.v 38 [39, 40, 41, 42, 43, 44, 45, 46] (by kernel_rfl) (by kernel_rfl) (by kernel_rfl) (by kernel_rfl) rfl (fun _ _ h_ => TL.off rfl rfl rfl (TL.nil h_)) ?_
      refine Plan.v 39 [40, 41, 42, 43, 44, 45, 46] (by kernel_rfl) (by kernel_rfl) (by kernel_rfl) (by kernel_rfl) rfl (fun _ _ h_ => R.pkFE rfl rfl (by conv => lhs; whnf) (TL.nil h_)) ?_
      refine Plan.v 40 [41, 42, 43, 44, 45, 46] (by kernel_rfl) (by kernel_rfl) (by kernel_rfl) (by kernel_rfl) rfl (fun _ _ h_ => R.mvE rfl (by conv => lhs; whnf) (TL.nil h_)) ?_
      refine Plan.v 41 [42, 43, 44, 45, 46] (by kernel_rfl) (by kernel_rfl) (by kernel_rfl) (by kernel_rfl) rfl (fun _ _ h_ => TL.off rfl rfl rfl (TL.nil h_)) ?_
      refine Plan.v 42 [43, 44, 45, 46] (by kernel_rfl) (by kernel_rfl) (by kernel_rfl) (by kernel_rfl) rfl (fun _ _ h_ => TL.off rfl rfl rfl (TL.nil h_)) ?_
      refine Plan.v 43 [44, 45, 46] (by kernel_rfl) (by kernel_rfl) (by kernel_rfl) (by kernel_rfl) rfl (fun _ _ h_ => TL.off rfl rfl rfl (TL.nil h_)) ?_
      refine Plan.v 44 [45, 46] (by kernel_rfl) (by kernel_rfl) (by kernel_rfl) (by kernel_rfl) rfl (fun _ _ h_ => TL.off rfl rfl rfl (TL.nil h_)) ?_
      refine Plan.v 45 [46] (by kernel_rfl) (by kernel_rfl) (by kernel_rfl) (by kernel_rfl) rfl (fun _ _ h_ => R.pkFE rfl rfl (by conv => lhs; whnf) (TL.nil h_)) ?_
      refine Plan.v 46 [] (by kernel_rfl) (by kernel_rfl) (by kernel_rfl) (by kernel_rfl) rfl (fun _ _ h_ => R.asE rfl (by conv => lhs; whnf) (TL.nil h_)) ?_
      refine Plan.done (Post.thnN ?_)
      refine T.has Has.nil ?_
      refine T.ret ?_
      have hM : windroselaw20_wakes_m = false := by subst er38; subst er32; subst er26; subst er19; subst er12; rw [windroselaw20_wakes_m, LR.seq_go, LR.seq_go, LR.seq_go, LR.seq_go, LR.seq_go, if_pos g43, if_neg g47]
      exact fin1L (v := .bool false) [] rfl rfl (List.Sublist.refl _) ⟨rfl, by first | rw [hM] | rfl⟩
  · refine Plan.v 3 [4, 5, 6, 7, 8, 9, 10, 11, 12, 13, 14, 15, 16, 17, 18, 19, 20, 21, 22, 23, 24, 25, 26, 27, 28, 29, 30, 31, 32, 33, 34, 35, 36, 37, 38, 39, 40, 41, 42, 43, 44, 45, 46] (by kernel_rfl) (by kernel_rfl) (by kernel_rfl) (by kernel_rfl) rfl (fun _ _ h_ => TL.off rfl rfl rfl (TL.nil h_)) ?_
    refine Plan.v 4 [5, 6, 7, 8, 9, 10, 11, 12, 13, 14, 15, 16, 17, 18, 19, 20, 21, 22, 23, 24, 25, 26, 27, 28, 29, 30, 31, 32, 33, 34, 35, 36, 37, 38, 39, 40, 41, 42, 43, 44, 45, 46] (by kernel_rfl) (by kernel_rfl) (by kernel_rfl) (by kernel_rfl) rfl (fun _ _ h_ => TL.off rfl rfl rfl (TL.nil h_)) ?_
    refine Plan.v 5 [6, 7, 8, 9, 10, 11, 12, 13, 14, 15, 16, 17, 18, 19, 20, 21, 22, 23, 24, 25, 26, 27, 28, 29, 30, 31, 32, 33, 34, 35, 36, 37, 38, 39, 40, 41, 42, 43, 44, 45, 46] (by kernel_rfl) (by kernel_rfl) (by kernel_rfl) (by kernel_rfl) rfl (fun _ _ h_ => R.pkFE rfl rfl (by conv => lhs; whnf) (TL.nil h_)) ?_
    refine Plan.v 6 [7, 8, 9, 10, 11, 12, 13, 14, 15, 16, 17, 18, 19, 20, 21, 22, 23, 24, 25, 26, 27, 28, 29, 30, 31, 32, 33, 34, 35, 36, 37, 38, 39, 40, 41, 42, 43, 44, 45, 46] (by kernel_rfl) (by kernel_rfl) (by kernel_rfl) (by kernel_rfl) rfl (fun _ _ h_ => R.mvE rfl (by conv => lhs; whnf) (TL.nil h_)) ?_
    refine Plan.v 7 [8, 9, 10, 11, 12, 13, 14, 15, 16, 17, 18, 19, 20, 21, 22, 23, 24, 25, 26, 27, 28, 29, 30, 31, 32, 33, 34, 35, 36, 37, 38, 39, 40, 41, 42, 43, 44, 45, 46] (by kernel_rfl) (by kernel_rfl) (by kernel_rfl) (by kernel_rfl) rfl (fun _ _ h_ => TL.off rfl rfl rfl (TL.nil h_)) ?_
    refine Plan.v 8 [9, 10, 11, 12, 13, 14, 15, 16, 17, 18, 19, 20, 21, 22, 23, 24, 25, 26, 27, 28, 29, 30, 31, 32, 33, 34, 35, 36, 37, 38, 39, 40, 41, 42, 43, 44, 45, 46] (by kernel_rfl) (by kernel_rfl) (by kernel_rfl) (by kernel_rfl) rfl (fun _ _ h_ => TL.off rfl rfl rfl (TL.nil h_)) ?_
    refine Plan.v 9 [10, 11, 12, 13, 14, 15, 16, 17, 18, 19, 20, 21, 22, 23, 24, 25, 26, 27, 28, 29, 30, 31, 32, 33, 34, 35, 36, 37, 38, 39, 40, 41, 42, 43, 44, 45, 46] (by kernel_rfl) (by kernel_rfl) (by kernel_rfl) (by kernel_rfl) rfl (fun _ _ h_ => R.pkFE rfl rfl (by conv => lhs; whnf) (TL.nil h_)) ?_
    refine Plan.v 10 [11, 12, 13, 14, 15, 16, 17, 18, 19, 20, 21, 22, 23, 24, 25, 26, 27, 28, 29, 30, 31, 32, 33, 34, 35, 36, 37, 38, 39, 40, 41, 42, 43, 44, 45, 46] (by kernel_rfl) (by kernel_rfl) (by kernel_rfl) (by kernel_rfl) rfl (fun _ _ h_ => R.mvE rfl (by conv => lhs; whnf) (TL.nil h_)) ?_
    refine Plan.v 11 [12, 13, 14, 15, 16, 17, 18, 19, 20, 21, 22, 23, 24, 25, 26, 27, 28, 29, 30, 31, 32, 33, 34, 35, 36, 37, 38, 39, 40, 41, 42, 43, 44, 45, 46] (by kernel_rfl) (by kernel_rfl) (by kernel_rfl) (by kernel_rfl) rfl (fun _ _ h_ => TL.off rfl rfl rfl (TL.nil h_)) ?_
    refine Plan.v 12 [13, 14, 15, 16, 17, 18, 19, 20, 21, 22, 23, 24, 25, 26, 27, 28, 29, 30, 31, 32, 33, 34, 35, 36, 37, 38, 39, 40, 41, 42, 43, 44, 45, 46] (by kernel_rfl) (by kernel_rfl) (by kernel_rfl) (by kernel_rfl) rfl (fun _ _ h_ => TL.off rfl rfl rfl (TL.nil h_)) ?_
    refine Plan.v 13 [14, 15, 16, 17, 18, 19, 20, 21, 22, 23, 24, 25, 26, 27, 28, 29, 30, 31, 32, 33, 34, 35, 36, 37, 38, 39, 40, 41, 42, 43, 44, 45, 46] (by kernel_rfl) (by kernel_rfl) (by kernel_rfl) (by kernel_rfl) rfl (fun _ _ h_ => R.pkFE rfl rfl (by conv => lhs; whnf) (TL.nil h_)) ?_
    refine Plan.v 14 [15, 16, 17, 18, 19, 20, 21, 22, 23, 24, 25, 26, 27, 28, 29, 30, 31, 32, 33, 34, 35, 36, 37, 38, 39, 40, 41, 42, 43, 44, 45, 46] (by kernel_rfl) (by kernel_rfl) (by kernel_rfl) (by kernel_rfl) rfl (fun _ _ h_ => R.mvE rfl (by conv => lhs; whnf) (TL.nil h_)) ?_
    refine Plan.v 15 [16, 17, 18, 19, 20, 21, 22, 23, 24, 25, 26, 27, 28, 29, 30, 31, 32, 33, 34, 35, 36, 37, 38, 39, 40, 41, 42, 43, 44, 45, 46] (by kernel_rfl) (by kernel_rfl) (by kernel_rfl) (by kernel_rfl) rfl (fun _ _ h_ => TL.off rfl rfl rfl (TL.nil h_)) ?_
    refine Plan.v 16 [17, 18, 19, 20, 21, 22, 23, 24, 25, 26, 27, 28, 29, 30, 31, 32, 33, 34, 35, 36, 37, 38, 39, 40, 41, 42, 43, 44, 45, 46] (by kernel_rfl) (by kernel_rfl) (by kernel_rfl) (by kernel_rfl) rfl (fun _ _ h_ => TL.off rfl rfl rfl (TL.nil h_)) ?_
    refine Plan.v 17 [18, 19, 20, 21, 22, 23, 24, 25, 26, 27, 28, 29, 30, 31, 32, 33, 34, 35, 36, 37, 38, 39, 40, 41, 42, 43, 44, 45, 46] (by kernel_rfl) (by kernel_rfl) (by kernel_rfl) (by kernel_rfl) rfl (fun _ _ h_ => TL.off rfl rfl rfl (TL.nil h_)) ?_
    refine Plan.v 18 [19, 20, 21, 22, 23, 24, 25, 26, 27, 28, 29, 30, 31, 32, 33, 34, 35, 36, 37, 38, 39, 40, 41, 42, 43, 44, 45, 46] (by kernel_rfl) (by kernel_rfl) (by kernel_rfl) (by kernel_rfl) rfl (fun _ _ h_ => TL.off rfl rfl rfl (TL.nil h_)) ?_
    refine Plan.v 19 [20, 21, 22, 23, 24, 25, 26, 27, 28, 29, 30, 31, 32, 33, 34, 35, 36, 37, 38, 39, 40, 41, 42, 43, 44, 45, 46] (by kernel_rfl) (by kernel_rfl) (by kernel_rfl) (by kernel_rfl) rfl (fun _ _ h_ => R.pkFE rfl rfl (by conv => lhs; whnf) (TL.nil h_)) ?_
    refine Plan.v 20 [21, 22, 23, 24, 25, 26, 27, 28, 29, 30, 31, 32, 33, 34, 35, 36, 37, 38, 39, 40, 41, 42, 43, 44, 45, 46] (by kernel_rfl) (by kernel_rfl) (by kernel_rfl) (by kernel_rfl) rfl (fun _ _ h_ => R.mvE rfl (by conv => lhs; whnf) (TL.nil h_)) ?_
    refine Plan.v 21 [22, 23, 24, 25, 26, 27, 28, 29, 30, 31, 32, 33, 34, 35, 36, 37, 38, 39, 40, 41, 42, 43, 44, 45, 46] (by kernel_rfl) (by kernel_rfl) (by kernel_rfl) (by kernel_rfl) rfl (fun _ _ h_ => TL.off rfl rfl rfl (TL.nil h_)) ?_
    refine Plan.v 22 [23, 24, 25, 26, 27, 28, 29, 30, 31, 32, 33, 34, 35, 36, 37, 38, 39, 40, 41, 42, 43, 44, 45, 46] (by kernel_rfl) (by kernel_rfl) (by kernel_rfl) (by kernel_rfl) rfl (fun _ _ h_ => TL.off rfl rfl rfl (TL.nil h_)) ?_
    refine Plan.v 23 [24, 25, 26, 27, 28, 29, 30, 31, 32, 33, 34, 35, 36, 37, 38, 39, 40, 41, 42, 43, 44, 45, 46] (by kernel_rfl) (by kernel_rfl) (by kernel_rfl) (by kernel_rfl) rfl (fun _ _ h_ => TL.off rfl rfl rfl (TL.nil h_)) ?_
    refine Plan.v 24 [25, 26, 27, 28, 29, 30, 31, 32, 33, 34, 35, 36, 37, 38, 39, 40, 41, 42, 43, 44, 45, 46] (by kernel_rfl) (by kernel_rfl) (by kernel_rfl) (by kernel_rfl) rfl (fun _ _ h_ => TL.off rfl rfl rfl (TL.nil h_)) ?_
    refine Plan.v 25 [26, 27, 28, 29, 30, 31, 32, 33, 34, 35, 36, 37, 38, 39, 40, 41, 42, 43, 44, 45, 46] (by kernel_rfl) (by kernel_rfl) (by kernel_rfl) (by kernel_rfl) rfl (fun _ _ h_ => TL.off rfl rfl rfl (TL.nil h_)) ?_
    refine Plan.v 26 [27, 28, 29, 30, 31, 32, 33, 34, 35, 36, 37, 38, 39, 40, 41, 42, 43, 44, 45, 46] (by kernel_rfl) (by kernel_rfl) (by kernel_rfl) (by kernel_rfl) rfl (fun _ _ h_ => R.pkFE rfl rfl (by conv => lhs; whnf) (TL.nil h_)) ?_
    refine Plan.v 27 [28, 29, 30, 31, 32, 33, 34, 35, 36, 37, 38, 39, 40, 41, 42, 43, 44, 45, 46] (by kernel_rfl) (by kernel_rfl) (by kernel_rfl) (by kernel_rfl) rfl (fun _ _ h_ => R.mvE rfl (by conv => lhs; whnf) (TL.nil h_)) ?_
    refine Plan.v 28 [29, 30, 31, 32, 33, 34, 35, 36, 37, 38, 39, 40, 41, 42, 43, 44, 45, 46] (by kernel_rfl) (by kernel_rfl) (by kernel_rfl) (by kernel_rfl) rfl (fun _ _ h_ => TL.off rfl rfl rfl (TL.nil h_)) ?_
    refine Plan.v 29 [30, 31, 32, 33, 34, 35, 36, 37, 38, 39, 40, 41, 42, 43, 44, 45, 46] (by kernel_rfl) (by kernel_rfl) (by kernel_rfl) (by kernel_rfl) rfl (fun _ _ h_ => TL.off rfl rfl rfl (TL.nil h_)) ?_
    refine Plan.v 30 [31, 32, 33, 34, 35, 36, 37, 38, 39, 40, 41, 42, 43, 44, 45, 46] (by kernel_rfl) (by kernel_rfl) (by kernel_rfl) (by kernel_rfl) rfl (fun _ _ h_ => TL.off rfl rfl rfl (TL.nil h_)) ?_
    refine Plan.v 31 [32, 33, 34, 35, 36, 37, 38, 39, 40, 41, 42, 43, 44, 45, 46] (by kernel_rfl) (by kernel_rfl) (by kernel_rfl) (by kernel_rfl) rfl (fun _ _ h_ => TL.off rfl rfl rfl (TL.nil h_)) ?_
    refine Plan.v 32 [33, 34, 35, 36, 37, 38, 39, 40, 41, 42, 43, 44, 45, 46] (by kernel_rfl) (by kernel_rfl) (by kernel_rfl) (by kernel_rfl) rfl (fun _ _ h_ => TL.off rfl rfl rfl (TL.nil h_)) ?_
    refine Plan.v 33 [34, 35, 36, 37, 38, 39, 40, 41, 42, 43, 44, 45, 46] (by kernel_rfl) (by kernel_rfl) (by kernel_rfl) (by kernel_rfl) rfl (fun _ _ h_ => R.pkFE rfl rfl (by conv => lhs; whnf) (TL.nil h_)) ?_
    refine Plan.v 34 [35, 36, 37, 38, 39, 40, 41, 42, 43, 44, 45, 46] (by kernel_rfl) (by kernel_rfl) (by kernel_rfl) (by kernel_rfl) rfl (fun _ _ h_ => R.mvE rfl (by conv => lhs; whnf) (TL.nil h_)) ?_
    refine Plan.v 35 [36, 37, 38, 39, 40, 41, 42, 43, 44, 45, 46] (by kernel_rfl) (by kernel_rfl) (by kernel_rfl) (by kernel_rfl) rfl (fun _ _ h_ => TL.off rfl rfl rfl (TL.nil h_)) ?_
    refine Plan.v 36 [37, 38, 39, 40, 41, 42, 43, 44, 45, 46] (by kernel_rfl) (by kernel_rfl) (by kernel_rfl) (by kernel_rfl) rfl (fun _ _ h_ => TL.off rfl rfl rfl (TL.nil h_)) ?_
    refine Plan.v 37 [38, 39, 40, 41, 42, 43, 44, 45, 46] (by kernel_rfl) (by kernel_rfl) (by kernel_rfl) (by kernel_rfl) rfl (fun _ _ h_ => TL.off rfl rfl rfl (TL.nil h_)) ?_
    refine Plan.v 38 [39, 40, 41, 42, 43, 44, 45, 46] (by kernel_rfl) (by kernel_rfl) (by kernel_rfl) (by kernel_rfl) rfl (fun _ _ h_ => TL.off rfl rfl rfl (TL.nil h_)) ?_
    refine Plan.v 39 [40, 41, 42, 43, 44, 45, 46] (by kernel_rfl) (by kernel_rfl) (by kernel_rfl) (by kernel_rfl) rfl (fun _ _ h_ => R.pkFE rfl rfl (by conv => lhs; whnf) (TL.nil h_)) ?_
    refine Plan.v 40 [41, 42, 43, 44, 45, 46] (by kernel_rfl) (by kernel_rfl) (by kernel_rfl) (by kernel_rfl) rfl (fun _ _ h_ => R.mvE rfl (by conv => lhs; whnf) (TL.nil h_)) ?_
    refine Plan.v 41 [42, 43, 44, 45, 46] (by kernel_rfl) (by kernel_rfl) (by kernel_rfl) (by kernel_rfl) rfl (fun _ _ h_ => TL.off rfl rfl rfl (TL.nil h_)) ?_
    refine Plan.v 42 [43, 44, 45, 46] (by kernel_rfl) (by kernel_rfl) (by kernel_rfl) (by kernel_rfl) rfl (fun _ _ h_ => TL.off rfl rfl rfl (TL.nil h_)) ?_
    refine Plan.v 43 [44, 45, 46] (by kernel_rfl) (by kernel_rfl) (by kernel_rfl) (by kernel_rfl) rfl (fun _ _ h_ => TL.off rfl rfl rfl (TL.nil h_)) ?_
    refine Plan.v 44 [45, 46] (by kernel_rfl) (by kernel_rfl) (by kernel_rfl) (by kernel_rfl) rfl (fun _ _ h_ => TL.off rfl rfl rfl (TL.nil h_)) ?_
    refine Plan.v 45 [46] (by kernel_rfl) (by kernel_rfl) (by kernel_rfl) (by kernel_rfl) rfl (fun _ _ h_ => R.pkFE rfl rfl (by conv => lhs; whnf) (TL.nil h_)) ?_
    refine Plan.v 46 [] (by kernel_rfl) (by kernel_rfl) (by kernel_rfl) (by kernel_rfl) rfl (fun _ _ h_ => R.asE rfl (by conv => lhs; whnf) (TL.nil h_)) ?_
    refine Plan.done (Post.thnN ?_)
    refine T.has Has.nil ?_
    refine T.ret ?_
    have hM : windroselaw20_wakes_m = false := by subst er38; subst er32; subst er26; subst er19; subst er12; rw [windroselaw20_wakes_m, LR.seq_go, LR.seq_go, LR.seq_go, LR.seq_go, LR.seq_go, if_neg g43]
    exact fin1L (v := .bool false) [] rfl rfl (List.Sublist.refl _) ⟨rfl, by first | rw [hM] | rfl⟩

def windroselaw20_own_m (a0 : List (Int × (Bool × Bool × Int × Int × Int))) (a1 : List (Int × Int)) : (List (Int × (Bool × Bool × Int × Int × Int))) × (List (Int × Int)) :=
  ((a0.take ((min a0.length 12))), (a1.take ((min a1.length 16))))
set_option maxHeartbeats 3200000 in
theorem windroselaw20_own_c (H : Heap) (va0 : Value) (a0 : List (Int × (Bool × Bool × Int × Int × Int))) (ha0 : RdS relationE H va0 a0) (va1 : Value) (a1 : List (Int × Int)) (ha1 : RdS heldE H va1 a1) : Fc Tryd.prog (fnv 37) [va0, va1] H [] (fun v' H' L' => ∃ u0_0 u1_0 c0_0 c1_0, v' = .tuple #[u0_0, u1_0] ∧ L' = [c0_0, c1_0] ∧ OwnS relationE 78 H' u0_0 (windroselaw20_own_m a0 a1).1 c0_0 ∧ OwnS heldE 73 H' u1_0 (windroselaw20_own_m a0 a1).2 c1_0) := by
  refine Fc.of_body (N := 18) Tryd.func37 rfl (by kernel_rfl) rfl rfl ?_
  intro w0
  obtain ⟨Aa0, ca0, rfl, hca0, hda0, ha0⟩ := ha0.shape
  obtain ⟨Aa1, ca1, rfl, hca1, hda1, ha1⟩ := ha1.shape
  refine T.seq ?_
  refine T.region ?_
  refine R.asE rfl (by conv => lhs; whnf) ?_
  refine R.asE rfl (by conv => lhs; whnf) ?_
  refine TL.nil (Post.thnN ?_)
  refine T.seq ?_
  refine T.draw Tryd_mixed (by kernel_rfl) ?_
  refine Plan.v 0 [1, 2, 3, 4, 5, 6, 7, 8, 9, 10, 11, 12, 13] (by kernel_rfl) (by kernel_rfl) (by kernel_rfl) (by kernel_rfl) rfl (fun _ _ h_ => R.mvE rfl (by conv => lhs; whnf) (TL.nil h_)) ?_
  refine Plan.v 1 [2, 3, 4, 5, 6, 7, 8, 9, 10, 11, 12, 13] (by kernel_rfl) (by kernel_rfl) (by kernel_rfl) (by kernel_rfl) rfl (fun _ _ h_ => R.mvE rfl (by conv => lhs; whnf) (TL.nil h_)) ?_
  refine Plan.v 2 [3, 4, 5, 6, 7, 8, 9, 10, 11, 12, 13] (by kernel_rfl) (by kernel_rfl) (by kernel_rfl) (by kernel_rfl) rfl (fun _ _ h_ => R.len Tryd.underlying59 rfl rfl (TL.nil h_)) ?_
  refine Plan.v 3 [4, 5, 6, 7, 8, 9, 10, 11, 12, 13] (by kernel_rfl) (by kernel_rfl) (by kernel_rfl) (by kernel_rfl) rfl (fun _ _ h_ => R.min2 rfl rfl rfl (TL.nil h_)) ?_
  refine Plan.set 9 (.int .i64 ((min a0.length 12 : Nat) : Int)) (congrArg (Value.int .i64) (by split <;> omega)) ?_
  have z10 := RdS.takeC ha0 (i := (min a0.length 12)) (by omega) (by omega)
  obtain ⟨x10, e10⟩ : ∃ x, x = (a0.take ((min a0.length 12))) := ⟨_, rfl⟩
  rw [← e10] at z10
  obtain ⟨A10, p10, q10, m10, n10, r10⟩ := RdS.shape z10
  have t10 : x10.length ≤ a0.length := by rw [e10]; simp; try omega
  have t10_ : x10.length = min ((min a0.length 12)) a0.length := by rw [e10]; simp
  refine Plan.v 4 [5, 6, 7, 8, 9, 10, 11, 12, 13] (by kernel_rfl) (by kernel_rfl) (by kernel_rfl) (by kernel_rfl) rfl (fun _ _ h_ => R.sH Tryd.underlying59 Tryd.sizeOf78 rfl rfl rfl (by omega) (by omega)  (TL.nil h_)) ?_
  refine Plan.set 10 (.slice A10 x10.length p10) (by first | exact q10 | (rw [← q10]; simp; done) | (rw [← q10]; rfl)) ?_
  refine Plan.v 6 [5, 7, 8, 9, 10, 11, 12, 13] (by kernel_rfl) (by kernel_rfl) (by kernel_rfl) (by kernel_rfl) rfl (fun _ _ h_ => R.mvE rfl (by conv => lhs; whnf) (TL.nil h_)) ?_
  refine Plan.v 7 [5, 8, 9, 10, 11, 12, 13] (by kernel_rfl) (by kernel_rfl) (by kernel_rfl) (by kernel_rfl) rfl (fun _ _ h_ => R.mvE rfl (by conv => lhs; whnf) (TL.nil h_)) ?_
  refine Plan.v 8 [5, 9, 10, 11, 12, 13] (by kernel_rfl) (by kernel_rfl) (by kernel_rfl) (by kernel_rfl) rfl (fun _ _ h_ => R.len Tryd.underlying60 rfl rfl (TL.nil h_)) ?_
  refine Plan.v 9 [5, 10, 11, 12, 13] (by kernel_rfl) (by kernel_rfl) (by kernel_rfl) (by kernel_rfl) rfl (fun _ _ h_ => R.min2 rfl rfl rfl (TL.nil h_)) ?_
  refine Plan.set 15 (.int .i64 ((min a1.length 16 : Nat) : Int)) (congrArg (Value.int .i64) (by split <;> omega)) ?_
  have z16 := RdS.takeC ha1 (i := (min a1.length 16)) (by omega) (by omega)
  obtain ⟨x16, e16⟩ : ∃ x, x = (a1.take ((min a1.length 16))) := ⟨_, rfl⟩
  rw [← e16] at z16
  obtain ⟨A16, p16, q16, m16, n16, r16⟩ := RdS.shape z16
  have t16 : x16.length ≤ a1.length := by rw [e16]; simp; try omega
  have t16_ : x16.length = min ((min a1.length 16)) a1.length := by rw [e16]; simp
  refine Plan.v 10 [5, 11, 12, 13] (by kernel_rfl) (by kernel_rfl) (by kernel_rfl) (by kernel_rfl) rfl (fun _ _ h_ => R.sH Tryd.underlying60 Tryd.sizeOf73 rfl rfl rfl (by omega) (by omega)  (TL.nil h_)) ?_
  refine Plan.set 16 (.slice A16 x16.length p16) (by first | exact q16 | (rw [← q16]; simp; done) | (rw [← q16]; rfl)) ?_
  refine Plan.s1 5 [11, 12, 13] (by kernel_rfl) (by kernel_rfl) rfl ?_
  refine TL.call [] rfl rfl rfl (clone59_c _ _ x10 r10 (by first | omega | (simp; done) | (simp; omega) | (simp at *; omega))) ?_
  intro v11 H11 L11 s11 q11
  obtain ⟨c11, rfl, w11⟩ := q11
  obtain ⟨x11, e11⟩ : ∃ x, x = x10 := ⟨_, rfl⟩
  rw [← e11] at w11
  obtain ⟨A11, p11, rfl, m11, n11⟩ := OwnS.shape w11
  have t11 : x11.length = x10.length := by rw [e11]
  refine TL.nil (Plan.e1 (s11) ?_)
  refine Plan.s1 11 [12, 13] (by kernel_rfl) (by kernel_rfl) rfl ?_
  refine TL.call [] rfl rfl rfl (clone60_c _ _ x16 (r16.mono s11) (by first | omega | (simp; done) | (simp; omega) | (simp at *; omega))) ?_
  intro v17 H17 L17 s17 q17
  obtain ⟨c17, rfl, w17⟩ := q17
  obtain ⟨x17, e17⟩ : ∃ x, x = x16 := ⟨_, rfl⟩
  rw [← e17] at w17
  obtain ⟨A17, p17, rfl, m17, n17⟩ := OwnS.shape w17
  have t17 : x17.length = x16.length := by rw [e17]
  refine TL.nil (Plan.e1 (s17) ?_)
  refine Plan.v 12 [13] (by kernel_rfl) (by kernel_rfl) (by kernel_rfl) (by kernel_rfl) rfl (fun _ _ h_ => R.asE rfl (by conv => lhs; whnf) (TL.nil h_)) ?_
  refine Plan.v 13 [] (by kernel_rfl) (by kernel_rfl) (by kernel_rfl) (by kernel_rfl) rfl (fun _ _ h_ => R.asE rfl (by conv => lhs; whnf) (TL.nil h_)) ?_
  refine Plan.done (Post.thnN ?_)
  refine T.has (Has.cons (.tl .hd) (Has.cons .hd Has.nil)) ?_
  refine T.ret ?_
  have hM : windroselaw20_own_m a0 a1 = (x11, x17) := by subst e17; subst e11; subst e16; subst e10; rw [windroselaw20_own_m]
  exact fin2L (v := .slice A11 x11.length p11) (v' := .slice A17 x17.length p17) [c11, c17] rfl rfl rfl (List.Sublist.refl _) ⟨.slice A11 x11.length p11, .slice A17 x17.length p17, c11, c17, by first | rw [hM] | rfl, rfl, by rw [hM]; exact (OwnS.mono w11 s17), by rw [hM]; exact w17⟩

def windroselaw20_few_m (a0 : List Int) : (List Int) :=
  (a0.take ((min a0.length 6)))
set_option maxHeartbeats 3200000 in
theorem windroselaw20_few_c (H : Heap) (va0 : Value) (a0 : List Int) (ha0 : RdS (intE .i64) H va0 a0) : Fc Tryd.prog (fnv 45) [va0] H [] (fun v' H' L' => ∃ u0_0 c0_0, v' = u0_0 ∧ L' = [c0_0] ∧ OwnS (intE .i64) 3 H' u0_0 (windroselaw20_few_m a0) c0_0) := by
  refine Fc.of_body (N := 9) Tryd.func45 rfl (by kernel_rfl) rfl rfl ?_
  intro w0
  obtain ⟨Aa0, ca0, rfl, hca0, hda0, ha0⟩ := ha0.shape
  refine T.seq ?_
  refine T.region ?_
  refine R.asE rfl (by conv => lhs; whnf) ?_
  refine TL.nil (Post.thnN ?_)
  refine T.seq ?_
  refine T.region ?_
  refine R.mvE rfl (by conv => lhs; whnf) ?_
  refine R.mvE rfl (by conv => lhs; whnf) ?_
  refine R.len Tryd.underlying23 rfl rfl ?_
  refine R.min2 rfl rfl rfl ?_
  refine TL.set 6 (.int .i64 ((min a0.length 6 : Nat) : Int)) (congrArg (Value.int .i64) (by split <;> omega)) ?_
  have z7 := RdS.takeC ha0 (i := (min a0.length 6)) (by omega) (by omega)
  obtain ⟨x7, e7⟩ : ∃ x, x = (a0.take ((min a0.length 6))) := ⟨_, rfl⟩
  rw [← e7] at z7
  obtain ⟨A7, p7, q7, m7, n7, r7⟩ := RdS.shape z7
  have t7 : x7.length ≤ a0.length := by rw [e7]; simp; try omega
  have t7_ : x7.length = min ((min a0.length 6)) a0.length := by rw [e7]; simp
  refine R.sH Tryd.underlying23 Tryd.sizeOf3 rfl rfl rfl (by omega) (by omega)  ?_
  refine TL.set 7 (.slice A7 x7.length p7) (by first | exact q7 | (rw [← q7]; simp; done) | (rw [← q7]; rfl)) ?_
  refine TL.call [] rfl rfl rfl (clone23_c _ _ x7 r7 (by first | omega | (simp; done) | (simp; omega) | (simp at *; omega))) ?_
  intro v8 H8 L8 s8 q8
  obtain ⟨c8, rfl, w8⟩ := q8
  obtain ⟨x8, e8⟩ : ∃ x, x = x7 := ⟨_, rfl⟩
  rw [← e8] at w8
  obtain ⟨A8, p8, rfl, m8, n8⟩ := OwnS.shape w8
  have t8 : x8.length = x7.length := by rw [e8]
  refine R.asE rfl (by conv => lhs; whnf) ?_
  refine TL.nil (Post.thnN ?_)
  refine T.has (Has.cons .hd Has.nil) ?_
  refine T.ret ?_
  have hM : windroselaw20_few_m a0 = x8 := by subst e8; subst e7; rw [windroselaw20_few_m]
  exact fin1L (v := .slice A8 x8.length p8) [c8] rfl rfl (List.Sublist.refl _) ⟨.slice A8 x8.length p8, c8, by first | rw [hM] | rfl, rfl, by rw [hM]; exact w8⟩

def windroselaw20_mentions_m (a0 : Int × Int) (a1 : Int) : Bool :=
  LR.seq (ident_Parts_m a0.2) (fun r10 => if r10.1 = a1 then true else ((decide (r10.2 = a1))))
def windroselaw20_PlanTouches_l2 (r26 : (List (Int × (Bool × Bool × Int × Int × Int))) × (List (Int × Int))) (r34 : ((List Int) × (List (Int × Int)) × (List (Int × Int))) × Int) (yl1 : Int × Int) : List Int → Bool → LR (LR (Bool) (Unit)) (Bool)
  | [], sl2 => .go sl2
  | yl2 :: ysl2, sl2 => if (!(windroselaw20_mentions_m yl1 yl2)) = true then (windroselaw20_PlanTouches_l2 r26 r34 yl1 ysl2 sl2) else (LR.seq (trait_Policy_m r26.1 yl1.2 yl2) (fun r82 => LR.seq (if (!r82.2) = true then true else (if ¬ (yl1.1 ∈ r34.1.1) then (if r82.1 = 1 then true else (if ¬ (yl1.1 ∈ r34.1.1) then (if r82.1 = 2 then (if ¬ (yl1 ∈ r34.1.2.2) then true else (if ¬ (yl1.1 ∈ r34.1.1) then (if r82.1 = 0 then ((decide (¬ (yl1 ∈ r34.1.2.1)))) else false) else false)) else (if ¬ (yl1.1 ∈ r34.1.1) then (if r82.1 = 0 then ((decide (¬ (yl1 ∈ r34.1.2.1)))) else false) else false)) else (if ¬ (yl1.1 ∈ r34.1.1) then (if r82.1 = 0 then ((decide (¬ (yl1 ∈ r34.1.2.1)))) else false) else false))) else (if ¬ (yl1.1 ∈ r34.1.1) then (if r82.1 = 2 then (if ¬ (yl1 ∈ r34.1.2.2) then true else (if ¬ (yl1.1 ∈ r34.1.1) then (if r82.1 = 0 then ((decide (¬ (yl1 ∈ r34.1.2.1)))) else false) else false)) else (if ¬ (yl1.1 ∈ r34.1.1) then (if r82.1 = 0 then ((decide (¬ (yl1 ∈ r34.1.2.1)))) else false) else false)) else (if ¬ (yl1.1 ∈ r34.1.1) then (if r82.1 = 0 then ((decide (¬ (yl1 ∈ r34.1.2.1)))) else false) else false))) : Bool) (fun sc3 => if sc3 = true then (.ret (.ret false)) else (windroselaw20_PlanTouches_l2 r26 r34 yl1 ysl2 true))))
def windroselaw20_PlanTouches_l1 (r26 : (List (Int × (Bool × Bool × Int × Int × Int))) × (List (Int × Int))) (r34 : ((List Int) × (List (Int × Int)) × (List (Int × Int))) × Int) : List (Int × Int) → Unit → LR (Bool) (Unit)
  | [], sl1 => .go ()
  | yl1 :: ysl1, sl1 => LR.on (windroselaw20_PlanTouches_l2 r26 r34 yl1 r34.1.1 false) (fun r => r) (fun ol2 => LR.seq (if ol2 = true then (if ((decide (yl1 ∈ r34.1.2.1)) != (decide (¬ (yl1.1 ∈ r34.1.1)))) = true then true else (if yl1 ∈ r34.1.2.2 then ((decide (¬ (yl1 ∈ r34.1.2.1)))) else false)) else (if ((decide (yl1 ∈ r34.1.2.1)) != false) = true then true else (if yl1 ∈ r34.1.2.2 then ((decide (¬ (yl1 ∈ r34.1.2.1)))) else false)) : Bool) (fun sc4 => if sc4 = true then (.ret false) else (windroselaw20_PlanTouches_l1 r26 r34 ysl1 ())))
def windroselaw20_PlanTouches_m (a0 : List (Int × (Bool × Bool × Int × Int × Int))) (a1 : List (Int × Int)) (a2 : List Int) : Bool :=
  if (!windroselaw20_wakes_m) = true then false else (LR.seq (windroselaw20_own_m a0 a1) (fun r26 => LR.seq (windroselaw20_few_m a2) (fun r33 => LR.seq (plan_Of_m r26.1 r26.2 r33) (fun r34 => if r34.2 ≠ 0 then ((decide ((((r34.1.2.1.length : Int) + (r34.1.2.2.length : Int)) : Int) = 0))) else (LR.on (windroselaw20_PlanTouches_l1 r26 r34 r26.2 ()) (fun r => r) (fun ol1 => (decide ((r34.1.2.2.length : Int) ≤ (r34.1.2.1.length : Int)))))))))
def windroselaw20_PlanCloses_1_m (q0 : List (Int × (Bool × Bool × Int × Int × Int))) (q1 : List (Int × Int)) (q2 : Int) (a0 : Int) : Bool :=
  LR.seq (plan_Why_m q0 q1 a0 q2) (fun r13 => if r13.2 = 0 then (if a0 = q2 then true else (if (0 : Int) < (r13.1.length : Int) then ((decide ((r13.1.getD ((((r13.1.length : Int) - 1)).toNat) (((0, 0) : Int × Int) : Int × Int)).1 = q2))) else false)) else false)
def windroselaw20_PlanCloses_l3 (r24 : (List (Int × (Bool × Bool × Int × Int × Int))) × (List (Int × Int))) (r28 : (List Int)) : List Int → Unit → LR (Bool) (Unit)
  | [], sl3 => .go ()
  | yl3 :: ysl3, sl3 => LR.seq (slices_ContainsFunc_int_m r28 ((fun z0 => windroselaw20_PlanCloses_1_m r24.1 r24.2 yl3 z0))) (fun r83 => if (!r83) = true then (.ret false) else (windroselaw20_PlanCloses_l3 r24 r28 ysl3 ()))
def windroselaw20_PlanCloses_l2 (r33 : ((List Int) × (List (Int × Int)) × (List (Int × Int))) × Int) : List Int → Unit → LR (Bool) (Unit)
  | [], sl2 => .go ()
  | yl2 :: ysl2, sl2 => if ¬ (yl2 ∈ r33.1.1) then (.ret false) else (windroselaw20_PlanCloses_l2 r33 ysl2 ())
def windroselaw20_PlanCloses_m (a0 : List (Int × (Bool × Bool × Int × Int × Int))) (a1 : List (Int × Int)) (a2 : List Int) : Bool :=
  if (!windroselaw20_wakes_m) = true then false else (LR.seq (windroselaw20_own_m a0 a1) (fun r24 => LR.seq (windroselaw20_few_m a2) (fun r28 => LR.seq (plan_Of_m r24.1 r24.2 r28) (fun r33 => if r33.2 ≠ 0 then ((decide ((r33.1.1.length : Int) = 0))) else (LR.seq (plan_Closed_m r24.1 r24.2 r33.1.1) (fun r47 => LR.seq (if r47.2 ≠ 0 then true else (if (!r47.1) = true then true else ((!(slices_IsSorted_int_m r33.1.1)))) : Bool) (fun sc1 => if sc1 = true then false else (LR.on (windroselaw20_PlanCloses_l2 r33 r28 ()) (fun r => r) (fun ol2 => LR.on (windroselaw20_PlanCloses_l3 r24 r28 r33.1.1 ()) (fun r => r) (fun ol3 => LR.seq (plan_Of_m r24.1 r24.2 []) (fun r90 => if r90.2 = 0 then (LR.seq (plan_Same_m r90.1 ((([], [], []) : (List Int) × (List (Int × Int)) × (List (Int × Int))))) (fun r98 => r98)) else false)))))))))))
end Go.SX

set_option linter.unusedVariables false
set_option linter.unusedSimpArgs false
namespace Go.SX
open Go
abbrev smL : List Rl := [(1, (true, true, 0, 1, 2)), (2, (true, false, 0, 0, 2)), (3, (false, false, 0, 2, 1))]
theorem small_1 : windroselaw20_small_m.1 = smL := by unfold windroselaw20_small_m; simp [LR.seq]
def pairI (r t : Int) : Int := (ident_Pair_m r t).1
abbrev smH : List Hd := [(5, pairI 1 4), (6, pairI 1 5), (7, pairI 2 5), (8, pairI 3 6)]
theorem small_2 : windroselaw20_small_m.2 = smH := by unfold windroselaw20_small_m; simp [LR.seq, windroselaw20_small_l1, pairI]; try decide
theorem sm_check : plan_Check_m smL smH = 0 := by kernel_rfl
theorem sm_dies : diesD smL smH [4] = [(4, []), (5, [(5, pairI 1 4)]), (6, [(5, pairI 1 4), (6, pairI 1 5)])] := by kernel_rfl
theorem sm_dies3 : diesD smL smH [3] = [(3, []), (8, [(8, pairI 3 6)])] := by kernel_rfl
end Go.SX

set_option linter.unusedVariables false
set_option linter.unusedSimpArgs false
namespace Go.SX
open Go
/-- What may be held of relations. -/
def HeldOk (l : List Rl) (h : Hd) : Prop := (trait_Find_m l (ident_Parts_m h.2).1).2 = true ∧ idxOk h.1 ∧ kindG h.2 = 3
def stepOk (held : List Hd) (k : Nat) (h : Hd) : Prop := (0 : Int) < (k : Int) → plan_compare_m (held.getD (((k : Int) - 1)).toNat (((0, 0) : Int × Int) : Int × Int)) h < 0
theorem check_l1 (l : List Rl) (held : List Hd) : ∀ (xs : List Hd) (k : Nat), (plan_Check_l1 l held xs k () = .go () ∧ ∀ (i : Nat) (h : Hd), xs[i]? = some h → HeldOk l h ∧ stepOk held (k + i) h) ∨ (plan_Check_l1 l held xs k () = .ret 300 ∧ ∃ (i : Nat) (h : Hd), xs[i]? = some h ∧ ¬ (HeldOk l h ∧ stepOk held (k + i) h))
  | [], k => .inl ⟨rfl, fun i h hi => by simp at hi⟩
  | y :: ys, k => by
    rw [plan_Check_l1, LR.seq_go, LR.seq_go]
    have hiff : (if (!(trait_Find_m l (ident_Parts_m y.2).1).2) = true then true else (if (!(plan_index_m y.1)) = true then true else (if ((kindG y.2) : Int) ≠ 3 then true else (if (0 : Int) < (k : Int) then ((decide ((0 : Int) ≤ (plan_compare_m (held.getD ((((k : Int) - 1)).toNat) (((0, 0) : Int × Int) : Int × Int)) y)))) else false)))) = false ↔ HeldOk l y ∧ stepOk held k y := by
      unfold HeldOk stepOk idxOk
      rw [or_f, or_f, or_f, and_f, Bool.not_eq_true', Bool.not_eq_true', decide_eq_false_iff_not, ← pindex_iff]
      constructor
      · rintro ⟨h1, h2, h3, h4⟩
        refine ⟨⟨by simpa using h1, by simpa using h2, by omega⟩, fun h5 => ?_⟩
        rcases h4 with h4 | h4
        · exact absurd h5 h4
        · omega
      · rintro ⟨⟨h1, h2, h3⟩, h4⟩
        refine ⟨by simpa using h1, by simpa using h2, by omega, ?_⟩
        by_cases h5 : (0 : Int) < (k : Int)
        · have := h4 h5; exact .inr (by omega)
        · exact .inl h5
    rw [LR.seq_go]
    cases hb : (if (!(trait_Find_m l (ident_Parts_m y.2).1).2) = true then true else (if (!(plan_index_m y.1)) = true then true else (if ((kindG y.2) : Int) ≠ 3 then true else (if (0 : Int) < (k : Int) then ((decide ((0 : Int) ≤ (plan_compare_m (held.getD ((((k : Int) - 1)).toNat) (((0, 0) : Int × Int) : Int × Int)) y)))) else false)))) with
    | true =>
      rw [if_pos rfl]
      refine .inr ⟨rfl, 0, y, rfl, fun h => ?_⟩
      have := hiff.2 (by simpa using h)
      rw [hb] at this; cases this
    | false =>
      rw [if_neg Bool.false_ne_true]
      have hy := hiff.1 hb
      rcases check_l1 l held ys (k + 1) with ⟨h1, h2⟩ | ⟨h1, i, h, h2, h3⟩
      · refine .inl ⟨h1, fun i h hi => ?_⟩
        cases i with
        | zero => simp at hi; subst hi; simpa using hy
        | succ i => have := h2 i h (by simpa using hi); rwa [show k + 1 + i = k + (i + 1) by omega] at this
      · exact .inr ⟨h1, i + 1, h, by simpa using h2, by rwa [show k + (i + 1) = k + 1 + i by omega]⟩
theorem pcheck_iff (l : List Rl) (held : List Hd) : (plan_Check_m l held = 0 ↔ RelOk l ∧ ∀ (i : Nat) (h : Hd), held[i]? = some h → HeldOk l h ∧ stepOk held i h) ∧ (RelOk l → plan_Check_m l held = 0 ∨ plan_Check_m l held = 300) ∧ (¬ RelOk l → plan_Check_m l held = 230) := by
  unfold plan_Check_m
  have ht := tcheck_iff l
  by_cases hr : RelOk l
  · rw [ht.1.2 hr, if_neg (fun k => k rfl)]
    rcases check_l1 l held held 0 with ⟨h1, h2⟩ | ⟨h1, i, h, h2, h3⟩
    · rw [h1, LR.on_go]
      exact ⟨⟨fun _ => ⟨hr, fun i h hi => by simpa using h2 i h hi⟩, fun _ => rfl⟩, fun _ => .inl rfl, fun k => absurd hr k⟩
    · rw [h1, LR.on_ret]
      exact ⟨⟨fun k => (by cases k), fun k => absurd (k.2 i h h2) (by simpa using h3)⟩, fun _ => .inr rfl, fun k => absurd hr k⟩
  · have h1 : trait_Check_m l ≠ 0 := fun k => hr (ht.1.1 k)
    rw [if_pos h1]
    exact ⟨⟨fun k => (by cases k), fun k => absurd k.1 hr⟩, fun k => absurd k hr, fun _ => rfl⟩
theorem pcheck_held {l : List Rl} {held : List Hd} (h : plan_Check_m l held = 0) {x : Hd} (hx : x ∈ held) : HeldOk l x := by
  obtain ⟨i, hi⟩ := List.mem_iff_getElem?.1 hx
  exact (((pcheck_iff l held).1.1 h).2 i x hi).1
/-- Whoever holds what kills dies too. -/
theorem dies_closed {l : List Rl} {held : List Hd} {first : List Int} (hh : held.length ≤ 100) (hf : first.length ≤ 100) {n : Int} (hn : n ∈ (diesD l held first).map Prod.fst) {h : Hd} (hm : h ∈ held) (hk : (n, 1) ∈ mentL l h) : h.1 ∈ (diesD l held first).map Prod.fst := by
  obtain ⟨met, h1, h2⟩ := dies_law (l := l) hh hf
  obtain ⟨d, hd, rfl⟩ := List.mem_map.1 hn
  obtain ⟨j, hj⟩ := List.mem_iff_getElem?.1 hd
  refine h2.cl j d (List.getElem?_eq_some_iff.1 hj).1 hj h ?_
  rw [kill_eq, List.mem_filter]
  exact ⟨hm, decide_eq_true hk⟩
theorem dies_first {l : List Rl} {held : List Hd} {first : List Int} (hh : held.length ≤ 100) (hf : first.length ≤ 100) {n : Int} (hn : n ∈ first) : n ∈ (diesD l held first).map Prod.fst := by
  obtain ⟨met, h1, h2⟩ := dies_law (l := l) hh hf
  exact h2.all n hn
/-- Nobody else dies. -/
theorem dies_least {l : List Rl} {held : List Hd} {first : List Int} (hh : held.length ≤ 100) (hf : first.length ≤ 100) {P : Int → Prop} (h0 : ∀ n ∈ first, P n) (hs : ∀ n h, P n → h ∈ held → (n, 1) ∈ mentL l h → P h.1) : ∀ n ∈ (diesD l held first).map Prod.fst, P n := by
  obtain ⟨met, h1, h2⟩ := dies_law (l := l) hh hf
  have key : ∀ (k n : Nat) (d : Dh), n < k → (diesD l held first)[n]? = some d → P d.1 := by
    intro k
    induction k with
    | zero => intro n d hn; omega
    | succ k ih =>
      intro n d hn hd
      rcases h2.par n d hd with ⟨h3, _⟩ | ⟨m, p, h, h3, _, h4, h5, rfl⟩
      · exact h0 _ h3
      · rw [kill_eq, List.mem_filter] at h5
        exact hs p.1 h (ih m p (by omega) h4) h5.1 (of_decide_eq_true h5.2)
  intro n hn
  obtain ⟨d, hd, rfl⟩ := List.mem_map.1 hn
  obtain ⟨j, hj⟩ := List.mem_iff_getElem?.1 hd
  exact key (j + 1) j d (by omega) hj
theorem dies_idx {l : List Rl} {held : List Hd} {first : List Int} (hc : plan_Check_m l held = 0) (hh : held.length ≤ 100) (hf : first.length ≤ 100) (hi : ∀ n ∈ first, idxOk n) : ∀ n ∈ (diesD l held first).map Prod.fst, idxOk n :=
  dies_least hh hf hi (fun n h _ hm _ => (pcheck_held hc hm).2.1)
theorem sortI_eq {a b : List Int} (ha : a.Nodup) (hb : b.Nodup) (h : ∀ x, x ∈ a ↔ x ∈ b) : sortI a = sortI b := by
  refine List.Perm.eq_of_pairwise (le := (· ≤ ·)) (fun x y _ _ h1 h2 => by omega) (sortI_sorted _) (sortI_sorted _) ?_
  exact ((sortI_perm a).trans ((List.perm_ext_iff_of_nodup ha hb).2 h)).trans (sortI_perm b).symm
theorem sortI_self {a : List Int} (h : a.Pairwise (· ≤ ·)) : sortI a = a :=
  List.Perm.eq_of_pairwise (le := (· ≤ ·)) (fun x y _ _ h1 h2 => by omega) (sortI_sorted _) h (sortI_perm a)
theorem mem_sortI {a : List Int} {x : Int} : x ∈ sortI a ↔ x ∈ a := (sortI_perm a).mem_iff
theorem dies_nodup {l : List Rl} {held : List Hd} {first : List Int} (hh : held.length ≤ 100) (hf : first.length ≤ 100) : ((diesD l held first).map Prod.fst).Nodup := by
  obtain ⟨met, h1, h2⟩ := dies_law (l := l) hh hf
  exact h1.nd
theorem sm_why : plan_Why_m smL smH 4 6 = ([(5, pairI 1 4), (6, pairI 1 5)], 0) := by kernel_rfl
theorem sm_why7 : plan_Why_m smL smH 4 7 = ([], 4) := by kernel_rfl
theorem wakes20_true : windroselaw20_wakes_m = true := by
  have e0 : windroselaw20_small_m = (smL, smH) := Prod.ext small_1 small_2
  have e1 : plan_Of_m smL smH [4] = (([4, 5, 6], smH.drop 2, smH.drop 3), 0) := by
    rw [of_eq sm_check (fun n hn => by rw [List.mem_singleton.1 hn]; unfold idxOk; omega), sm_dies]
    have e2 : sortI (([(4, []), (5, [(5, pairI 1 4)]), (6, [(5, pairI 1 4), (6, pairI 1 5)])] : List Dh).map Prod.fst) = [4, 5, 6] := sortI_self (by simp)
    rw [e2]
    have e3 : smH.filter (goneB smL ([(4, []), (5, [(5, pairI 1 4)]), (6, [(5, pairI 1 4), (6, pairI 1 5)])] : List Dh)) = smH.drop 2 := by kernel_rfl
    have e4 : smH.filter (refB smL ([(4, []), (5, [(5, pairI 1 4)]), (6, [(5, pairI 1 4), (6, pairI 1 5)])] : List Dh)) = smH.drop 3 := by kernel_rfl
    rw [e3, e4]
  have e5 : (plan_Of_m smL smH [3]).1.1 = [3, 8] ∧ (plan_Of_m smL smH [3]).2 = 0 := by
    rw [of_eq sm_check (fun n hn => by rw [List.mem_singleton.1 hn]; unfold idxOk; omega), sm_dies3]
    exact ⟨sortI_self (by simp), rfl⟩
  unfold windroselaw20_wakes_m
  simp only [LR.seq]
  rw [e0, e1, e5.1, e5.2, sm_why, sm_why7]
  simp
end Go.SX

set_option linter.unusedVariables false
set_option linter.unusedSimpArgs false
namespace Go.SX
open Go
/-- what is wrong with a pair that mentions one who dies -/
def wrongB (is : Bool) (p : Int) (A F G : Prop) [Decidable A] [Decidable F] [Decidable G] : Bool := !is || (!decide A && (decide (p = 1) || decide (p = 2) && !decide F || decide (p = 0) && !decide G))
end Go.SX

set_option linter.unusedVariables false
set_option linter.unusedSimpArgs false
namespace Go.SX
open Go
theorem same20 (a b : (List Int) × (List Hd) × (List Hd)) : plan_Same_m a b = decide (a = b) := by
  obtain ⟨a1, a2, a3⟩ := a
  obtain ⟨b1, b2, b3⟩ := b
  unfold plan_Same_m
  simp only [Prod.mk.injEq]
  by_cases h1 : a1 = b1
  · rw [if_pos h1]
    by_cases h2 : a2 = b2
    · rw [if_pos h2]; simp [h1, h2]
    · rw [if_neg h2]; simp [h2]
  · rw [if_neg h1]; simp [h1]
end Go.SX

set_option linter.unusedVariables false
set_option linter.unusedSimpArgs false
namespace Go.SX
open Go
attribute [local semireducible] T TL
section
variable {fr : Fr} {x : Cx} {Q : Post} {σ : Env} {H : Heap} {L : Own} {ds : List Nat} {ol rest : List Oper}
variable {d : Nat} {ty : TypeId} {p : String} {af : Array Edge} {g : Option (Nat × Bool)}
/-- append(nil, make([]T, n)...): a new row; what lies in its first 0 places. -/
theorem R.appZ {α : Type} {E : ER α} {t tn e : TypeId} {bytes : Nat} {S X : Operand} {n : Nat} {kn : IntKind} (hty : TyE fr.P t e E bytes) (htn : fr.P.underlying tn = some (.int kn)) (hw : wan fr.N ol σ d g = true)
    (hs : ev σ S = .slice none 0 0) (hx : ev σ X = .int kn (n : Nat)) (h0 : 0 < n) (h63 : n ≤ 4611686018427387904) (hby : n * bytes ≤ 140737488355328)
    (h : ∀ b cap c, n ≤ cap → cap ≤ maxLen → OwnS E e H (.slice (some ⟨b, 0, none⟩) 0 cap) [] c → TL fr x ol rest Q (upd σ d (.slice (some ⟨b, 0, none⟩) n cap)) H (c :: L) ds) :
    TL fr x ol (⟨some d, .call { callee := .builtin .append, args := #[S, X], argTypes := #[t, tn] }, ty, p, af, g⟩ :: rest) Q σ H L ds := by
  obtain ⟨ht, ⟨i, z, hi, hz, hsize, hbytes, hzs⟩, hpos⟩ := hty
  refine TL.value hw rfl (fun w hst => ?_)
  have hex : (execOp (ev σ) ⟨some d, .call { callee := .builtin .append, args := #[S, X], argTypes := #[t, tn] }, ty, p, af, g⟩) = (do pure (Next.value (← Builtin.append_ #[t, tn] ty #[.slice none 0 0, .int kn (n : Nat)]))) := by
    simp [execOp, resolve, invoke, builtin, hs, hx]
  rw [hex]
  have hrun := Lib.run_append_nil_zeros (P := fr.P) w t tn ty e i z kn kn ht htn hi hz n h0 (by omega) (by omega) (by rw [hbytes]; omega)
  have hge := grownCap_ge w n 0 e
  have hcm := grownCap_le_maxLen w n 0 e (by unfold maxLen; omega)
  refine ⟨_, _, H, [(w.heap.size, .cells (Builtin.zeroCells z.cells n ++ Builtin.zeroCells z.cells (grownCap w n 0 e - n)) e)] :: L, run_value hrun, ?_, h w.heap.size (grownCap w n 0 e) _ hge hcm ?_⟩
  · have := (hst.drew).alloc (.cells (Builtin.zeroCells z.cells n ++ Builtin.zeroCells z.cells (grownCap w n 0 e - n)) e)
    simpa using this
  · refine .inr ⟨w.heap.size, grownCap w n 0 e, _, rfl, rfl, Nat.zero_le _, hcm, ?_, fun i x hx => by simp at hx⟩
    simp only [Array.size_append, zeroCells_size, hzs, ← Nat.add_mul]
    refine Nat.le_of_eq ?_
    congr 1
    omega
end
end Go.SX

set_option linter.unusedVariables false
set_option linter.unusedSimpArgs false
namespace Go.SX
open Go Go.Proofs

def slices_Grow_int_m (a1 : Int) : (List Int) :=
  LR.seq (() : Unit) (fun sc1 => if (0 : Int) < (a1 - (0 - 0)) then [] else [])
set_option maxHeartbeats 3200000 in
theorem slices_Grow_int_c (H : Heap)  (a1 : Int) (h0 : 0 ≤ a1) (h1 : a1 ≤ 2000000) : Fc Tryd.prog (fnv 104) [.slice none 0 0, .int .i64 a1] H [] (fun v' H' L' => ∃ u0_0 c0_0, v' = u0_0 ∧ L' = [c0_0] ∧ OwnS (intE .i64) 3 H' u0_0 (slices_Grow_int_m a1) c0_0) := by
  refine Fc.of_body (N := 27) Tryd.func104 rfl (by kernel_rfl) rfl rfl ?_
  intro w0
  refine T.seq ?_
  refine T.region ?_
  refine R.asE rfl (by conv => lhs; whnf) ?_
  refine TL.nil (Post.thnN ?_)
  refine T.seq ?_
  refine T.seq ?_
  refine T.region ?_
  refine R.mvE rfl (by conv => lhs; whnf) ?_
  refine R.lss rfl rfl rfl ?_
  refine TL.nil (Post.thnN ?_)
  refine T.cutK (ι := Unit) (fun _ H' L' ds' => Has L' [] ∧ (() : Unit) = ()) (fun _ => [(0, .slice none 0 0), (1, .int .i64 a1)]) ?_ ?_
  · refine T.set 6 (.bool false) (congrArg Value.bool (decide_eq_false (by omega))) ?_
    refine T.condN rfl ?_
    refine T.skip (Post.thnN ?_)
    exact ⟨(), HLe.refl _, ⟨Has.nil, (by rfl)⟩, rfl, rfl, trivial⟩
  · intro _ σ_c1 H_c1 L_c1 ds_c1 s_c1 hI_c1
    obtain ⟨hLc1, hTc1⟩ := hI_c1
    refine T.has hLc1 ?_
    refine T.seq ?_
    refine T.seq ?_
    refine T.region ?_
    refine R.mvE rfl (by conv => lhs; whnf) ?_
    refine R.mvE rfl (by conv => lhs; whnf) ?_
    refine R.cap Tryd.underlying23 rfl rfl ?_
    refine R.mvE rfl (by conv => lhs; whnf) ?_
    refine R.len Tryd.underlying23 rfl rfl ?_
    refine R.subI rfl rfl rfl (by omega) ?_
    refine R.subI rfl rfl rfl (by omega) ?_
    refine R.asE rfl (by conv => lhs; whnf) ?_
    refine TL.nil (Post.thnN ?_)
    refine T.seq ?_
    refine T.region ?_
    refine R.mvE rfl (by conv => lhs; whnf) ?_
    refine R.gtr rfl rfl rfl ?_
    refine TL.nil (Post.thnN ?_)
    refine T.condD rfl (fun c16 => ?_) (fun c16 => ?_)
    · refine T.set 16 (.bool true) (congrArg Value.bool (decide_eq_true c16)) ?_
      have c16 : (0 : Int) < a1 - (0 - 0) := c16
      refine T.region ?_
      refine R.mvE rfl (by conv => lhs; whnf) ?_
      refine R.mvE rfl (by conv => lhs; whnf) ?_
      refine R.cap Tryd.underlying23 rfl rfl ?_
      refine R.sH Tryd.underlying23 Tryd.sizeOf3 rfl rfl rfl (by omega) (by omega) ?_
      refine TL.set 20 (.slice none 0 0) rfl ?_
      refine R.mvE rfl (by conv => lhs; whnf) ?_
      refine TL.set 21 (.int .i64 ((((a1 - (0 - 0))).toNat : Nat) : Int)) (congrArg (Value.int .i64) (by omega)) ?_
      refine R.appZ (E := (intE .i64)) (n := ((a1 - (0 - 0))).toNat) Tryd_ty23 Tryd.underlying3 rfl rfl rfl (by omega) (by omega) (by omega) ?_
      intro b22 p22 c22 m22 n22 w22
      refine R.mvE rfl (by conv => lhs; whnf) ?_
      refine R.len Tryd.underlying23 rfl rfl ?_
      refine R.sH Tryd.underlying23 Tryd.sizeOf3 rfl rfl rfl (by omega) (by omega) ?_
      refine TL.set 25 (.slice (some ⟨b22, 0, none⟩) 0 p22) (slc_take0 (A := some ⟨b22, 0, none⟩) (n := ((a1 - (0 - 0))).toNat) (cap := p22) (sz := 1) (i := 0)) ?_
      refine R.asE rfl (by conv => lhs; whnf) ?_
      refine TL.nil (Post.thnN ?_)
      refine T.seq ?_
      refine T.region ?_
      refine R.mvE rfl (by conv => lhs; whnf) ?_
      refine R.asE rfl (by conv => lhs; whnf) ?_
      refine TL.nil (Post.thnN ?_)
      refine T.has (Has.cons .hd Has.nil) ?_
      refine T.ret ?_
      have hM : slices_Grow_int_m a1 = [] := by rw [slices_Grow_int_m, hTc1, LR.seq_go, if_pos c16]
      exact fin1L (v := .slice (some ⟨b22, 0, none⟩) 0 p22) [c22] rfl rfl (List.Sublist.refl _) ⟨.slice (some ⟨b22, 0, none⟩) 0 p22, c22, by first | rw [hM] | rfl, rfl, by rw [hM]; exact w22⟩
    · refine T.set 16 (.bool false) (congrArg Value.bool (decide_eq_false c16)) ?_
      have c16 : ¬ ((0 : Int) < a1 - (0 - 0)) := c16
      refine T.skip (Post.thnN ?_)
      refine T.seq ?_
      refine T.region ?_
      refine R.mvE rfl (by conv => lhs; whnf) ?_
      refine R.asE rfl (by conv => lhs; whnf) ?_
      refine TL.nil (Post.thnN ?_)
      refine T.has (Has.none Has.nil) ?_
      refine T.ret ?_
      have hM : slices_Grow_int_m a1 = [] := by rw [slices_Grow_int_m, hTc1, LR.seq_go, if_neg c16]
      exact fin1L (v := .slice none 0 0) [[]] rfl rfl (List.Sublist.refl _) ⟨.slice none 0 0, [], by first | rw [hM] | rfl, rfl, by rw [hM]; exact OwnS.nil⟩

theorem grow_nil (n : Int) : slices_Grow_int_m n = [] := by
  unfold slices_Grow_int_m
  simp [LR.seq]
end Go.SX

set_option linter.unusedVariables false
set_option linter.unusedSimpArgs false
namespace Go.SX
open Go Go.Proofs

def slices_Concat_int_l2  : List (List Int) → ((List Int)) → (List Int)
  | [], sl2 => sl2
  | yl2 :: ysl2, sl2 => slices_Concat_int_l2 ysl2 ((sl2 ++ yl2))
def slices_Concat_int_l1  : List (List Int) → Int → Int
  | [], sl1 => sl1
  | yl1 :: ysl1, sl1 => slices_Concat_int_l1 ysl1 ((sl1 + (yl1.length : Int)))
def slices_Concat_int_m (a0 : List (List Int)) : (List Int) :=
  LR.seq (slices_Concat_int_l1 a0 0) (fun ol1 => LR.seq (slices_Grow_int_m ol1) (fun r24 => LR.seq (slices_Concat_int_l2 a0 r24) (fun ol2 => ol2)))
set_option maxHeartbeats 3200000 in
theorem slices_Concat_int_c (H : Heap) (va0 : Value) (a0 : List (List Int)) (ha0 : RdS (slE (intE .i64)) H va0 a0) (hn : a0.length ≤ 10) (hrows : ∀ x ∈ a0, x.length ≤ 1000) : Fc Tryd.prog (fnv 55) [va0] H [] (fun v' H' L' => ∃ u0_0 c0_0, v' = u0_0 ∧ L' = [c0_0] ∧ OwnS (intE .i64) 3 H' u0_0 (slices_Concat_int_m a0) c0_0) := by
  refine Fc.of_body (N := 36) Tryd.func55 rfl (by kernel_rfl) rfl rfl ?_
  intro w0
  obtain ⟨Aa0, ca0, rfl, hca0, hda0, ha0⟩ := ha0.shape
  refine T.seq ?_
  refine T.region ?_
  refine R.asE rfl (by conv => lhs; whnf) ?_
  refine TL.nil (Post.thnN ?_)
  refine T.seq ?_
  refine T.region ?_
  refine R.asE rfl (by conv => lhs; whnf) ?_
  refine TL.nil (Post.thnN ?_)
  refine T.seq ?_
  refine T.seq ?_
  refine T.region ?_
  refine R.mvE rfl (by conv => lhs; whnf) ?_
  refine R.len Tryd.underlying155 rfl rfl ?_
  refine R.mvE rfl (by conv => lhs; whnf) ?_
  refine TL.nil (Post.thnN ?_)
  refine T.block ?_
  refine T.loop (ι := Nat × Int) (fun ⟨kl1, n3l1⟩ H' L' ds' => kl1 ≤ a0.length ∧ Has L' [] ∧ 0 ≤ n3l1 ∧ n3l1 ≤ 1000 * (kl1 : Int) ∧ slices_Concat_int_l1 (a0.drop kl1) n3l1 = slices_Concat_int_l1 a0 0) (fun ⟨kl1, n3l1⟩ => [(11, .int .i64 (kl1 : Int)), (0, .slice Aa0 a0.length ca0), (3, .int .i64 n3l1), (9, .slice Aa0 a0.length ca0), (10, .int .i64 (a0.length : Int))]) (fun ⟨kl1, n3l1⟩ => a0.length - kl1) (0, 0) ?_ ?_ ?_
  · exact ⟨(by omega), Has.nil, (by first | omega | (simp; done) | (simp; omega) | (simp at *; omega)), (by first | omega | (simp; done) | (simp; omega) | (simp at *; omega)), (by rfl)⟩
  · exact ⟨rfl, rfl, rfl, rfl, rfl, trivial⟩
  · intro ⟨kl1, n3l1⟩ σ_l1 H_l1 L_l1 ds_l1 s_l1 hI_l1
    obtain ⟨hkl1, hI_l1⟩ := hI_l1
    obtain ⟨hLl1, hBl1_0, hBl1_1, hQl1⟩ := hI_l1
    refine T.has hLl1 ?_
    refine T.seq ?_
    refine T.region ?_
    refine R.lss rfl rfl rfl ?_
    refine TL.nil (Post.thnN ?_)
    refine T.seq ?_
    refine T.condD rfl (fun c12 => ?_) (fun c12 => ?_)
    · have hltl1 : kl1 < a0.length := by omega
      obtain ⟨yl1, hyl1⟩ := getk (xs := a0) (k := kl1) (by omega)
      have hrow := hrows yl1 (List.mem_of_getElem? hyl1)
      refine T.skip (Post.thnN ?_)
      refine T.seq ?_
      refine T.block ?_
      refine T.seq ?_
      refine T.region ?_
      obtain ⟨b13, o13, i13, k13⟩ := RdS.elem (ha0.mono s_l1) hyl1
      obtain ⟨l13, g13, k13⟩ := k13
      obtain ⟨z13_0, rfl, r13_0⟩ := g13
      obtain ⟨A13_0, p13_0, rfl, m13_0, n13_0, r13_0⟩ := r13_0.shape
      refine R.ixp Tryd.underlying155 Tryd.sizeOf23 rfl rfl rfl (by omega) i13 ?_
      refine R.ldC Tryd.isAgg23 rfl rfl (k13 0 _ rfl) ?_
      refine R.asE rfl (by conv => lhs; whnf) ?_
      refine TL.nil (Post.thnN ?_)
      refine T.seq ?_
      refine T.region ?_
      refine R.mvE rfl (by conv => lhs; whnf) ?_
      refine R.mvE rfl (by conv => lhs; whnf) ?_
      refine R.len Tryd.underlying23 rfl rfl ?_
      refine R.addI rfl rfl rfl (by omega) ?_
      refine R.asE rfl (by conv => lhs; whnf) ?_
      refine TL.nil (Post.thnN ?_)
      refine T.seq ?_
      refine T.region ?_
      refine R.mvE rfl (by conv => lhs; whnf) ?_
      refine R.lss rfl rfl rfl ?_
      refine TL.nil (Post.thnN ?_)
      refine T.set 20 (.bool false) (congrArg Value.bool (decide_eq_false (by omega))) ?_
      refine T.condN rfl ?_
      refine T.skip (Post.blkN ?_)
      refine id (Post.thnN ?_)
      refine T.region ?_
      refine R.addI rfl rfl rfl (by omega) ?_
      refine R.mvE rfl (by conv => lhs; whnf) ?_
      refine TL.nil (Post.thnN ?_)
      exact ⟨(kl1 + 1, (n3l1 + (yl1.length : Int))), s_l1, ⟨(by omega), Has.nil, (by first | omega | (simp; done) | (simp; omega) | (simp at *; omega)), (by first | omega | (simp; done) | (simp; omega) | (simp at *; omega)), (by rw [← hQl1, drop_cons hyl1, slices_Concat_int_l1])⟩, by show a0.length - (kl1 + 1) < a0.length - kl1; omega, rfl, rfl, rfl, rfl, rfl, trivial⟩
    · refine T.exit (Post.thnE (Post.thnE (Post.blkX ?_)))
      have hEl1 : slices_Concat_int_l1 a0 0 = n3l1 := (hQl1.symm.trans (by rw [show kl1 = a0.length by omega, List.drop_length, slices_Concat_int_l1]))
      refine id (Post.thnN ?_)
      refine T.seq ?_
      refine T.region ?_
      refine R.mvE rfl (by conv => lhs; whnf) ?_
      obtain ⟨r24, er24⟩ : ∃ r, r = (slices_Grow_int_m n3l1) := ⟨_, rfl⟩
      refine TL.call [] rfl rfl rfl (slices_Grow_int_c _ (n3l1) (by first | omega | (simp; done) | (simp; omega) | (simp at *; omega)) (by first | omega | (simp; done) | (simp; omega) | (simp at *; omega))) ?_
      intro v24 H24 L24 s24 q24
      rw [← er24] at q24
      obtain ⟨u24_0_0, c24_0_0, rfl, rfl, w24_0_0⟩ := q24
      obtain ⟨A24_0_0, p24_0_0, rfl, m24_0_0, n24_0_0⟩ := OwnS.shape w24_0_0
      have tg24 : r24 = [] := by rw [er24]; exact grow_nil _
      refine R.asE rfl (by conv => lhs; whnf) ?_
      refine TL.nil (Post.thnN ?_)
      refine T.seq ?_
      refine T.seq ?_
      refine T.region ?_
      refine R.mvE rfl (by conv => lhs; whnf) ?_
      refine R.len Tryd.underlying155 rfl rfl ?_
      refine R.mvE rfl (by conv => lhs; whnf) ?_
      refine TL.nil (Post.thnN ?_)
      refine T.block ?_
      refine T.loop (ι := Nat × Value × (List Int) × Chunk) (fun ⟨kl2, v6l2, x6l2, c6l2⟩ H' L' ds' => kl2 ≤ a0.length ∧ Has L' [c6l2] ∧ OwnS (intE .i64) 3 H' v6l2 x6l2 c6l2 ∧ x6l2.length ≤ 1000 * kl2 ∧ slices_Concat_int_l2 (a0.drop kl2) x6l2 = slices_Concat_int_l2 a0 r24) (fun ⟨kl2, v6l2, x6l2, c6l2⟩ => [(27, .int .i64 (kl2 : Int)), (6, v6l2), (25, .slice Aa0 a0.length ca0), (26, .int .i64 (a0.length : Int))]) (fun ⟨kl2, v6l2, x6l2, c6l2⟩ => a0.length - kl2) (0, .slice A24_0_0 r24.length p24_0_0, r24, c24_0_0) ?_ ?_ ?_
      · exact ⟨(by omega), (Has.cons .hd Has.nil), w24_0_0, (by first | omega | (simp; done) | (simp; omega) | (simp at *; omega)), (by rfl)⟩
      · exact ⟨rfl, rfl, rfl, rfl, trivial⟩
      · intro ⟨kl2, v6l2, x6l2, c6l2⟩ σ_l2 H_l2 L_l2 ds_l2 s_l2 hI_l2
        obtain ⟨hkl2, hI_l2⟩ := hI_l2
        obtain ⟨hLl2, w6l2, hBl2_0, hQl2⟩ := hI_l2
        obtain ⟨A6l2, p6l2, rfl, m6l2, n6l2_⟩ := OwnS.shape w6l2
        refine T.has hLl2 ?_
        refine T.seq ?_
        refine T.region ?_
        refine R.lss rfl rfl rfl ?_
        refine TL.nil (Post.thnN ?_)
        refine T.seq ?_
        refine T.condD rfl (fun c28 => ?_) (fun c28 => ?_)
        · have hltl2 : kl2 < a0.length := by omega
          obtain ⟨yl2, hyl2⟩ := getk (xs := a0) (k := kl2) (by omega)
          have hrow := hrows yl2 (List.mem_of_getElem? hyl2)
          refine T.skip (Post.thnN ?_)
          refine T.seq ?_
          refine T.block ?_
          refine T.seq ?_
          refine T.region ?_
          obtain ⟨b29, o29, i29, k29⟩ := RdS.elem (ha0.mono (s_l1.trans (s24.trans s_l2))) hyl2
          obtain ⟨l29, g29, k29⟩ := k29
          obtain ⟨z29_0, rfl, r29_0⟩ := g29
          obtain ⟨A29_0, p29_0, rfl, m29_0, n29_0, r29_0⟩ := r29_0.shape
          refine R.ixp Tryd.underlying155 Tryd.sizeOf23 rfl rfl rfl (by omega) i29 ?_
          refine R.ldC Tryd.isAgg23 rfl rfl (k29 0 _ rfl) ?_
          refine R.asE rfl (by conv => lhs; whnf) ?_
          refine TL.nil (Post.thnN ?_)
          refine T.region ?_
          refine R.mvE rfl (by conv => lhs; whnf) ?_
          refine R.mvE rfl (by conv => lhs; whnf) ?_
          obtain ⟨k33, y33, r33⟩ := Src.rdA r29_0
          refine R.app (E := (intE .i64)) (e := 3) (xs := x6l2) (ys := yl2) Tryd_ty23 rfl rfl rfl w6l2 .hd (r33 _) y33 (by (try simp only [List.length_append, List.length_cons, List.length_nil, List.length_replicate, List.length_take, List.length_drop]); omega) (by (try simp only [List.length_append, List.length_cons, List.length_nil, List.length_replicate, List.length_take, List.length_drop]); omega) ?_
          intro v33 c33 w33
          obtain ⟨A33, p33, rfl, m33, n33⟩ := OwnS.shape w33
          refine R.asE rfl (by conv => lhs; whnf) ?_
          refine TL.nil (Post.blkN ?_)
          refine id (Post.thnN ?_)
          refine T.region ?_
          refine R.addI rfl rfl rfl (by omega) ?_
          refine R.mvE rfl (by conv => lhs; whnf) ?_
          refine TL.nil (Post.thnN ?_)
          exact ⟨(kl2 + 1, .slice A33 (x6l2 ++ yl2).length p33, (x6l2 ++ yl2), c33), s_l2, ⟨(by omega), (Has.cons .hd Has.nil), w33, (by first | omega | (simp; done) | (simp; omega) | (simp at *; omega)), (by rw [← hQl2, drop_cons hyl2, slices_Concat_int_l2])⟩, by show a0.length - (kl2 + 1) < a0.length - kl2; omega, rfl, rfl, rfl, rfl, trivial⟩
        · refine T.exit (Post.thnE (Post.thnE (Post.blkX ?_)))
          have hEl2 : slices_Concat_int_l2 a0 r24 = x6l2 := (hQl2.symm.trans (by rw [show kl2 = a0.length by omega, List.drop_length, slices_Concat_int_l2]))
          refine id (Post.thnN ?_)
          refine T.seq ?_
          refine T.region ?_
          refine R.mvE rfl (by conv => lhs; whnf) ?_
          refine R.asE rfl (by conv => lhs; whnf) ?_
          refine TL.nil (Post.thnN ?_)
          refine T.has (Has.cons .hd Has.nil) ?_
          refine T.ret ?_
          have hM : slices_Concat_int_m a0 = x6l2 := by subst er24; rw [slices_Concat_int_m, hEl1, LR.seq_go, LR.seq_go, hEl2, LR.seq_go]
          exact fin1L (v := .slice A6l2 x6l2.length p6l2) [c6l2] rfl rfl (List.Sublist.refl _) ⟨.slice A6l2 x6l2.length p6l2, c6l2, by first | rw [hM] | rfl, rfl, by rw [hM]; exact w6l2⟩

theorem concat_l2 : ∀ (l : List (List Int)) (a : List Int), slices_Concat_int_l2 l a = a ++ l.flatten
  | [], a => by simp [slices_Concat_int_l2]
  | y :: ys, a => by rw [slices_Concat_int_l2, concat_l2 ys]; simp
theorem concat_eq (l : List (List Int)) : slices_Concat_int_m l = l.flatten := by
  unfold slices_Concat_int_m
  rw [LR.seq_go, LR.seq_go, LR.seq_go, grow_nil, concat_l2, List.nil_append]
theorem concat_len (l : List (List Int)) (r : List Int) (e : r = slices_Concat_int_m l) : r.length = (l.map List.length).sum := by
  rw [e, concat_eq, List.length_flatten]
end Go.SX

set_option linter.unusedVariables false
set_option linter.unusedSimpArgs false
namespace Go.SX
open Go Go.Proofs
def windroselaw20_PlanMore_l2 (r46 : ((List Int) × (List (Int × Int)) × (List (Int × Int))) × Int) : List Int → Unit → LR (Bool) (Unit)
  | [], sl2 => .go ()
  | yl2 :: ysl2, sl2 => if ¬ (yl2 ∈ r46.1.1) then (.ret false) else (windroselaw20_PlanMore_l2 r46 ysl2 ())
def windroselaw20_PlanMore_m (a0 : List (Int × (Bool × Bool × Int × Int × Int))) (a1 : List (Int × Int)) (a2 : (List Int) × (List Int)) : Bool :=
  if (!windroselaw20_wakes_m) = true then false else (LR.seq (windroselaw20_own_m a0 a1) (fun r23 => LR.seq (windroselaw20_few_m a2.1) (fun r28 => LR.seq (windroselaw20_few_m a2.2) (fun r31 => LR.seq (plan_Of_m r23.1 r23.2 r28) (fun r36 => LR.seq (slices_Concat_int_m ([r28, r31])) (fun r45 => LR.seq (plan_Of_m r23.1 r23.2 r45) (fun r46 => LR.seq (if r36.2 ≠ 0 then true else ((decide (r46.2 ≠ 0))) : Bool) (fun sc1 => if sc1 = true then (if r36.2 = 0 then true else ((decide (r46.2 = r36.2)))) else (LR.on (windroselaw20_PlanMore_l2 r46 r36.1.1 ()) (fun r => r) (fun ol2 => LR.seq (plan_Of_m r23.1 r23.2 r46.1.1) (fun r80 => if r80.2 = 0 then ((plan_Same_m r80.1 r46.1)) else false)))))))))))
set_option maxHeartbeats 3200000 in
theorem windroselaw20_PlanMore_c (H : Heap) {tG1 : TypeId} (hG1 : H 1 = some (.cells #[.int .i64 1, .bool true, .bool true, .int .i64 0, .int .i64 1, .int .i64 2, .int .i64 2, .bool true, .bool false, .int .i64 0, .int .i64 0, .int .i64 2] tG1)) (va0 : Value) (a0 : List (Int × (Bool × Bool × Int × Int × Int))) (ha0 : RdS relationE H va0 a0) (va1 : Value) (a1 : List (Int × Int)) (ha1 : RdS heldE H va1 a1) (a2 : (List Int) × (List Int)) (va2_0 : Value) (ha2_0 : RdS (intE .i64) H va2_0 a2.1) (va2_1 : Value) (ha2_1 : RdS (intE .i64) H va2_1 a2.2) : Fv Tryd.prog (fnv 12) [va0, va1, .agg #[va2_0, va2_1]] H (.bool (windroselaw20_PlanMore_m a0 a1 a2)) := by
  refine Fc.of_body (N := 90) Tryd.func12 rfl (by kernel_rfl) rfl rfl ?_
  intro w0
  obtain ⟨Aa0, ca0, rfl, hca0, hda0, ha0⟩ := ha0.shape
  obtain ⟨Aa1, ca1, rfl, hca1, hda1, ha1⟩ := ha1.shape
  obtain ⟨Aa2_0, ca2_0, rfl, hca2_0, hda2_0, ha2_0⟩ := ha2_0.shape
  obtain ⟨Aa2_1, ca2_1, rfl, hca2_1, hda2_1, ha2_1⟩ := ha2_1.shape
  refine T.seq ?_
  refine T.region ?_
  refine R.box rfl (by conv => lhs; whnf) ?_
  intro b5
  refine R.asE rfl (by conv => lhs; whnf) ?_
  refine TL.shut .hd ?_
  intro Hb5_1 sb5_1 qb5_1
  have hb5_1 : Hb5_1 b5 = some (.cells #[.slice Aa2_0 a2.1.length ca2_0, .slice Aa2_1 a2.2.length ca2_1] 96) := shut1 qb5_1
  refine TL.nil (Post.thnN ?_)
  refine T.seq ?_
  refine T.seq ?_
  refine T.region ?_
  refine R.callv rfl rfl rfl (windroselaw20_wakes_c _ (sb5_1 _ _ hG1)) ?_
  refine R.not rfl rfl ?_
  refine TL.nil (Post.thnN ?_)
  refine T.cond rfl (fun c19 => ?_) (fun c19 => ?_)
  · refine T.set 19 (.bool true) (congrArg Value.bool c19) ?_
    refine T.seq ?_
    refine T.region ?_
    refine R.asE rfl (by conv => lhs; whnf) ?_
    refine TL.nil (Post.thnN ?_)
    refine T.has Has.nil ?_
    refine T.ret (Post.thnR ?_)
    have hM : windroselaw20_PlanMore_m a0 a1 a2 = false := by rw [windroselaw20_PlanMore_m, if_t c19]
    exact fin1L (v := .bool false) [] rfl rfl (List.Sublist.refl _) ⟨rfl, by first | rw [hM] | rfl⟩
  · refine T.set 19 (.bool false) (congrArg Value.bool c19) ?_
    refine T.skip (Post.thnN ?_)
    refine T.seq ?_
    refine T.region ?_
    refine R.mvE rfl (by conv => lhs; whnf) ?_
    refine R.mvE rfl (by conv => lhs; whnf) ?_
    obtain ⟨r23, er23⟩ : ∃ r, r = (windroselaw20_own_m a0 a1) := ⟨_, rfl⟩
    refine TL.call [] rfl rfl rfl (windroselaw20_own_c _ _ a0 (ha0.mono sb5_1) _ a1 (ha1.mono sb5_1)) ?_
    intro v23 H23 L23 s23 q23
    rw [← er23] at q23
    obtain ⟨u23_0_0, u23_1_0, c23_0_0, c23_1_0, rfl, rfl, w23_0_0, w23_1_0⟩ := q23
    obtain ⟨A23_0_0, p23_0_0, rfl, m23_0_0, n23_0_0⟩ := OwnS.shape w23_0_0
    obtain ⟨A23_1_0, p23_1_0, rfl, m23_1_0, n23_1_0⟩ := OwnS.shape w23_1_0
    have tq23 : r23.1.length ≤ 12 ∧ r23.2.length ≤ 16 := by rw [er23]; simp only [windroselaw20_own_m, List.length_take]; omega
    refine R.mvE rfl (by conv => lhs; whnf) ?_
    refine R.ext rfl rfl rfl ?_
    refine R.ext rfl rfl rfl ?_
    refine R.asE rfl (by conv => lhs; whnf) ?_
    refine R.asE rfl (by conv => lhs; whnf) ?_
    refine TL.nil (Post.thnN ?_)
    refine T.seq ?_
    refine T.draw Tryd_mixed (by kernel_rfl) ?_
    refine Plan.v 0 [1, 2, 3, 4, 5, 6, 7] (by kernel_rfl) (by kernel_rfl) (by kernel_rfl) (by kernel_rfl) rfl (fun _ _ h_ => R.ixA Tryd.underlying96 Tryd.sizeOf23 rfl rfl rfl (by decide) (by decide) (TL.nil h_)) ?_
    refine Plan.v 1 [2, 3, 4, 5, 6, 7] (by kernel_rfl) (by kernel_rfl) (by kernel_rfl) (by kernel_rfl) rfl (fun _ _ h_ => R.ldH Tryd.isAgg23 rfl rfl (s23 _ _ hb5_1) rfl (TL.nil h_)) ?_
    refine Plan.v 3 [2, 4, 5, 6, 7] (by kernel_rfl) (by kernel_rfl) (by kernel_rfl) (by kernel_rfl) rfl (fun _ _ h_ => R.ixA Tryd.underlying96 Tryd.sizeOf23 rfl rfl rfl (by decide) (by decide) (TL.nil h_)) ?_
    refine Plan.v 4 [2, 5, 6, 7] (by kernel_rfl) (by kernel_rfl) (by kernel_rfl) (by kernel_rfl) rfl (fun _ _ h_ => R.ldH Tryd.isAgg23 rfl rfl (s23 _ _ hb5_1) rfl (TL.nil h_)) ?_
    refine Plan.s1 2 [5, 6, 7] (by kernel_rfl) (by kernel_rfl) rfl ?_
    obtain ⟨r28, er28⟩ : ∃ r, r = (windroselaw20_few_m a2.1) := ⟨_, rfl⟩
    refine TL.call [] rfl rfl rfl (windroselaw20_few_c _ _ a2.1 (ha2_0.mono (sb5_1.trans s23))) ?_
    intro v28 H28 L28 s28 q28
    rw [← er28] at q28
    obtain ⟨u28_0_0, c28_0_0, rfl, rfl, w28_0_0⟩ := q28
    obtain ⟨A28_0_0, p28_0_0, rfl, m28_0_0, n28_0_0⟩ := OwnS.shape w28_0_0
    have tq28 : r28.length ≤ 6 := by rw [er28]; simp only [windroselaw20_few_m, List.length_take]; omega
    refine TL.nil (Plan.e1 (s28) ?_)
    refine Plan.s1 5 [6, 7] (by kernel_rfl) (by kernel_rfl) rfl ?_
    obtain ⟨r31, er31⟩ : ∃ r, r = (windroselaw20_few_m a2.2) := ⟨_, rfl⟩
    refine TL.call [] rfl rfl rfl (windroselaw20_few_c _ _ a2.2 (ha2_1.mono (sb5_1.trans (s23.trans s28)))) ?_
    intro v31 H31 L31 s31 q31
    rw [← er31] at q31
    obtain ⟨u31_0_0, c31_0_0, rfl, rfl, w31_0_0⟩ := q31
    obtain ⟨A31_0_0, p31_0_0, rfl, m31_0_0, n31_0_0⟩ := OwnS.shape w31_0_0
    have tq31 : r31.length ≤ 6 := by rw [er31]; simp only [windroselaw20_few_m, List.length_take]; omega
    refine TL.nil (Plan.e1 (s31) ?_)
    refine Plan.v 6 [7] (by kernel_rfl) (by kernel_rfl) (by kernel_rfl) (by kernel_rfl) rfl (fun _ _ h_ => R.asE rfl (by conv => lhs; whnf) (TL.nil h_)) ?_
    refine Plan.v 7 [] (by kernel_rfl) (by kernel_rfl) (by kernel_rfl) (by kernel_rfl) rfl (fun _ _ h_ => R.asE rfl (by conv => lhs; whnf) (TL.nil h_)) ?_
    refine Plan.done (Post.thnN ?_)
    refine T.seq ?_
    refine T.region ?_
    refine R.mvE rfl (by conv => lhs; whnf) ?_
    refine R.mvE rfl (by conv => lhs; whnf) ?_
    refine R.mvE rfl (by conv => lhs; whnf) ?_
    refine TL.shut (.tl (.tl .hd)) ?_
    intro HF23_0_0_2 sF23_0_0_2 qF23_0_0_2
    have fF23_0_0_2 := OwnS.read (OwnS.mono w23_0_0 (s28.trans s31)) sF23_0_0_2 qF23_0_0_2
    refine TL.shut (.tl (.tl .hd)) ?_
    intro HF23_1_0_3 sF23_1_0_3 qF23_1_0_3
    have fF23_1_0_3 := OwnS.read (OwnS.mono w23_1_0 (s28.trans (s31.trans sF23_0_0_2))) sF23_1_0_3 qF23_1_0_3
    refine TL.shut (.tl .hd) ?_
    intro HF28_0_0_4 sF28_0_0_4 qF28_0_0_4
    have fF28_0_0_4 := OwnS.read (OwnS.mono w28_0_0 (s31.trans (sF23_0_0_2.trans sF23_1_0_3))) sF28_0_0_4 qF28_0_0_4
    obtain ⟨r36, er36⟩ : ∃ r, r = (plan_Of_m r23.1 r23.2 r28) := ⟨_, rfl⟩
    refine TL.call [] rfl rfl rfl (plan_Of_c _ ((sb5_1.trans (s23.trans (s28.trans (s31.trans (sF23_0_0_2.trans (sF23_1_0_3.trans sF28_0_0_4)))))) _ _ hG1) _ r23.1 (fF23_0_0_2.mono (sF23_1_0_3.trans sF28_0_0_4)) _ r23.2 (fF23_1_0_3.mono sF28_0_0_4) _ r28 fF28_0_0_4 (by first | omega | (simp; done) | (simp; omega) | (simp at *; omega)) (by first | omega | (simp; done) | (simp; omega) | (simp at *; omega)) (by first | omega | (simp; done) | (simp; omega) | (simp at *; omega))) ?_
    intro v36 H36 L36 s36 q36
    rw [← er36] at q36
    obtain ⟨u36_0_0, u36_0_1, u36_0_2, c36_0_0, c36_0_1, c36_0_2, rfl, rfl, w36_0_0, w36_0_1, w36_0_2⟩ := q36
    obtain ⟨A36_0_0, p36_0_0, rfl, m36_0_0, n36_0_0⟩ := OwnS.shape w36_0_0
    obtain ⟨A36_0_1, p36_0_1, rfl, m36_0_1, n36_0_1⟩ := OwnS.shape w36_0_1
    obtain ⟨A36_0_2, p36_0_2, rfl, m36_0_2, n36_0_2⟩ := OwnS.shape w36_0_2
    have to36 := of_len _ _ _ _ er36 (by first | omega | (simp; done) | (simp; omega) | (simp at *; omega)) (by first | omega | (simp; done) | (simp; omega) | (simp at *; omega))
    refine R.mvE rfl (by conv => lhs; whnf) ?_
    refine R.ext rfl rfl rfl ?_
    refine R.ext rfl rfl rfl ?_
    refine R.alloc Tryd.zeroValue81 rfl ?_
    intro b11
    refine R.stX (old := [.slice none 0 0, .slice none 0 0, .slice none 0 0]) (l := [.slice A36_0_0 r36.1.1.length p36_0_0, .slice A36_0_1 r36.1.2.1.length p36_0_1, .slice A36_0_2 r36.1.2.2.length p36_0_2]) (new := [.slice A36_0_0 r36.1.1.length p36_0_0, .slice A36_0_1 r36.1.2.1.length p36_0_1, .slice A36_0_2 r36.1.2.2.length p36_0_2]) (et := 81) Tryd.sizeOf81 rfl rfl rfl rfl rfl (by show 0 + 3 ≤ 3; decide) rfl (all_one rfl) .hd ?_
    refine R.asE rfl (by conv => lhs; whnf) ?_
    refine TL.shut (.tl .hd) ?_
    intro HF36_0_0_5 sF36_0_0_5 qF36_0_0_5
    have fF36_0_0_5 := OwnS.read w36_0_0 sF36_0_0_5 qF36_0_0_5
    refine TL.shut (.tl .hd) ?_
    intro HF36_0_1_6 sF36_0_1_6 qF36_0_1_6
    have fF36_0_1_6 := OwnS.read (OwnS.mono w36_0_1 sF36_0_0_5) sF36_0_1_6 qF36_0_1_6
    refine TL.shut (.tl .hd) ?_
    intro HF36_0_2_7 sF36_0_2_7 qF36_0_2_7
    have fF36_0_2_7 := OwnS.read (OwnS.mono w36_0_2 (sF36_0_0_5.trans sF36_0_1_6)) sF36_0_2_7 qF36_0_2_7
    refine TL.shut .hd ?_
    intro Hb11_8 sb11_8 qb11_8
    have hb11_8 : Hb11_8 b11 = some (.cells #[.slice A36_0_0 r36.1.1.length p36_0_0, .slice A36_0_1 r36.1.2.1.length p36_0_1, .slice A36_0_2 r36.1.2.2.length p36_0_2] 81) := shut1 qb11_8
    refine TL.nil (Post.thnN ?_)
    refine T.seq ?_
    refine T.region ?_
    refine R.mvE rfl (by conv => lhs; whnf) ?_
    refine R.mvE rfl (by conv => lhs; whnf) ?_
    refine R.mvE rfl (by conv => lhs; whnf) ?_
    refine R.mvE rfl (by conv => lhs; whnf) ?_
    refine TL.shut .hd ?_
    intro HF31_0_0_9 sF31_0_0_9 qF31_0_0_9
    have fF31_0_0_9 := OwnS.read (OwnS.mono w31_0_0 (sF23_0_0_2.trans (sF23_1_0_3.trans (sF28_0_0_4.trans (s36.trans (sF36_0_0_5.trans (sF36_0_1_6.trans (sF36_0_2_7.trans sb11_8)))))))) sF31_0_0_9 qF31_0_0_9
    refine R.bsN [.slice A28_0_0 r28.length p28_0_0, .slice A31_0_0 r31.length p31_0_0] rfl Tryd.underlying155 Tryd.sizeOf23 Tryd.zeroValue23 rfl rfl rfl rfl rfl rfl ?_
    intro b44
    have w44 : OwnS (slE (intE .i64)) 23 HF31_0_0_9 (.slice (some ⟨b44, 0, none⟩) 2 2) [r28, r31] [(b44, .cells #[.slice A28_0_0 r28.length p28_0_0, .slice A31_0_0 r31.length p31_0_0] 23)] := OwnS.lit (xs := [r28, r31]) (cellsOf_cons (a := [.slice A28_0_0 r28.length p28_0_0]) ⟨_, rfl, (fF28_0_0_4.mono (s36.trans (sF36_0_0_5.trans (sF36_0_1_6.trans (sF36_0_2_7.trans (sb11_8.trans sF31_0_0_9))))))⟩ (cellsOf_cons (a := [.slice A31_0_0 r31.length p31_0_0]) ⟨_, rfl, fF31_0_0_9⟩ cellsOf_nil)) (by show 2 ≤ maxLen; decide)
    refine TL.shut .hd ?_
    intro HF44_10 sF44_10 qF44_10
    have fF44_10 := OwnS.read w44 sF44_10 qF44_10
    obtain ⟨r45, er45⟩ : ∃ r, r = (slices_Concat_int_m ([r28, r31])) := ⟨_, rfl⟩
    refine TL.call [] rfl rfl rfl (slices_Concat_int_c _ _ ([r28, r31]) fF44_10 (by first | omega | (simp; done) | (simp; omega) | (simp at *; omega)) (by first | omega | (simp; done) | (simp; omega) | (simp at *; omega))) ?_
    intro v45 H45 L45 s45 q45
    rw [← er45] at q45
    obtain ⟨u45_0_0, c45_0_0, rfl, rfl, w45_0_0⟩ := q45
    obtain ⟨A45_0_0, p45_0_0, rfl, m45_0_0, n45_0_0⟩ := OwnS.shape w45_0_0
    have tc45 := concat_len _ _ er45
    simp only [List.map_cons, List.map_nil, List.sum_cons, List.sum_nil] at tc45
    refine TL.shut .hd ?_
    intro HF45_0_0_11 sF45_0_0_11 qF45_0_0_11
    have fF45_0_0_11 := OwnS.read w45_0_0 sF45_0_0_11 qF45_0_0_11
    obtain ⟨r46, er46⟩ : ∃ r, r = (plan_Of_m r23.1 r23.2 r45) := ⟨_, rfl⟩
    refine TL.call [] rfl rfl rfl (plan_Of_c _ ((sb5_1.trans (s23.trans (s28.trans (s31.trans (sF23_0_0_2.trans (sF23_1_0_3.trans (sF28_0_0_4.trans (s36.trans (sF36_0_0_5.trans (sF36_0_1_6.trans (sF36_0_2_7.trans (sb11_8.trans (sF31_0_0_9.trans (sF44_10.trans (s45.trans sF45_0_0_11))))))))))))))) _ _ hG1) _ r23.1 (fF23_0_0_2.mono (sF23_1_0_3.trans (sF28_0_0_4.trans (s36.trans (sF36_0_0_5.trans (sF36_0_1_6.trans (sF36_0_2_7.trans (sb11_8.trans (sF31_0_0_9.trans (sF44_10.trans (s45.trans sF45_0_0_11))))))))))) _ r23.2 (fF23_1_0_3.mono (sF28_0_0_4.trans (s36.trans (sF36_0_0_5.trans (sF36_0_1_6.trans (sF36_0_2_7.trans (sb11_8.trans (sF31_0_0_9.trans (sF44_10.trans (s45.trans sF45_0_0_11)))))))))) _ r45 fF45_0_0_11 (by first | omega | (simp; done) | (simp; omega) | (simp at *; omega)) (by first | omega | (simp; done) | (simp; omega) | (simp at *; omega)) (by first | omega | (simp; done) | (simp; omega) | (simp at *; omega))) ?_
    intro v46 H46 L46 s46 q46
    rw [← er46] at q46
    obtain ⟨u46_0_0, u46_0_1, u46_0_2, c46_0_0, c46_0_1, c46_0_2, rfl, rfl, w46_0_0, w46_0_1, w46_0_2⟩ := q46
    obtain ⟨A46_0_0, p46_0_0, rfl, m46_0_0, n46_0_0⟩ := OwnS.shape w46_0_0
    obtain ⟨A46_0_1, p46_0_1, rfl, m46_0_1, n46_0_1⟩ := OwnS.shape w46_0_1
    obtain ⟨A46_0_2, p46_0_2, rfl, m46_0_2, n46_0_2⟩ := OwnS.shape w46_0_2
    have to46 := of_len _ _ _ _ er46 (by first | omega | (simp; done) | (simp; omega) | (simp at *; omega)) (by first | omega | (simp; done) | (simp; omega) | (simp at *; omega))
    refine R.mvE rfl (by conv => lhs; whnf) ?_
    refine R.ext rfl rfl rfl ?_
    refine R.ext rfl rfl rfl ?_
    refine R.alloc Tryd.zeroValue81 rfl ?_
    intro b13
    refine R.stX (old := [.slice none 0 0, .slice none 0 0, .slice none 0 0]) (l := [.slice A46_0_0 r46.1.1.length p46_0_0, .slice A46_0_1 r46.1.2.1.length p46_0_1, .slice A46_0_2 r46.1.2.2.length p46_0_2]) (new := [.slice A46_0_0 r46.1.1.length p46_0_0, .slice A46_0_1 r46.1.2.1.length p46_0_1, .slice A46_0_2 r46.1.2.2.length p46_0_2]) (et := 81) Tryd.sizeOf81 rfl rfl rfl rfl rfl (by show 0 + 3 ≤ 3; decide) rfl (all_one rfl) .hd ?_
    refine R.asE rfl (by conv => lhs; whnf) ?_
    refine TL.shut (.tl .hd) ?_
    intro HF46_0_0_12 sF46_0_0_12 qF46_0_0_12
    have fF46_0_0_12 := OwnS.read w46_0_0 sF46_0_0_12 qF46_0_0_12
    refine TL.shut (.tl .hd) ?_
    intro HF46_0_1_13 sF46_0_1_13 qF46_0_1_13
    have fF46_0_1_13 := OwnS.read (OwnS.mono w46_0_1 sF46_0_0_12) sF46_0_1_13 qF46_0_1_13
    refine TL.shut (.tl .hd) ?_
    intro HF46_0_2_14 sF46_0_2_14 qF46_0_2_14
    have fF46_0_2_14 := OwnS.read (OwnS.mono w46_0_2 (sF46_0_0_12.trans sF46_0_1_13)) sF46_0_2_14 qF46_0_2_14
    refine TL.shut .hd ?_
    intro Hb13_15 sb13_15 qb13_15
    have hb13_15 : Hb13_15 b13 = some (.cells #[.slice A46_0_0 r46.1.1.length p46_0_0, .slice A46_0_1 r46.1.2.1.length p46_0_1, .slice A46_0_2 r46.1.2.2.length p46_0_2] 81) := shut1 qb13_15
    refine TL.nil (Post.thnN ?_)
    refine T.seq ?_
    refine T.seq ?_
    refine T.cutK (ι := Bool) (fun b54c1 H' L' ds' => Has L' [] ∧ (if r36.2 ≠ 0 then true else ((decide (r46.2 ≠ 0))) : Bool) = b54c1) (fun b54c1 => [(7, .slice A23_0_0 r23.1.length p23_0_0), (8, .slice A23_1_0 r23.2.length p23_1_0), (11, .pointer (some ⟨b11, 0, none⟩)), (12, .int .i64 (r36.2)), (13, .pointer (some ⟨b13, 0, none⟩)), (14, .int .i64 (r46.2)), (54, .bool (b54c1))]) ?_ ?_
    · refine T.region ?_
      refine R.mvE rfl (by conv => lhs; whnf) ?_
      refine R.neq rfl rfl rfl ?_
      refine R.mvE rfl (by conv => lhs; whnf) ?_
      refine TL.gsplitD 51 rfl (fun g51 => ?_) (fun g51 => ?_)
      · refine TL.off rfl rfl rfl ?_
        refine TL.off rfl rfl rfl ?_
        refine R.pkTE rfl rfl (by conv => lhs; whnf) ?_
        refine TL.nil (Post.thnN ?_)
        exact ⟨true, HLe.refl _, ⟨Has.nil, (by rw [if_pos g51])⟩, rfl, rfl, rfl, rfl, rfl, rfl, rfl, trivial⟩
      · refine R.mvE rfl (by conv => lhs; whnf) ?_
        refine R.neq rfl rfl rfl ?_
        refine R.pkFE rfl rfl (by conv => lhs; whnf) ?_
        refine TL.nil (Post.thnN ?_)
        exact ⟨(decide (r46.2 ≠ 0)), HLe.refl _, ⟨Has.nil, (by rw [if_neg g51])⟩, rfl, rfl, rfl, rfl, rfl, rfl, rfl, trivial⟩
    · intro b54c1 σ_c1 H_c1 L_c1 ds_c1 s_c1 hI_c1
      obtain ⟨hLc1, hTc1⟩ := hI_c1
      refine T.has hLc1 ?_
      refine T.cond rfl (fun c54 => ?_) (fun c54 => ?_)
      · refine T.set 54 (.bool true) (congrArg Value.bool c54) ?_
        have hZ54 := hTc1.trans c54
        try simp only [or_f, or_t, and_f, and_t, decide_eq_true_eq, decide_eq_false_iff_not, Bool.not_eq_true'] at hZ54
        refine T.seq ?_
        refine T.region ?_
        refine R.mvE rfl (by conv => lhs; whnf) ?_
        refine R.eql rfl rfl rfl ?_
        refine R.mvE rfl (by conv => lhs; whnf) ?_
        refine TL.gsplitD 57 rfl (fun g57 => ?_) (fun g57 => ?_)
        · refine TL.off rfl rfl rfl ?_
          refine TL.off rfl rfl rfl ?_
          refine TL.off rfl rfl rfl ?_
          refine R.pkTE rfl rfl (by conv => lhs; whnf) ?_
          refine R.asE rfl (by conv => lhs; whnf) ?_
          refine TL.nil (Post.thnN ?_)
          refine T.has Has.nil ?_
          refine T.ret (Post.thnR ?_)
          have hM : windroselaw20_PlanMore_m a0 a1 a2 = true := by subst er46; subst er45; subst er36; subst er31; subst er28; subst er23; rw [windroselaw20_PlanMore_m, if_f c19, LR.seq_go, LR.seq_go, LR.seq_go, LR.seq_go, LR.seq_go, LR.seq_go, hTc1, LR.seq_go, if_t c54, if_pos g57]
          exact fin1L (v := .bool true) [] rfl rfl (List.Sublist.refl _) ⟨rfl, by first | rw [hM] | rfl⟩
        · refine R.mvE rfl (by conv => lhs; whnf) ?_
          refine R.mvE rfl (by conv => lhs; whnf) ?_
          refine R.eql rfl rfl rfl ?_
          refine R.pkFE rfl rfl (by conv => lhs; whnf) ?_
          refine R.asE rfl (by conv => lhs; whnf) ?_
          refine TL.nil (Post.thnN ?_)
          refine T.has Has.nil ?_
          refine T.ret (Post.thnR ?_)
          have hM : windroselaw20_PlanMore_m a0 a1 a2 = (decide (r46.2 = r36.2)) := by subst er46; subst er45; subst er36; subst er31; subst er28; subst er23; rw [windroselaw20_PlanMore_m, if_f c19, LR.seq_go, LR.seq_go, LR.seq_go, LR.seq_go, LR.seq_go, LR.seq_go, hTc1, LR.seq_go, if_t c54, if_neg g57]
          exact fin1L (v := .bool (decide (r46.2 = r36.2))) [] rfl rfl (List.Sublist.refl _) ⟨rfl, by first | rw [hM] | rfl⟩
      · refine T.set 54 (.bool false) (congrArg Value.bool c54) ?_
        have hZ54 := hTc1.trans c54
        try simp only [or_f, or_t, and_f, and_t, decide_eq_true_eq, decide_eq_false_iff_not, Bool.not_eq_true'] at hZ54
        refine T.skip (Post.thnN ?_)
        refine T.seq ?_
        refine T.seq ?_
        refine T.region ?_
        refine R.fldA Tryd.underlying81 rfl Tryd.sizeOf23 (by decide) rfl rfl ?_
        refine R.ldH Tryd.isAgg23 rfl rfl ((sF31_0_0_9.trans (sF44_10.trans (s45.trans (sF45_0_0_11.trans (s46.trans (sF46_0_0_12.trans (sF46_0_1_13.trans (sF46_0_2_14.trans (sb13_15.trans s_c1))))))))) _ _ hb11_8) rfl ?_
        refine R.len Tryd.underlying23 rfl rfl ?_
        refine R.mvE rfl (by conv => lhs; whnf) ?_
        refine TL.nil (Post.thnN ?_)
        refine T.block ?_
        refine T.loop (ι := Nat) (fun kl2 H' L' ds' => kl2 ≤ r36.1.1.length ∧ Has L' [] ∧ windroselaw20_PlanMore_l2 r46 (r36.1.1.drop kl2) () = windroselaw20_PlanMore_l2 r46 r36.1.1 ()) (fun kl2 => [(65, .int .i64 (kl2 : Int)), (7, .slice A23_0_0 r23.1.length p23_0_0), (8, .slice A23_1_0 r23.2.length p23_1_0), (13, .pointer (some ⟨b13, 0, none⟩)), (63, .slice A36_0_0 r36.1.1.length p36_0_0), (64, .int .i64 (r36.1.1.length : Int))]) (fun kl2 => r36.1.1.length - kl2) 0 ?_ ?_ ?_
        · exact ⟨(by omega), Has.nil, (by rfl)⟩
        · exact ⟨rfl, rfl, rfl, rfl, rfl, rfl, trivial⟩
        · intro kl2 σ_l2 H_l2 L_l2 ds_l2 s_l2 hI_l2
          obtain ⟨hkl2, hI_l2⟩ := hI_l2
          obtain ⟨hLl2, hQl2⟩ := hI_l2
          refine T.has hLl2 ?_
          refine T.seq ?_
          refine T.region ?_
          refine R.lss rfl rfl rfl ?_
          refine TL.nil (Post.thnN ?_)
          refine T.seq ?_
          refine T.condD rfl (fun c66 => ?_) (fun c66 => ?_)
          · have hltl2 : kl2 < r36.1.1.length := by omega
            obtain ⟨yl2, hyl2⟩ := getk (xs := r36.1.1) (k := kl2) (by omega)
            refine T.skip (Post.thnN ?_)
            refine T.seq ?_
            refine T.block ?_
            refine T.seq ?_
            refine T.region ?_
            obtain ⟨b67, o67, i67, k67⟩ := RdS.elem (fF36_0_0_5.mono (sF36_0_1_6.trans (sF36_0_2_7.trans (sb11_8.trans (sF31_0_0_9.trans (sF44_10.trans (s45.trans (sF45_0_0_11.trans (s46.trans (sF46_0_0_12.trans (sF46_0_1_13.trans (sF46_0_2_14.trans (sb13_15.trans (s_c1.trans s_l2)))))))))))))) hyl2
            obtain ⟨l67, g67, k67⟩ := k67
            obtain rfl : l67 = [.int .i64 yl2] := g67
            refine R.ixp Tryd.underlying23 Tryd.sizeOf3 rfl rfl rfl (by omega) i67 ?_
            refine R.ldC Tryd.isAgg3 rfl rfl (k67 0 _ rfl) ?_
            refine R.asE rfl (by conv => lhs; whnf) ?_
            refine TL.nil (Post.thnN ?_)
            refine T.seq ?_
            refine T.region ?_
            refine R.fldA Tryd.underlying81 rfl Tryd.sizeOf23 (by decide) rfl rfl ?_
            refine R.ldH Tryd.isAgg23 rfl rfl ((s_c1.trans s_l2) _ _ hb13_15) rfl ?_
            refine R.mvE rfl (by conv => lhs; whnf) ?_
            refine R.callv rfl rfl rfl (slices_Contains_int_d _ _ r46.1.1 (fF46_0_0_12.mono (sF46_0_1_13.trans (sF46_0_2_14.trans (sb13_15.trans (s_c1.trans s_l2))))) yl2) ?_
            refine R.notD rfl rfl ?_
            refine TL.nil (Post.thnN ?_)
            refine T.condD rfl (fun c73 => ?_) (fun c73 => ?_)
            · refine T.set 73 (.bool true) (congrArg Value.bool (decide_eq_true c73)) ?_
              refine T.seq ?_
              refine T.region ?_
              refine R.asE rfl (by conv => lhs; whnf) ?_
              refine TL.nil (Post.thnN ?_)
              refine T.has Has.nil ?_
              refine T.ret (Post.blkR (Post.thnR (Post.thnR (Post.blkR (Post.thnR ?_)))))
              have hXl2 : windroselaw20_PlanMore_l2 r46 r36.1.1 () = .ret false := by rw [← hQl2, drop_cons hyl2, windroselaw20_PlanMore_l2]; rw [if_pos c73]
              have hM : windroselaw20_PlanMore_m a0 a1 a2 = false := by subst er46; subst er45; subst er36; subst er31; subst er28; subst er23; rw [windroselaw20_PlanMore_m, if_f c19, LR.seq_go, LR.seq_go, LR.seq_go, LR.seq_go, LR.seq_go, LR.seq_go, hTc1, LR.seq_go, if_f c54, hXl2, LR.on_ret]
              exact fin1L (v := .bool false) [] rfl rfl (List.Sublist.refl _) ⟨rfl, by first | rw [hM] | rfl⟩
            · refine T.set 73 (.bool false) (congrArg Value.bool (decide_eq_false c73)) ?_
              refine T.skip (Post.blkN ?_)
              refine id (Post.thnN ?_)
              refine T.region ?_
              refine R.addI rfl rfl rfl (by omega) ?_
              refine R.mvE rfl (by conv => lhs; whnf) ?_
              refine TL.nil (Post.thnN ?_)
              exact ⟨kl2 + 1, s_l2, ⟨(by omega), Has.nil, (by rw [← hQl2, drop_cons hyl2, windroselaw20_PlanMore_l2]; rw [if_neg c73])⟩, by show r36.1.1.length - (kl2 + 1) < r36.1.1.length - kl2; omega, rfl, rfl, rfl, rfl, rfl, rfl, trivial⟩
          · refine T.exit (Post.thnE (Post.thnE (Post.blkX ?_)))
            have hEl2 : windroselaw20_PlanMore_l2 r46 r36.1.1 () = .go () := (hQl2.symm.trans (by rw [show kl2 = r36.1.1.length by omega, List.drop_length, windroselaw20_PlanMore_l2]))
            refine id (Post.thnN ?_)
            refine T.seq ?_
            refine T.region ?_
            refine R.mvE rfl (by conv => lhs; whnf) ?_
            refine R.mvE rfl (by conv => lhs; whnf) ?_
            refine R.fldA Tryd.underlying81 rfl Tryd.sizeOf23 (by decide) rfl rfl ?_
            refine R.ldH Tryd.isAgg23 rfl rfl ((s_c1.trans s_l2) _ _ hb13_15) rfl ?_
            obtain ⟨r80, er80⟩ : ∃ r, r = (plan_Of_m r23.1 r23.2 r46.1.1) := ⟨_, rfl⟩
            refine TL.call [] rfl rfl rfl (plan_Of_c _ ((sb5_1.trans (s23.trans (s28.trans (s31.trans (sF23_0_0_2.trans (sF23_1_0_3.trans (sF28_0_0_4.trans (s36.trans (sF36_0_0_5.trans (sF36_0_1_6.trans (sF36_0_2_7.trans (sb11_8.trans (sF31_0_0_9.trans (sF44_10.trans (s45.trans (sF45_0_0_11.trans (s46.trans (sF46_0_0_12.trans (sF46_0_1_13.trans (sF46_0_2_14.trans (sb13_15.trans (s_c1.trans s_l2)))))))))))))))))))))) _ _ hG1) _ r23.1 (fF23_0_0_2.mono (sF23_1_0_3.trans (sF28_0_0_4.trans (s36.trans (sF36_0_0_5.trans (sF36_0_1_6.trans (sF36_0_2_7.trans (sb11_8.trans (sF31_0_0_9.trans (sF44_10.trans (s45.trans (sF45_0_0_11.trans (s46.trans (sF46_0_0_12.trans (sF46_0_1_13.trans (sF46_0_2_14.trans (sb13_15.trans (s_c1.trans s_l2)))))))))))))))))) _ r23.2 (fF23_1_0_3.mono (sF28_0_0_4.trans (s36.trans (sF36_0_0_5.trans (sF36_0_1_6.trans (sF36_0_2_7.trans (sb11_8.trans (sF31_0_0_9.trans (sF44_10.trans (s45.trans (sF45_0_0_11.trans (s46.trans (sF46_0_0_12.trans (sF46_0_1_13.trans (sF46_0_2_14.trans (sb13_15.trans (s_c1.trans s_l2))))))))))))))))) _ r46.1.1 (fF46_0_0_12.mono (sF46_0_1_13.trans (sF46_0_2_14.trans (sb13_15.trans (s_c1.trans s_l2))))) (by first | omega | (simp; done) | (simp; omega) | (simp at *; omega)) (by first | omega | (simp; done) | (simp; omega) | (simp at *; omega)) (by first | omega | (simp; done) | (simp; omega) | (simp at *; omega))) ?_
            intro v80 H80 L80 s80 q80
            rw [← er80] at q80
            obtain ⟨u80_0_0, u80_0_1, u80_0_2, c80_0_0, c80_0_1, c80_0_2, rfl, rfl, w80_0_0, w80_0_1, w80_0_2⟩ := q80
            obtain ⟨A80_0_0, p80_0_0, rfl, m80_0_0, n80_0_0⟩ := OwnS.shape w80_0_0
            obtain ⟨A80_0_1, p80_0_1, rfl, m80_0_1, n80_0_1⟩ := OwnS.shape w80_0_1
            obtain ⟨A80_0_2, p80_0_2, rfl, m80_0_2, n80_0_2⟩ := OwnS.shape w80_0_2
            have to80 := of_len _ _ _ _ er80 (by first | omega | (simp; done) | (simp; omega) | (simp at *; omega)) (by first | omega | (simp; done) | (simp; omega) | (simp at *; omega))
            refine R.mvE rfl (by conv => lhs; whnf) ?_
            refine R.ext rfl rfl rfl ?_
            refine R.ext rfl rfl rfl ?_
            refine R.alloc Tryd.zeroValue81 rfl ?_
            intro b17
            refine R.stX (old := [.slice none 0 0, .slice none 0 0, .slice none 0 0]) (l := [.slice A80_0_0 r80.1.1.length p80_0_0, .slice A80_0_1 r80.1.2.1.length p80_0_1, .slice A80_0_2 r80.1.2.2.length p80_0_2]) (new := [.slice A80_0_0 r80.1.1.length p80_0_0, .slice A80_0_1 r80.1.2.1.length p80_0_1, .slice A80_0_2 r80.1.2.2.length p80_0_2]) (et := 81) Tryd.sizeOf81 rfl rfl rfl rfl rfl (by show 0 + 3 ≤ 3; decide) rfl (all_one rfl) .hd ?_
            refine R.asE rfl (by conv => lhs; whnf) ?_
            refine TL.shut (.tl .hd) ?_
            intro HF80_0_0_16 sF80_0_0_16 qF80_0_0_16
            have fF80_0_0_16 := OwnS.read w80_0_0 sF80_0_0_16 qF80_0_0_16
            refine TL.shut (.tl .hd) ?_
            intro HF80_0_1_17 sF80_0_1_17 qF80_0_1_17
            have fF80_0_1_17 := OwnS.read (OwnS.mono w80_0_1 sF80_0_0_16) sF80_0_1_17 qF80_0_1_17
            refine TL.shut (.tl .hd) ?_
            intro HF80_0_2_18 sF80_0_2_18 qF80_0_2_18
            have fF80_0_2_18 := OwnS.read (OwnS.mono w80_0_2 (sF80_0_0_16.trans sF80_0_1_17)) sF80_0_2_18 qF80_0_2_18
            refine TL.shut .hd ?_
            intro Hb17_19 sb17_19 qb17_19
            have hb17_19 : Hb17_19 b17 = some (.cells #[.slice A80_0_0 r80.1.1.length p80_0_0, .slice A80_0_1 r80.1.2.1.length p80_0_1, .slice A80_0_2 r80.1.2.2.length p80_0_2] 81) := shut1 qb17_19
            refine TL.nil (Post.thnN ?_)
            refine T.seq ?_
            refine T.region ?_
            refine R.mvE rfl (by conv => lhs; whnf) ?_
            refine R.eql rfl rfl rfl ?_
            refine R.mvE rfl (by conv => lhs; whnf) ?_
            refine TL.gsplitD 85 rfl (fun g85 => ?_) (fun g85 => ?_)
            · refine R.ldXH (cs := [.slice A80_0_0 r80.1.1.length p80_0_0, .slice A80_0_1 r80.1.2.1.length p80_0_1, .slice A80_0_2 r80.1.2.2.length p80_0_2]) (l := [.slice A80_0_0 r80.1.1.length p80_0_0, .slice A80_0_1 r80.1.2.1.length p80_0_1, .slice A80_0_2 r80.1.2.2.length p80_0_2]) Tryd.isAgg81 Tryd.sizeOf81 rfl rfl hb17_19 rfl rfl ?_
              refine R.ldXH (cs := [.slice A46_0_0 r46.1.1.length p46_0_0, .slice A46_0_1 r46.1.2.1.length p46_0_1, .slice A46_0_2 r46.1.2.2.length p46_0_2]) (l := [.slice A46_0_0 r46.1.1.length p46_0_0, .slice A46_0_1 r46.1.2.1.length p46_0_1, .slice A46_0_2 r46.1.2.2.length p46_0_2]) Tryd.isAgg81 Tryd.sizeOf81 rfl rfl ((s_c1.trans (s_l2.trans (s80.trans (sF80_0_0_16.trans (sF80_0_1_17.trans (sF80_0_2_18.trans sb17_19)))))) _ _ hb13_15) rfl rfl ?_
              refine R.callv rfl rfl rfl (plan_Same_c _ r80.1 _ (fF80_0_0_16.mono (sF80_0_1_17.trans (sF80_0_2_18.trans sb17_19))) _ (fF80_0_1_17.mono (sF80_0_2_18.trans sb17_19)) _ (fF80_0_2_18.mono sb17_19) r46.1 _ (fF46_0_0_12.mono (sF46_0_1_13.trans (sF46_0_2_14.trans (sb13_15.trans (s_c1.trans (s_l2.trans (s80.trans (sF80_0_0_16.trans (sF80_0_1_17.trans (sF80_0_2_18.trans sb17_19)))))))))) _ (fF46_0_1_13.mono (sF46_0_2_14.trans (sb13_15.trans (s_c1.trans (s_l2.trans (s80.trans (sF80_0_0_16.trans (sF80_0_1_17.trans (sF80_0_2_18.trans sb17_19))))))))) _ (fF46_0_2_14.mono (sb13_15.trans (s_c1.trans (s_l2.trans (s80.trans (sF80_0_0_16.trans (sF80_0_1_17.trans (sF80_0_2_18.trans sb17_19))))))))) ?_
              refine R.pkTE rfl rfl (by conv => lhs; whnf) ?_
              refine R.asE rfl (by conv => lhs; whnf) ?_
              refine TL.nil (Post.thnN ?_)
              refine T.has Has.nil ?_
              refine T.ret ?_
              have hM : windroselaw20_PlanMore_m a0 a1 a2 = (plan_Same_m r80.1 r46.1) := by subst er80; subst er46; subst er45; subst er36; subst er31; subst er28; subst er23; rw [windroselaw20_PlanMore_m, if_f c19, LR.seq_go, LR.seq_go, LR.seq_go, LR.seq_go, LR.seq_go, LR.seq_go, hTc1, LR.seq_go, if_f c54, hEl2, LR.on_go, LR.seq_go, if_pos g85]
              exact fin1L (v := .bool ((plan_Same_m r80.1 r46.1))) [] rfl rfl (List.Sublist.refl _) ⟨rfl, by first | rw [hM] | rfl⟩
            · refine TL.off rfl rfl rfl ?_
              refine TL.off rfl rfl rfl ?_
              refine TL.off rfl rfl rfl ?_
              refine R.pkFE rfl rfl (by conv => lhs; whnf) ?_
              refine R.asE rfl (by conv => lhs; whnf) ?_
              refine TL.nil (Post.thnN ?_)
              refine T.has Has.nil ?_
              refine T.ret ?_
              have hM : windroselaw20_PlanMore_m a0 a1 a2 = false := by subst er80; subst er46; subst er45; subst er36; subst er31; subst er28; subst er23; rw [windroselaw20_PlanMore_m, if_f c19, LR.seq_go, LR.seq_go, LR.seq_go, LR.seq_go, LR.seq_go, LR.seq_go, hTc1, LR.seq_go, if_f c54, hEl2, LR.on_go, LR.seq_go, if_neg g85]
              exact fin1L (v := .bool false) [] rfl rfl (List.Sublist.refl _) ⟨rfl, by first | rw [hM] | rfl⟩

end Go.SX

set_option linter.unusedVariables false
set_option linter.unusedSimpArgs false
namespace Go.SX
open Go
theorem more_l2 (r : ((List Int) × (List Hd) × (List Hd)) × Int) : ∀ (xs : List Int), (∀ n ∈ xs, n ∈ r.1.1) → windroselaw20_PlanMore_l2 r xs () = .go ()
  | [], _ => rfl
  | n :: xs, h => by rw [windroselaw20_PlanMore_l2, if_neg (fun k => k (h n (List.mem_cons_self ..)))]; exact more_l2 r xs (fun m hm => h m (List.mem_cons_of_mem _ hm))
theorem dead_ext {D D' : List Dh} (h : ∀ n, n ∈ D.map Prod.fst ↔ n ∈ D'.map Prod.fst) : deadB D = deadB D' := by
  funext k
  unfold deadB
  rw [decide_eq_decide]; exact h k
theorem says_ext (l : List Rl) {D D' : List Dh} (h : deadB D = deadB D') : saysB l D = saysB l D' := by funext x p; unfold saysB; rw [h]
theorem gone_ext (l : List Rl) {D D' : List Dh} (h : deadB D = deadB D') : goneB l D = goneB l D' ∧ refB l D = refB l D' := by
  refine ⟨?_, ?_⟩
  · funext x; unfold goneB; rw [h, says_ext l h]
  · funext x; unfold refB; rw [h, says_ext l h]
theorem planMore_true (a0 : List Rl) (a1 : List Hd) (a2 : (List Int) × (List Int)) : windroselaw20_PlanMore_m a0 a1 a2 = true := by
  unfold windroselaw20_PlanMore_m
  rw [wakes20_true, Bool.not_true, if_neg Bool.false_ne_true, LR.seq_go, LR.seq_go, LR.seq_go, LR.seq_go, LR.seq_go, LR.seq_go, concat_eq]
  have ho : (windroselaw20_own_m a0 a1).2.length ≤ 16 := by simp only [windroselaw20_own_m, List.length_take]; omega
  have hw1 : (windroselaw20_few_m a2.1).length ≤ 6 := by simp only [windroselaw20_few_m, List.length_take]; omega
  have hw2 : (windroselaw20_few_m a2.2).length ≤ 6 := by simp only [windroselaw20_few_m, List.length_take]; omega
  generalize windroselaw20_own_m a0 a1 = o at *
  generalize windroselaw20_few_m a2.1 = f1 at *
  generalize windroselaw20_few_m a2.2 = f2 at *
  have e0 : [f1, f2].flatten = f1 ++ f2 := by simp
  rw [e0]
  have hl : (f1 ++ f2).length ≤ 12 := by rw [List.length_append]; omega
  by_cases hc : plan_Check_m o.1 o.2 = 0
  rotate_left
  · rw [of_bad hc, of_bad hc, LR.seq_go]
    simp only
    rw [if_pos hc, if_pos rfl, if_neg hc]
    simp
  by_cases h1 : ∀ n ∈ f1, idxOk n
  rotate_left
  · rw [of_arg hc h1, of_arg hc (fun k => h1 (fun n hn => k n (List.mem_append_left _ hn)))]; rfl
  by_cases h2 : ∀ n ∈ f1 ++ f2, idxOk n
  rotate_left
  · rw [of_eq hc h1, of_arg hc h2]; rfl
  have hidx := dies_idx hc (first := f1 ++ f2) (by omega) (by omega) h2
  have hidx' : ∀ n ∈ sortI ((diesD o.1 o.2 (f1 ++ f2)).map Prod.fst), idxOk n := fun n hn => hidx n (mem_sortI.1 hn)
  have hlen := dies_len (l := o.1) (held := o.2) (first := f1 ++ f2) (by omega) (by omega)
  have hsl : (sortI ((diesD o.1 o.2 (f1 ++ f2)).map Prod.fst)).length ≤ 100 := by rw [(sortI_perm _).length_eq, List.length_map]; omega
  rw [of_eq hc h1, of_eq hc h2]
  simp only
  rw [if_neg (fun k => k rfl), decide_eq_false (fun k => k rfl), LR.seq_go, if_neg Bool.false_ne_true]
  rw [more_l2 _ _ (fun n hn => ?_), LR.on_go, of_eq hc hidx', LR.seq_go]
  · simp only
    rw [if_pos trivial, same20]
    have hm : ∀ n, n ∈ (diesD o.1 o.2 (sortI ((diesD o.1 o.2 (f1 ++ f2)).map Prod.fst))).map Prod.fst ↔ n ∈ (diesD o.1 o.2 (f1 ++ f2)).map Prod.fst := by
      intro n
      constructor
      · exact fun hn => dies_least (P := fun n => n ∈ (diesD o.1 o.2 (f1 ++ f2)).map Prod.fst) (by omega) hsl (fun m hm => mem_sortI.1 hm) (fun m h hm hx hk => dies_closed (by omega) (by omega) hm hx hk) n hn
      · exact fun hn => dies_first (by omega) hsl (mem_sortI.2 hn)
    have hd := dead_ext hm
    obtain ⟨e1, e2⟩ := gone_ext o.1 hd
    rw [e1, e2, sortI_eq (dies_nodup (by omega) hsl) (dies_nodup (by omega) (by omega)) hm]
    exact decide_eq_true rfl
  · rw [mem_sortI] at hn ⊢
    exact dies_least (P := fun n => n ∈ (diesD o.1 o.2 (f1 ++ f2)).map Prod.fst) (by omega) (by omega) (fun m hm => dies_first (by omega) (by omega) (List.mem_append_left _ hm)) (fun m h hm hx hk => dies_closed (by omega) (by omega) hm hx hk) n hn
end Go.SX

set_option linter.unusedVariables false
set_option linter.unusedSimpArgs false
namespace Go.SX
open Go Go.ChangeShapes Go.WideShapes Go.ChangeAt Go.RowKit

/-- All that stands in a world's memory can be read. -/
def heapOf (W : World) : Heap := fun b => W.heap[b]?
theorem sat_heapOf (W : World) : Sat (heapOf W) [] W := ⟨fun _ _ h => h, fun p h => (by cases h), List.nodup_nil, fun p h => (by cases h)⟩

/-- A contract of a function that hands back v, at a world. -/
theorem calls_of_Fv {P : Program} {f : FuncId} {fn : Func} {c : Code} {vs : List Value} {v : Value} {W : World} (hf : P.funcs[f]? = some fn) (hb : fn.body = some c) (hname : (fn.name == "runtime.NumGoroutine") = false)
    (h : Fv P (fnv f) vs (heapOf W) v) : Calls P f vs.toArray W fun e W' => e = .returned v ∧ Below W.heap.size W W' := by
  obtain ⟨nx, w1, h1, h2⟩ := h W (sat_heapOf W)
  have he := Go.Proofs.enters_of (P := P) hf hname hb vs.toArray W
  have hrun : Sem.run P (do let d ← Deferred.ofValue (fnv f) vs.toArray; invoke d.target d.args) W = .ok (.enter f vs.toArray) W := by
    simp [Deferred.ofValue, invoke, he]
  rw [hrun] at h1
  injection h1 with h1 h3
  subst h1; subst h3
  refine callsIn_wide.1 (CallsIn.mono h2 ?_)
  rintro e w' ⟨u, H', L', rfl, hst, rfl, rfl⟩
  exact ⟨rfl, hst.chg.os, hst.chg.tape, hst.chg.output, hst.chg.size, fun b hb => hst.chg.same b hb (by simp [keys])⟩

section
variable {H : Type} {enc : TypeId × Value → H} {P : Program}

theorem trodAll_below (hl : laidOutB P = true) {W W' : World} (hb : Below W.heap.size W W') {sp : Nat → Bool} : ∀ {ts : List TypeId} {vs : List Value} {ds : List (DataW H)} {p : List MemPlace},
    (∀ t ∈ ts, P.readableRec t = true ∧ t < P.types.size) → DataW.TrodAll enc P W 0 (fun _ => true) true ts vs ds p → (∀ q ∈ p, q.block < W.heap.size ∧ sp q.block = true) → DataW.TrodAll enc P W' 0 sp true ts vs ds p
  | [], _, _, _, _, h, _ => by
    obtain ⟨rfl, rfl, rfl⟩ := trodAll_nil h
    exact trodAll_mk0
  | t :: ts, _, _, _, ht, h, hp => by
    obtain ⟨v, vs, d, ds, a, b, rfl, rfl, rfl, h1, h2⟩ := trodAll_cons h
    have h3 := WideElems.Trod_stays (sp' := sp) hl (ht t (List.mem_cons_self ..)).1 (ht t (List.mem_cons_self ..)).2 h1 (fun x hx => hb.same (hp x (List.mem_append_left _ hx)).1) (fun x hx => (hp x (List.mem_append_left _ hx)).2)
    exact ⟨a, b, h3, trodAll_below hl hb (fun t' h' => ht t' (List.mem_cons_of_mem _ h')) h2 (fun x hx => hp x (List.mem_append_right _ hx)), rfl⟩

/-- What is asked behind a call that turned nothing of what there was, and says true. -/
theorem post_true {f : Func} {s : ChangeSpec} {fresh handsOn again : Bool} {W W' : World} {args : Array Value} {ds gs : List (DataW H)} {before : List MemPlace} {tb : TypeId} (hl : laidOutB P = true)
    (hW : DataW.Whole enc P f.params.toList s.vars false W args.toList ds gs before) (hvars : s.vars = []) (hpar : ∀ t ∈ f.params.toList, P.readableRec t = true ∧ t < P.types.size)
    (hs : s.fn H (ds ++ gs) = { results := [.lit (.bool true)], args := ds }) (hrt : f.resultTypes = #[tb]) (htb : P.underlying tb = some .bool) (hb : Below W.heap.size W W') :
    s.post enc P f false fresh handsOn again W args (.bool true) W' := by
  have hlt := hW.lt
  have hW0 := hW
  obtain ⟨p, q, hA, hV, rfl, hfz, hnd⟩ := hW
  rw [hvars] at hV
  obtain ⟨rfl, rfl⟩ := trodVars_none hV
  rw [List.append_nil] at hfz hlt
  have hres : ∀ (b : Nat) (sp : Nat → Bool) (hd : Bool), DataW.TrodAll enc P W' b sp hd f.resultTypes.toList ((Value.bool true).resultList f.resultTypes.size) [.lit (.bool true)] [] := by
    intro b sp hd
    rw [hrt]
    exact trodAll_mk1 (shut_bool htb true)
  have hargs : ∀ sp : Nat → Bool, (∀ x ∈ p, sp x.block = true) → DataW.TrodAll enc P W' 0 sp true f.params.toList args.toList ds p := fun sp hsp =>
    trodAll_below hl hb hpar hA (fun x hx => ⟨hlt x hx, hsp x hx⟩)
  have hvr : ∀ sp : Nat → Bool, DataW.TrodVars enc P W' sp s.vars ([] : List (DataW H)) [] := fun sp => by rw [hvars]; rfl
  refine ⟨ds, [], p ++ [], [], p, [], hW0, ?_, ?_, ?_, World.keptBut_mono (fun x hx => ⟨hx, ?_⟩) (hb.frame (· ∈ p ++ [])), fun _ => ?_⟩
  · rw [hs]; exact hres _ _ _
  · rw [hs]; exact hargs _ (fun x hx => by simpa using hlt x hx)
  · rw [hs]; exact hvr _
  · exact Or.inr (by simpa using hx)
  · refine ⟨ok_one hrt rfl (okWide_bool_mk htb true), _, _, ([] ++ p) ++ [], ⟨[] ++ p, [], trodAll_append (hargs _ (fun _ _ => rfl)) (hres _ _ _), hvr _, rfl, ?_, fun h => by cases h⟩, ?_⟩
    · intro b off hp
      have hp' : MemPlace.cell b off ∈ p := by simpa using hp
      have := hb.frozen (p := ⟨b, off, none⟩) (hlt _ hp')
      rw [this]
      exact hfz b off hp'
    · intro x hx _
      simpa using hx

theorem cellAt_heapOf {W : World} {b o : Nat} {v : Value} (h : W.cell? ⟨b, o, none⟩ = some v) : cellAt (heapOf W) b o = some v := by
  unfold World.cell? at h
  unfold cellAt heapOf
  simp only at h
  revert h
  cases hb : W.heap[b]? with
  | none => intro h; simp at h
  | some ob => cases ob <;> intro h <;> simp_all

end
end Go.SX

set_option linter.unusedVariables false
set_option linter.unusedSimpArgs false
namespace Go.SX
open Go Go.ChangeShapes Go.WideShapes Go.ChangeAt Go.RowKit Go.Deep
/-- What can be read at the type stands as E says. -/
def Opn (P : Program) (t : TypeId) {α : Type} (E : ER α) (Q : α → Prop) : Prop :=
  ∀ (H : Type) (enc : TypeId × Value → H) (W : World) (sp : Nat → Bool) (hd : Bool) (n : Nat) (cs : List Value) (x : DataW H × List MemPlace), DataW.trod enc P W 0 sp hd n t cs = some x → ∃ a, E.R (heapOf W) cs a ∧ Q a
theorem Opn.int {P : Program} {t : TypeId} {k : IntKind} (ht : P.underlying t = some (.int k)) : Opn P t (intE k) (fun x => (Lit.int k x).wf = true) := fun H enc W sp hd n cs x h => by
  obtain ⟨n, rfl, _, hw⟩ := DataW.trod_int ht h
  exact ⟨n, rfl, hw⟩
theorem Opn.bool {P : Program} {t : TypeId} (ht : P.underlying t = some .bool) : Opn P t boolE (fun _ => True) := fun H enc W sp hd n cs x h => by
  obtain ⟨b, rfl, _⟩ := DataW.trod_bool ht h
  exact ⟨b, rfl, trivial⟩
theorem Opn.weak {P : Program} {t : TypeId} {α : Type} {E : ER α} {Q Q' : α → Prop} (h : Opn P t E Q) (hq : ∀ a, Q a → Q' a) : Opn P t E Q' := fun H enc W sp hd n cs x hx => by
  obtain ⟨a, h1, h2⟩ := h H enc W sp hd n cs x hx
  exact ⟨a, h1, hq a h2⟩
/-- A struct of two ints. -/
theorem Opn.pair {P : Program} {t i : TypeId} {f0 f1 : Field} (ht : P.underlying t = some (.struct #[f0, f1])) (ct : P.cellsOf t = 2) (o0 : f0.offset = 0) (o1 : f1.offset = 1) (t0 : f0.type = i) (t1 : f1.type = i)
    (hi : P.underlying i = some (.int .i64)) (ci : P.cellsOf i = 1) : Opn P t pairE (fun _ => True) := fun H enc W sp hd n cs x h => by
  obtain ⟨xs, m, _, _, hl, hxl, hf⟩ := DataW.trod_struct ht h
  rw [ct] at hl
  match cs, hl, xs, hxl with
  | [v0, v1], _, [y0, y1], _ =>
    have g0 := hf 0 f0 rfl
    have g1 := hf 1 f1 rfl
    rw [o0, t0, ci] at g0
    rw [o1, t1, ci] at g1
    simp at g0 g1
    obtain ⟨a, ha, _⟩ := DataW.trod_int hi g0
    obtain ⟨b, hb, _⟩ := DataW.trod_int hi g1
    simp at ha hb
    subst ha; subst hb
    exact ⟨(a, b), rfl, trivial⟩
/-- An array of two ints. -/
theorem Opn.two {P : Program} {t i : TypeId} (ht : P.underlying t = some (.array 2 i)) (ct : P.cellsOf t = 2) (hi : P.underlying i = some (.int .i64)) (ci : P.cellsOf i = 1) : Opn P t pairE (fun _ => True) := fun H enc W sp hd n cs x h => by
  obtain ⟨xs, m, _, _, hl, hxl, hf⟩ := DataW.trod_array ht h
  rw [ct] at hl
  match cs, hl, xs, hxl with
  | [v0, v1], _, [y0, y1], _ =>
    have g0 := hf 0 (by omega)
    have g1 := hf 1 (by omega)
    rw [ci] at g0 g1
    simp at g0 g1
    obtain ⟨a, ha, _⟩ := DataW.trod_int hi g0
    obtain ⟨b, hb, _⟩ := DataW.trod_int hi g1
    simp at ha hb
    subst ha; subst hb
    exact ⟨(a, b), rfl, trivial⟩
/-- A slice. -/
theorem Opn.slice {P : Program} {t e : TypeId} {α : Type} {E : ER α} {Q : α → Prop} (ht : P.underlying t = some (.slice e)) (hc : P.cellsOf e = E.size) (he : Opn P e E Q) (hs : 0 < E.size) : Opn P t (slE E) (fun xs => ∀ x ∈ xs, Q x) := fun H enc W sp hd n cs x h => by
  rcases open_slice ht h with ⟨rfl, _⟩ | ⟨a, len, cap, m, n', D, Pl, rfl, _, hl, hm, hmm, _, hx⟩
  · exact ⟨[], ⟨_, rfl, RdS.nil⟩, fun x hx => by simp at hx⟩
  · have key : ∀ i, i < len → ∃ x, (∃ b o, a = ⟨b, o, none⟩ ∧ ElemAt E (heapOf W) b (o + i * E.size) x) ∧ Q x := fun i hi => by
      obtain ⟨cs', h1, h2⟩ := hx i (by rw [hmm]; split <;> omega)
      obtain ⟨x, h3, h4⟩ := he H enc W sp hd n' cs' _ h2
      refine ⟨x, ?_, h4⟩
      rw [hc] at h1
      obtain ⟨_, hlen, hcell⟩ := World.cells?_some h1
      obtain ⟨ab, ao, asp⟩ := a
      cases asp with
      | none =>
        refine ⟨ab, ao, rfl, cs', h3, fun j u hj => ?_⟩
        have hjl : j < E.size := by rw [← hlen]; exact (List.getElem?_eq_some_iff.1 hj).1
        have h5 := hcell j hjl
        rw [hj, add_add, Addr.add_lit] at h5
        have := cellAt_heapOf h5
        rw [show ao + i * E.size + j = ao + (i * E.size + j) by omega]
        exact this
      | some s =>
        exfalso
        obtain ⟨cs0, k1, _⟩ := hx 0 (by rw [hmm]; split <;> omega)
        rw [hc, Nat.zero_mul, Addr.add_zero'] at k1
        obtain ⟨_, klen, kcell⟩ := World.cells?_some k1
        have h5 := kcell 0 hs
        rw [Addr.add_zero'] at h5
        obtain ⟨u, hu⟩ : ∃ u, cs0[0]? = some u := ⟨cs0[0], List.getElem?_eq_getElem (by omega)⟩
        rw [hu] at h5
        unfold World.cell? at h5
        revert h5
        cases hb : W.heap[ab]? with
        | none => intro h; simp [hb] at h
        | some ob => cases ob <;> intro h <;> simp [hb] at h
    obtain ⟨f, hf⟩ : ∃ f : Nat → Option α, ∀ i, i < len → ∃ x, f i = some x ∧ (∃ b o, a = ⟨b, o, none⟩ ∧ ElemAt E (heapOf W) b (o + i * E.size) x) ∧ Q x := by
      classical
      refine ⟨fun i => if hi : i < len then some (Classical.choose (key i hi)) else none, fun i hi => ?_⟩
      exact ⟨_, dif_pos hi, Classical.choose_spec (key i hi)⟩
    have hxs : ∀ n, n ≤ len → ∃ xs : List α, xs.length = n ∧ ∀ i, i < n → xs[i]? = f i := fun n => by
      induction n with
      | zero => exact fun _ => ⟨[], rfl, fun i hi => absurd hi (Nat.not_lt_zero _)⟩
      | succ n ih =>
        intro hn
        obtain ⟨xs, h1, h2⟩ := ih (by omega)
        obtain ⟨x, h3, _⟩ := hf n (by omega)
        refine ⟨xs ++ [x], by simp [h1], fun i hi => ?_⟩
        by_cases h : i < n
        · rw [List.getElem?_append_left (by omega)]; exact h2 i h
        · obtain rfl : i = n := by omega
          rw [List.getElem?_append_right (by omega), h1, Nat.sub_self, h3]; rfl
    obtain ⟨xs, h1, h2⟩ := hxs len (Nat.le_refl _)
    subst h1
    refine ⟨xs, ⟨_, rfl, some a, cap, rfl, hl, hm, fun i x hx => ?_⟩, fun x hx => ?_⟩
    · have hi : i < xs.length := (List.getElem?_eq_some_iff.1 hx).1
      obtain ⟨y, h3, ⟨b, o, h4, h5⟩, _⟩ := hf i hi
      rw [h2 i hi, h3] at hx
      injection hx with hx
      subst hx
      exact ⟨b, o, by rw [h4], h5⟩
    · obtain ⟨i, hi, rfl⟩ := List.mem_iff_getElem.1 hx
      obtain ⟨y, h3, _, h4⟩ := hf i hi
      have := h2 i hi
      rw [h3, List.getElem?_eq_getElem hi] at this
      injection this with this
      rw [this]; exact h4
section
variable {P : Program} {H : Type} {enc : TypeId × Value → H} {W : World} {r : Reach} {b0 : Nat} {t : TypeId} {v : Value} {d : DataW H} {p : List MemPlace} {α : Type} {E : ER α} {Q : α → Prop}
/-- A slice that is handed in. -/
theorem open_sl {e : TypeId} (ht : P.underlying t = some (.slice e)) (ho : Opn P t (slE E) (fun xs => ∀ x ∈ xs, Q x)) (hval : Value.okWide P W r b0 t v) (h : DataW.Trod enc P W 0 (fun _ => true) true t v d p) :
    ∃ xs : List α, RdS E (heapOf W) v xs ∧ ∀ x ∈ xs, Q x := by
  obtain ⟨a0, len, cap, rfl⟩ := okWide_slice ht hval
  obtain ⟨n, hn⟩ := h
  obtain ⟨xs, ⟨u, h1, h2⟩, h3⟩ := ho H enc W _ _ n _ _ hn
  have : Value.slice a0 len cap = u := by simpa [Value.cells] using h1
  rw [this]
  exact ⟨xs, h2, h3⟩
/-- A struct, or an array, that is handed in. -/
theorem open_agg (hu : (∃ fs, P.underlying t = some (.struct fs)) ∨ ∃ n e, P.underlying t = some (.array n e)) (ho : Opn P t E Q) (hval : Value.okWide P W r b0 t v) (h : DataW.Trod enc P W 0 (fun _ => true) true t v d p) :
    ∃ cs a, v = .agg cs ∧ E.R (heapOf W) cs.toList a ∧ Q a := by
  have hv : ∃ cs, v = .agg cs := by
    unfold Value.okWide at hval
    rcases hu with ⟨fs, hu⟩ | ⟨n, e, hu⟩
    · rw [hu] at hval; obtain ⟨cs, h1, _⟩ := hval; exact ⟨cs, h1⟩
    · rw [hu] at hval; obtain ⟨cs, h1, _⟩ := hval; exact ⟨cs, h1⟩
  obtain ⟨cs, rfl⟩ := hv
  obtain ⟨n, hn⟩ := h
  obtain ⟨a, h1, h2⟩ := ho H enc W _ _ n _ _ hn
  exact ⟨cs, a, rfl, h1, h2⟩
end
end Go.SX
