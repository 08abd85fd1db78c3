/- 'PlanCloses' answers true, whatever it is handed, and what it is handed reads behind it as it did: the row, and its tied card. -/
import Derived.RangeFuncNested
import Derived.RangeFuncBound
import Derived.RangeFuncCalls
import Derived.RangeFuncLeaves
import Derived.Shelf.Abstract
import Derived.Laws.AppendOwn
import Derived.Laws.OwnMore
import Derived.KernelRfl
import Derived.IntWalk
import Derived.Laws.Append
import Derived.WideLaws
import Derived.Laws.Slices
import Derived.Laws.MakeOwn
import Derived.OrdersIn
import Derived.Laws.Cover3
import Derived.Test.YtmhoclmjgjopfaaDoorProg
import Derived.Laws.StructEq
import Derived.Shelf.Sort.Plain
import Derived.Sort.OwnSortedInts
import Derived.Shelf.Slices.In.SortNone
import Derived.Shelf.Slices.CompactI
import Derived.ProofKit
import Derived.ChangeSlices
import Derived.Carry
import Derived.Deep.Slices
import Derived.OpenShut
import Derived.Test.YtmhoclmjgjopfaaDoorCards
import Derived.Test.YtmhoclmjgjopfaaDoorTie
import Derived.LaidMore
import Derived.Stop.Joined
import Derived.MakeChecks
import Derived.Test.YtmhoclmjgjopfaaDoorKC3
set_option linter.unusedVariables false
set_option linter.unusedSimpArgs false
namespace Go.SX
open Go Go.Proofs

def slices_IndexFunc_int_l1 (a1 : Int → Bool) : List Int → Nat → Unit → LR (Int) (Unit)
  | [], kl1, sl1 => .go ()
  | yl1 :: ysl1, kl1, sl1 => if (a1 yl1) = true then (.ret ((kl1 : Int))) else (slices_IndexFunc_int_l1 a1 ysl1 (kl1 + 1) ())
def slices_IndexFunc_int_m (a0 : List Int) (a1 : Int → Bool) : Int :=
  LR.on (slices_IndexFunc_int_l1 a1 a0 0 ()) (fun r => r) (fun ol1 => (-1))
set_option maxHeartbeats 3200000 in
theorem slices_IndexFunc_int_c (H : Heap) (va0 : Value) (a0 : List Int) (ha0 : RdS (intE .i64) H va0 a0) (fa1 : Value) (a1 : Int → Bool) (ha1 : ∀ H', HLe H H' → ∀ (z0 : Int), Fv Tryd.prog fa1 [.int .i64 z0] H' (.bool (a1 z0))) : Fv Tryd.prog (fnv 103) [va0, fa1] H (.int .i64 (slices_IndexFunc_int_m a0 a1)) := by
  refine Fc.of_body (N := 19) Tryd.func103 rfl (by kernel_rfl) rfl rfl ?_
  intro w0
  obtain ⟨Aa0, ca0, rfl, hca0, hda0, ha0⟩ := ha0.shape
  refine T.seq ?_
  refine T.region ?_
  refine R.asE rfl (by conv => lhs; whnf) ?_
  refine TL.nil (Post.thnN ?_)
  refine T.seq ?_
  refine T.seq ?_
  refine T.region ?_
  refine R.mvE rfl (by conv => lhs; whnf) ?_
  refine R.len Tryd.underlying23 rfl rfl ?_
  refine R.mvE rfl (by conv => lhs; whnf) ?_
  refine TL.nil (Post.thnN ?_)
  refine T.block ?_
  refine T.loop (ι := Nat) (fun kl1 H' L' ds' => kl1 ≤ a0.length ∧ Has L' [] ∧ slices_IndexFunc_int_l1 a1 (a0.drop kl1) kl1 () = slices_IndexFunc_int_l1 a1 a0 0 ()) (fun kl1 => [(8, .int .i64 (kl1 : Int)), (0, .slice Aa0 a0.length ca0), (1, fa1), (7, .int .i64 (a0.length : Int))]) (fun kl1 => a0.length - kl1) 0 ?_ ?_ ?_
  · exact ⟨(by omega), Has.nil, (by rfl)⟩
  · exact ⟨rfl, rfl, rfl, rfl, trivial⟩
  · intro kl1 σ_l1 H_l1 L_l1 ds_l1 s_l1 hI_l1
    obtain ⟨hkl1, hI_l1⟩ := hI_l1
    obtain ⟨hLl1, hQl1⟩ := hI_l1
    refine T.has hLl1 ?_
    refine T.seq ?_
    refine T.region ?_
    refine R.lss rfl rfl rfl ?_
    refine TL.nil (Post.thnN ?_)
    refine T.seq ?_
    refine T.condD rfl (fun c9 => ?_) (fun c9 => ?_)
    · have hltl1 : kl1 < a0.length := by omega
      obtain ⟨yl1, hyl1⟩ := getk (xs := a0) (k := kl1) (by omega)
      refine T.skip (Post.thnN ?_)
      refine T.seq ?_
      refine T.block ?_
      refine T.seq ?_
      refine T.region ?_
      refine R.mvE rfl (by conv => lhs; whnf) ?_
      refine R.asE rfl (by conv => lhs; whnf) ?_
      refine TL.nil (Post.thnN ?_)
      refine T.seq ?_
      refine T.region ?_
      refine R.mvE rfl (by conv => lhs; whnf) ?_
      refine R.mvE rfl (by conv => lhs; whnf) ?_
      refine R.mvE rfl (by conv => lhs; whnf) ?_
      obtain ⟨b14, o14, i14, k14⟩ := RdS.elem (ha0.mono s_l1) hyl1
      obtain ⟨l14, g14, k14⟩ := k14
      obtain rfl : l14 = [.int .i64 yl1] := g14
      refine R.ixp Tryd.underlying23 Tryd.sizeOf3 rfl rfl rfl (by omega) i14 ?_
      refine R.ldC Tryd.isAgg3 rfl rfl (k14 0 _ rfl) ?_
      refine R.callv rfl rfl rfl (ha1 _ s_l1 (yl1)) ?_
      refine TL.nil (Post.thnN ?_)
      refine T.cond rfl (fun c16 => ?_) (fun c16 => ?_)
      · refine T.set 16 (.bool true) (congrArg Value.bool c16) ?_
        refine T.seq ?_
        refine T.region ?_
        refine R.mvE rfl (by conv => lhs; whnf) ?_
        refine R.asE rfl (by conv => lhs; whnf) ?_
        refine TL.nil (Post.thnN ?_)
        refine T.has Has.nil ?_
        refine T.ret (Post.blkR (Post.thnR (Post.thnR (Post.blkR (Post.thnR ?_)))))
        have hXl1 : slices_IndexFunc_int_l1 a1 a0 0 () = .ret ((kl1 : Int)) := by rw [← hQl1, drop_cons hyl1, slices_IndexFunc_int_l1]; rw [if_t c16]
        have hM : slices_IndexFunc_int_m a0 a1 = (kl1 : Int) := by rw [slices_IndexFunc_int_m, hXl1, LR.on_ret]
        exact fin1L (v := .int .i64 (kl1 : Int)) [] rfl rfl (List.Sublist.refl _) ⟨rfl, by first | rw [hM] | rfl⟩
      · refine T.set 16 (.bool false) (congrArg Value.bool c16) ?_
        refine T.skip (Post.blkN ?_)
        refine id (Post.thnN ?_)
        refine T.region ?_
        refine R.addI rfl rfl rfl (by omega) ?_
        refine R.mvE rfl (by conv => lhs; whnf) ?_
        refine TL.nil (Post.thnN ?_)
        exact ⟨kl1 + 1, s_l1, ⟨(by omega), Has.nil, (by rw [← hQl1, drop_cons hyl1, slices_IndexFunc_int_l1]; rw [if_f c16])⟩, by show a0.length - (kl1 + 1) < a0.length - kl1; omega, rfl, rfl, rfl, rfl, trivial⟩
    · refine T.exit (Post.thnE (Post.thnE (Post.blkX ?_)))
      have hEl1 : slices_IndexFunc_int_l1 a1 a0 0 () = .go () := (hQl1.symm.trans (by rw [show kl1 = a0.length by omega, List.drop_length, slices_IndexFunc_int_l1]))
      refine id (Post.thnN ?_)
      refine T.seq ?_
      refine T.region ?_
      refine R.asE rfl (by conv => lhs; whnf) ?_
      refine TL.nil (Post.thnN ?_)
      refine T.has Has.nil ?_
      refine T.ret ?_
      have hM : slices_IndexFunc_int_m a0 a1 = (-1) := by rw [slices_IndexFunc_int_m, hEl1, LR.on_go]
      exact fin1L (v := .int .i64 (-1)) [] rfl rfl (List.Sublist.refl _) ⟨rfl, by first | rw [hM] | rfl⟩

def slices_ContainsFunc_int_m (a0 : List Int) (a1 : Int → Bool) : Bool :=
  (decide ((0 : Int) ≤ (slices_IndexFunc_int_m a0 a1)))
set_option maxHeartbeats 3200000 in
theorem slices_ContainsFunc_int_c (H : Heap) (va0 : Value) (a0 : List Int) (ha0 : RdS (intE .i64) H va0 a0) (fa1 : Value) (a1 : Int → Bool) (ha1 : ∀ H', HLe H H' → ∀ (z0 : Int), Fv Tryd.prog fa1 [.int .i64 z0] H' (.bool (a1 z0))) : Fv Tryd.prog (fnv 52) [va0, fa1] H (.bool (slices_ContainsFunc_int_m a0 a1)) := by
  refine Fc.of_body (N := 9) Tryd.func52 rfl (by kernel_rfl) rfl rfl ?_
  intro w0
  obtain ⟨Aa0, ca0, rfl, hca0, hda0, ha0⟩ := ha0.shape
  refine T.seq ?_
  refine T.region ?_
  refine R.asE rfl (by conv => lhs; whnf) ?_
  refine TL.nil (Post.thnN ?_)
  refine T.seq ?_
  refine T.region ?_
  refine R.mvE rfl (by conv => lhs; whnf) ?_
  refine R.mvE rfl (by conv => lhs; whnf) ?_
  refine R.callv rfl rfl rfl (slices_IndexFunc_int_c _ _ a0 ha0 _ a1 (fun H' h' => ha1 H' ((HLe.refl _).trans h'))) ?_
  refine R.geq rfl rfl rfl ?_
  refine R.asE rfl (by conv => lhs; whnf) ?_
  refine TL.nil (Post.thnN ?_)
  refine T.has Has.nil ?_
  refine T.ret ?_
  have hM : slices_ContainsFunc_int_m a0 a1 = (decide ((0 : Int) ≤ (slices_IndexFunc_int_m a0 a1))) := by rw [slices_ContainsFunc_int_m]
  exact fin1L (v := .bool (decide ((0 : Int) ≤ (slices_IndexFunc_int_m a0 a1)))) [] rfl rfl (List.Sublist.refl _) ⟨rfl, by first | rw [hM] | rfl⟩

def slices_IndexFunc_mention_l1 (a1 : (Int × Int) → Bool) : List (Int × Int) → Nat → Unit → LR (Int) (Unit)
  | [], kl1, sl1 => .go ()
  | yl1 :: ysl1, kl1, sl1 => if (a1 yl1) = true then (.ret ((kl1 : Int))) else (slices_IndexFunc_mention_l1 a1 ysl1 (kl1 + 1) ())
def slices_IndexFunc_mention_m (a0 : List (Int × Int)) (a1 : (Int × Int) → Bool) : Int :=
  LR.on (slices_IndexFunc_mention_l1 a1 a0 0 ()) (fun r => r) (fun ol1 => (-1))
set_option maxHeartbeats 3200000 in
theorem slices_IndexFunc_mention_c (H : Heap) (va0 : Value) (a0 : List (Int × Int)) (ha0 : RdS pairE H va0 a0) (fa1 : Value) (a1 : (Int × Int) → Bool) (ha1 : ∀ H', HLe H H' → ∀ (z0 : Int × Int), Fv Tryd.prog fa1 [.agg #[.int .i64 z0.1, .int .i64 z0.2]] H' (.bool (a1 z0))) : Fv Tryd.prog (fnv 129) [va0, fa1] H (.int .i64 (slices_IndexFunc_mention_m a0 a1)) := by
  refine Fc.of_body (N := 19) Tryd.func129 rfl (by kernel_rfl) rfl rfl ?_
  intro w0
  obtain ⟨Aa0, ca0, rfl, hca0, hda0, ha0⟩ := ha0.shape
  refine T.seq ?_
  refine T.region ?_
  refine R.asE rfl (by conv => lhs; whnf) ?_
  refine TL.nil (Post.thnN ?_)
  refine T.seq ?_
  refine T.seq ?_
  refine T.region ?_
  refine R.mvE rfl (by conv => lhs; whnf) ?_
  refine R.len Tryd.underlying141 rfl rfl ?_
  refine R.mvE rfl (by conv => lhs; whnf) ?_
  refine TL.nil (Post.thnN ?_)
  refine T.block ?_
  refine T.loop (ι := Nat) (fun kl1 H' L' ds' => kl1 ≤ a0.length ∧ Has L' [] ∧ slices_IndexFunc_mention_l1 a1 (a0.drop kl1) kl1 () = slices_IndexFunc_mention_l1 a1 a0 0 ()) (fun kl1 => [(8, .int .i64 (kl1 : Int)), (0, .slice Aa0 a0.length ca0), (1, fa1), (7, .int .i64 (a0.length : Int))]) (fun kl1 => a0.length - kl1) 0 ?_ ?_ ?_
  · exact ⟨(by omega), Has.nil, (by rfl)⟩
  · exact ⟨rfl, rfl, rfl, rfl, trivial⟩
  · intro kl1 σ_l1 H_l1 L_l1 ds_l1 s_l1 hI_l1
    obtain ⟨hkl1, hI_l1⟩ := hI_l1
    obtain ⟨hLl1, hQl1⟩ := hI_l1
    refine T.has hLl1 ?_
    refine T.seq ?_
    refine T.region ?_
    refine R.lss rfl rfl rfl ?_
    refine TL.nil (Post.thnN ?_)
    refine T.seq ?_
    refine T.condD rfl (fun c9 => ?_) (fun c9 => ?_)
    · have hltl1 : kl1 < a0.length := by omega
      obtain ⟨yl1, hyl1⟩ := getk (xs := a0) (k := kl1) (by omega)
      refine T.skip (Post.thnN ?_)
      refine T.seq ?_
      refine T.block ?_
      refine T.seq ?_
      refine T.region ?_
      refine R.mvE rfl (by conv => lhs; whnf) ?_
      refine R.asE rfl (by conv => lhs; whnf) ?_
      refine TL.nil (Post.thnN ?_)
      refine T.seq ?_
      refine T.region ?_
      refine R.mvE rfl (by conv => lhs; whnf) ?_
      refine R.mvE rfl (by conv => lhs; whnf) ?_
      refine R.mvE rfl (by conv => lhs; whnf) ?_
      obtain ⟨b14, o14, i14, k14⟩ := RdS.elem (ha0.mono s_l1) hyl1
      obtain ⟨l14, g14, k14⟩ := k14
      obtain rfl : l14 = [.int .i64 (yl1.1), .int .i64 (yl1.2)] := g14
      refine R.ixp Tryd.underlying141 Tryd.sizeOf144 rfl rfl rfl (by omega) i14 ?_
      refine R.ldK (l := [.int .i64 (yl1.1), .int .i64 (yl1.2)]) Tryd.isAgg144 Tryd.sizeOf144 rfl rfl k14 rfl ?_
      refine R.callv rfl rfl rfl (ha1 _ s_l1 yl1) ?_
      refine TL.nil (Post.thnN ?_)
      refine T.cond rfl (fun c16 => ?_) (fun c16 => ?_)
      · refine T.set 16 (.bool true) (congrArg Value.bool c16) ?_
        refine T.seq ?_
        refine T.region ?_
        refine R.mvE rfl (by conv => lhs; whnf) ?_
        refine R.asE rfl (by conv => lhs; whnf) ?_
        refine TL.nil (Post.thnN ?_)
        refine T.has Has.nil ?_
        refine T.ret (Post.blkR (Post.thnR (Post.thnR (Post.blkR (Post.thnR ?_)))))
        have hXl1 : slices_IndexFunc_mention_l1 a1 a0 0 () = .ret ((kl1 : Int)) := by rw [← hQl1, drop_cons hyl1, slices_IndexFunc_mention_l1]; rw [if_t c16]
        have hM : slices_IndexFunc_mention_m a0 a1 = (kl1 : Int) := by rw [slices_IndexFunc_mention_m, hXl1, LR.on_ret]
        exact fin1L (v := .int .i64 (kl1 : Int)) [] rfl rfl (List.Sublist.refl _) ⟨rfl, by first | rw [hM] | rfl⟩
      · refine T.set 16 (.bool false) (congrArg Value.bool c16) ?_
        refine T.skip (Post.blkN ?_)
        refine id (Post.thnN ?_)
        refine T.region ?_
        refine R.addI rfl rfl rfl (by omega) ?_
        refine R.mvE rfl (by conv => lhs; whnf) ?_
        refine TL.nil (Post.thnN ?_)
        exact ⟨kl1 + 1, s_l1, ⟨(by omega), Has.nil, (by rw [← hQl1, drop_cons hyl1, slices_IndexFunc_mention_l1]; rw [if_f c16])⟩, by show a0.length - (kl1 + 1) < a0.length - kl1; omega, rfl, rfl, rfl, rfl, trivial⟩
    · refine T.exit (Post.thnE (Post.thnE (Post.blkX ?_)))
      have hEl1 : slices_IndexFunc_mention_l1 a1 a0 0 () = .go () := (hQl1.symm.trans (by rw [show kl1 = a0.length by omega, List.drop_length, slices_IndexFunc_mention_l1]))
      refine id (Post.thnN ?_)
      refine T.seq ?_
      refine T.region ?_
      refine R.asE rfl (by conv => lhs; whnf) ?_
      refine TL.nil (Post.thnN ?_)
      refine T.has Has.nil ?_
      refine T.ret ?_
      have hM : slices_IndexFunc_mention_m a0 a1 = (-1) := by rw [slices_IndexFunc_mention_m, hEl1, LR.on_go]
      exact fin1L (v := .int .i64 (-1)) [] rfl rfl (List.Sublist.refl _) ⟨rfl, by first | rw [hM] | rfl⟩

def slices_ContainsFunc_mention_m (a0 : List (Int × Int)) (a1 : (Int × Int) → Bool) : Bool :=
  (decide ((0 : Int) ≤ (slices_IndexFunc_mention_m a0 a1)))
set_option maxHeartbeats 3200000 in
theorem slices_ContainsFunc_mention_c (H : Heap) (va0 : Value) (a0 : List (Int × Int)) (ha0 : RdS pairE H va0 a0) (fa1 : Value) (a1 : (Int × Int) → Bool) (ha1 : ∀ H', HLe H H' → ∀ (z0 : Int × Int), Fv Tryd.prog fa1 [.agg #[.int .i64 z0.1, .int .i64 z0.2]] H' (.bool (a1 z0))) : Fv Tryd.prog (fnv 94) [va0, fa1] H (.bool (slices_ContainsFunc_mention_m a0 a1)) := by
  refine Fc.of_body (N := 9) Tryd.func94 rfl (by kernel_rfl) rfl rfl ?_
  intro w0
  obtain ⟨Aa0, ca0, rfl, hca0, hda0, ha0⟩ := ha0.shape
  refine T.seq ?_
  refine T.region ?_
  refine R.asE rfl (by conv => lhs; whnf) ?_
  refine TL.nil (Post.thnN ?_)
  refine T.seq ?_
  refine T.region ?_
  refine R.mvE rfl (by conv => lhs; whnf) ?_
  refine R.mvE rfl (by conv => lhs; whnf) ?_
  refine R.callv rfl rfl rfl (slices_IndexFunc_mention_c _ _ a0 ha0 _ a1 (fun H' h' => ha1 H' ((HLe.refl _).trans h'))) ?_
  refine R.geq rfl rfl rfl ?_
  refine R.asE rfl (by conv => lhs; whnf) ?_
  refine TL.nil (Post.thnN ?_)
  refine T.has Has.nil ?_
  refine T.ret ?_
  have hM : slices_ContainsFunc_mention_m a0 a1 = (decide ((0 : Int) ≤ (slices_IndexFunc_mention_m a0 a1))) := by rw [slices_ContainsFunc_mention_m]
  exact fin1L (v := .bool (decide ((0 : Int) ≤ (slices_IndexFunc_mention_m a0 a1)))) [] rfl rfl (List.Sublist.refl _) ⟨rfl, by first | rw [hM] | rfl⟩

def plan_Of_1_m (a0 : Int) : Bool :=
  (!(plan_index_m a0))
set_option maxHeartbeats 3200000 in
theorem plan_Of_1_c (H : Heap) (a0 : Int) : Fv Tryd.prog (fnv 91) [.int .i64 a0] H (.bool (plan_Of_1_m a0)) := by
  refine Fc.of_body (N := 6) Tryd.func91 rfl (by kernel_rfl) rfl rfl ?_
  intro w0
  refine T.seq ?_
  refine T.region ?_
  refine R.asE rfl (by conv => lhs; whnf) ?_
  refine TL.nil (Post.thnN ?_)
  refine T.seq ?_
  refine T.region ?_
  refine R.mvE rfl (by conv => lhs; whnf) ?_
  refine R.callv rfl rfl rfl (plan_index_c _ (a0)) ?_
  refine R.not rfl rfl ?_
  refine R.asE rfl (by conv => lhs; whnf) ?_
  refine TL.nil (Post.thnN ?_)
  refine T.has Has.nil ?_
  refine T.ret ?_
  have hM : plan_Of_1_m a0 = (!(plan_index_m a0)) := by rw [plan_Of_1_m]
  exact fin1L (v := .bool ((!(plan_index_m a0)))) [] rfl rfl (List.Sublist.refl _) ⟨rfl, by first | rw [hM] | rfl⟩

def plan_Of_2_2_1_m (q0 : List (Int × Bool)) (q1 : Int) (a0 : Int × Int) : Bool :=
  if ((mlk q0 a0.1).getD false) = true then ((decide (a0.2 = q1))) else false
set_option maxHeartbeats 3200000 in
theorem plan_Of_2_2_1_c (H : Heap) (b1000 : Nat) (mq0 : Nat) (q0 : List (Int × Bool)) (hq0 : MpR .i64 (fun z : Bool => Value.bool z) H mq0 q0) (hb0 : H b1000 = some (.cells #[.map (some mq0)] 137)) (b1001 : Nat) (q1 : Int) (hb1 : H b1001 = some (.cells #[.int .i64 q1] 3)) (a0 : Int × Int) : Fv Tryd.prog (.func (.func 95) #[] ([.pointer (some ⟨b1000, 0, none⟩), .pointer (some ⟨b1001, 0, none⟩)] : List Value).toArray) [.agg #[.int .i64 a0.1, .int .i64 a0.2]] H (.bool (plan_Of_2_2_1_m q0 q1 a0)) := by
  refine Fc.of_body (N := 15) Tryd.func95 rfl (by kernel_rfl) rfl rfl ?_
  intro w0
  refine T.seq ?_
  refine T.region ?_
  refine R.box rfl (by conv => lhs; whnf) ?_
  intro b3
  refine R.asE rfl (by conv => lhs; whnf) ?_
  refine TL.shut .hd ?_
  intro Hb3_1 sb3_1 qb3_1
  have hb3_1 : Hb3_1 b3 = some (.cells #[.int .i64 (a0.1), .int .i64 (a0.2)] 144) := shut1 qb3_1
  refine TL.nil (Post.thnN ?_)
  refine T.seq ?_
  refine T.region ?_
  refine R.ldH Tryd.isAgg137 rfl rfl (sb3_1 _ _ hb0) rfl ?_
  refine R.fldA Tryd.underlying144 rfl Tryd.sizeOf3 (by decide) rfl rfl ?_
  refine R.ldH Tryd.isAgg3 rfl rfl hb3_1 rfl ?_
  refine R.lkuVH (f := (fun z : Bool => Value.bool z)) (z0 := false) Tryd.underlying137 Tryd.underlying3 Tryd.zeroValue4 rfl rfl rfl rfl (hq0.mono sb3_1) ?_
  refine R.mvE rfl (by conv => lhs; whnf) ?_
  refine TL.gsplit 9 rfl (fun g9 => ?_) (fun g9 => ?_)
  · refine R.fldA Tryd.underlying144 rfl Tryd.sizeOf3 (by decide) rfl rfl ?_
    refine R.ldH Tryd.isAgg3 rfl rfl hb3_1 rfl ?_
    refine R.ldH Tryd.isAgg3 rfl rfl (sb3_1 _ _ hb1) rfl ?_
    refine R.eql rfl rfl rfl ?_
    refine R.pkTE rfl rfl (by conv => lhs; whnf) ?_
    refine R.asE rfl (by conv => lhs; whnf) ?_
    refine TL.nil (Post.thnN ?_)
    refine T.has Has.nil ?_
    refine T.ret ?_
    have hM : plan_Of_2_2_1_m q0 q1 a0 = (decide (a0.2 = q1)) := by rw [plan_Of_2_2_1_m, if_t g9]
    exact fin1L (v := .bool (decide (a0.2 = q1))) [] rfl rfl (List.Sublist.refl _) ⟨rfl, by first | rw [hM] | rfl⟩
  · refine TL.off rfl rfl rfl ?_
    refine TL.off rfl rfl rfl ?_
    refine TL.off rfl rfl rfl ?_
    refine TL.off rfl rfl rfl ?_
    refine R.pkFE rfl rfl (by conv => lhs; whnf) ?_
    refine R.asE rfl (by conv => lhs; whnf) ?_
    refine TL.nil (Post.thnN ?_)
    refine T.has Has.nil ?_
    refine T.ret ?_
    have hM : plan_Of_2_2_1_m q0 q1 a0 = false := by rw [plan_Of_2_2_1_m, if_f g9]
    exact fin1L (v := .bool false) [] rfl rfl (List.Sublist.refl _) ⟨rfl, by first | rw [hM] | rfl⟩

def plan_Of_2_m (q0 : List (Int × Int)) (q1 : List (Int × Bool)) (a0 : Int) : Bool :=
  LR.seq (slices_ContainsFunc_mention_m q0 ((fun z0 => plan_Of_2_2_1_m q1 a0 z0))) (fun r7 => r7)
set_option maxHeartbeats 3200000 in
theorem plan_Of_2_c (H : Heap) (b1000 : Nat) (vq0 : Value) (q0 : List (Int × Int)) (hq0 : RdS pairE H vq0 q0) (hb0 : H b1000 = some (.cells #[vq0] 141)) (b1001 : Nat) (mq1 : Nat) (q1 : List (Int × Bool)) (hq1 : MpR .i64 (fun z : Bool => Value.bool z) H mq1 q1) (hb1 : H b1001 = some (.cells #[.map (some mq1)] 137)) (a0 : Int) : Fv Tryd.prog (.func (.func 93) #[] ([.pointer (some ⟨b1000, 0, none⟩), .pointer (some ⟨b1001, 0, none⟩)] : List Value).toArray) [.int .i64 a0] H (.bool (plan_Of_2_m q0 q1 a0)) := by
  refine Fc.of_body (N := 8) Tryd.func93 rfl (by kernel_rfl) rfl rfl ?_
  intro w0
  obtain ⟨Aq0, cq0, rfl, hcq0, hdq0, hq0⟩ := hq0.shape
  refine T.seq ?_
  refine T.region ?_
  refine R.box rfl (by conv => lhs; whnf) ?_
  intro b3
  refine R.asE rfl (by conv => lhs; whnf) ?_
  refine TL.shut .hd ?_
  intro Hb3_1 sb3_1 qb3_1
  have hb3_1 : Hb3_1 b3 = some (.cells #[.int .i64 a0] 3) := shut1 qb3_1
  refine TL.nil (Post.thnN ?_)
  refine T.seq ?_
  refine T.region ?_
  refine R.ldH Tryd.isAgg141 rfl rfl (sb3_1 _ _ hb0) rfl ?_
  refine R.mkf (cs := [_, _]) rfl rfl ?_
  obtain ⟨r7, er7⟩ : ∃ r, r = (slices_ContainsFunc_mention_m q0 ((fun z0 => plan_Of_2_2_1_m q1 a0 z0))) := ⟨_, rfl⟩
  refine R.callv (v := .bool r7) rfl rfl rfl (by rw [er7]; exact slices_ContainsFunc_mention_c _ _ q0 (hq0.mono sb3_1) _ (fun z0 => plan_Of_2_2_1_m q1 a0 z0) (fun H2 h2 z0 => plan_Of_2_2_1_c H2 b1001 _ q1 ((hq1.mono sb3_1).mono h2) (h2 _ _ (sb3_1 _ _ hb1)) b3 (a0) (h2 _ _ hb3_1) z0)) ?_
  refine R.asE rfl (by conv => lhs; whnf) ?_
  refine TL.nil (Post.thnN ?_)
  refine T.has Has.nil ?_
  refine T.ret ?_
  have hM : plan_Of_2_m q0 q1 a0 = r7 := by subst er7; rw [plan_Of_2_m, LR.seq_go]
  exact fin1L (v := .bool (r7)) [] rfl rfl (List.Sublist.refl _) ⟨rfl, by first | rw [hM] | rfl⟩

def plan_Of_r2 (xM26r1 : List (Int × Bool)) : List ((Int × Int) × (List (Int × Int))) → ((List Int) × (List (Int × Int)) × (List (Int × Int))) → (List Int) × (List (Int × Int)) × (List (Int × Int))
  | [], sr2 => sr2
  | yr2 :: ysr2, sr2 => if ((mlk xM26r1 yr2.1.1).getD false) = true then (plan_Of_r2 xM26r1 ysr2 ((sr2.1, sr2.2.1, sr2.2.2))) else (LR.seq (if (plan_Of_2_m yr2.2 xM26r1 2) = true then ((sr2.1, sr2.2.1, (sr2.2.2 ++ [yr2.1]))) else ((sr2.1, sr2.2.1, sr2.2.2)) : (List Int) × (List (Int × Int)) × (List (Int × Int))) (fun sc3 => LR.seq (if (plan_Of_2_m yr2.2 xM26r1 2) = true then true else ((plan_Of_2_m yr2.2 xM26r1 0)) : Bool) (fun sc4 => if sc4 = true then (plan_Of_r2 xM26r1 ysr2 ((sc3.1, (sc3.2.1 ++ [yr2.1]), sc3.2.2))) else (plan_Of_r2 xM26r1 ysr2 ((sc3.1, sc3.2.1, sc3.2.2))))))
def plan_Of_r1  : List (Int × (List (Int × Int))) → ((List (Int × Bool)) × (List Int) × (List (Int × Int)) × (List (Int × Int))) → (List (Int × Bool)) × (List Int) × (List (Int × Int)) × (List (Int × Int))
  | [], sr1 => sr1
  | yr1 :: ysr1, sr1 => plan_Of_r1 ysr1 (((mpu sr1.1 yr1.1 true), (sr1.2.1 ++ [yr1.1]), sr1.2.2.1, sr1.2.2.2))
def plan_Of_m (a0 : List (Int × (Bool × Bool × Int × Int × Int))) (a1 : List (Int × Int)) (a2 : List Int) : ((List Int) × (List (Int × Int)) × (List (Int × Int))) × Int :=
  if ((plan_Check_m a0 a1) : Int) ≠ 0 then (((([], [], []) : (List Int) × (List (Int × Int)) × (List (Int × Int))), (plan_Check_m a0 a1))) else (if (slices_ContainsFunc_int_m a2 ((fun z0 => plan_Of_1_m z0))) = true then (((([], [], []) : (List Int) × (List (Int × Int)) × (List (Int × Int))), 2)) else (LR.seq (plan_killers_m a0 a1) (fun r29 => LR.seq (plan_deaths_m r29 a2) (fun r31 => LR.seq (plan_Of_r1 r31 ((([] : List (Int × Bool)), [], [], []))) (fun or1 => LR.seq (plan_mentions_m a0 a1) (fun r47 => LR.seq (plan_Of_r2 or1.1 r47 (((sortI or1.2.1), or1.2.2.1, or1.2.2.2))) (fun or2 => ((or2.1, or2.2.1, or2.2.2), 0))))))))
set_option maxHeartbeats 3200000 in
theorem plan_Of_c (H : Heap) {tG1 : TypeId} (hG1 : H 1 = some (.cells #[.int .i64 1, .bool true, .bool true, .int .i64 0, .int .i64 1, .int .i64 2, .int .i64 2, .bool true, .bool false, .int .i64 0, .int .i64 0, .int .i64 2] tG1)) (va0 : Value) (a0 : List (Int × (Bool × Bool × Int × Int × Int))) (ha0 : RdS relationE H va0 a0) (va1 : Value) (a1 : List (Int × Int)) (ha1 : RdS heldE H va1 a1) (va2 : Value) (a2 : List Int) (ha2 : RdS (intE .i64) H va2 a2) (hl : a0.length ≤ 2000000) (hh : a1.length ≤ 100) (hf : a2.length ≤ 100) : Fc Tryd.prog (fnv 44) [va0, va1, va2] H [] (fun v' H' L' => ∃ u0_0 u0_1 u0_2 c0_0 c0_1 c0_2, v' = .tuple #[.agg #[u0_0, u0_1, u0_2], .int .i64 (plan_Of_m a0 a1 a2).2] ∧ L' = [c0_0, c0_1, c0_2] ∧ OwnS (intE .i64) 3 H' u0_0 (plan_Of_m a0 a1 a2).1.1 c0_0 ∧ OwnS heldE 73 H' u0_1 (plan_Of_m a0 a1 a2).1.2.1 c0_1 ∧ OwnS heldE 73 H' u0_2 (plan_Of_m a0 a1 a2).1.2.2 c0_2) := by
  refine Fc.of_body (N := 76) Tryd.func44 rfl (by kernel_rfl) rfl rfl ?_
  intro w0
  obtain ⟨Aa0, ca0, rfl, hca0, hda0, ha0⟩ := ha0.shape
  obtain ⟨Aa1, ca1, rfl, hca1, hda1, ha1⟩ := ha1.shape
  obtain ⟨Aa2, ca2, rfl, hca2, hda2, ha2⟩ := ha2.shape
  refine T.seq ?_
  refine T.region ?_
  refine R.alloc Tryd.zeroValue81 rfl ?_
  intro b6
  refine R.asE rfl (by conv => lhs; whnf) ?_
  refine TL.nil (Post.thnN ?_)
  refine T.seq ?_
  refine T.seq ?_
  refine T.region ?_
  refine R.mvE rfl (by conv => lhs; whnf) ?_
  refine R.mvE rfl (by conv => lhs; whnf) ?_
  refine R.callv rfl rfl rfl (plan_Check_c _ hG1 _ a0 ha0 _ a1 ha1 (by first | omega | (simp; done) | (simp; omega) | (simp at *; omega))) ?_
  refine R.asE rfl (by conv => lhs; whnf) ?_
  refine TL.nil (Post.thnN ?_)
  refine T.seq ?_
  refine T.region ?_
  refine R.mvE rfl (by conv => lhs; whnf) ?_
  refine R.neq rfl rfl rfl ?_
  refine TL.nil (Post.thnN ?_)
  refine T.condD rfl (fun c20 => ?_) (fun c20 => ?_)
  · refine T.set 20 (.bool true) (congrArg Value.bool (decide_eq_true c20)) ?_
    refine T.seq ?_
    refine T.region ?_
    refine R.bld (cs := [.slice none 0 0, .slice none 0 0, .slice none 0 0]) rfl (fun _ => by kernel_rfl) ?_
    refine R.mvE rfl (by conv => lhs; whnf) ?_
    refine R.stX (old := [.slice none 0 0, .slice none 0 0, .slice none 0 0]) (l := [.slice none 0 0, .slice none 0 0, .slice none 0 0]) (new := [.slice none 0 0, .slice none 0 0, .slice none 0 0]) (et := 81) Tryd.sizeOf81 rfl rfl rfl rfl rfl (by show 0 + 3 ≤ 3; decide) rfl (all_one rfl) .hd ?_
    refine R.asE rfl (by conv => lhs; whnf) ?_
    refine TL.nil (Post.thnN ?_)
    refine T.has (Has.none (Has.none (Has.none (Has.cons .hd Has.nil)))) ?_
    refine T.ret (Post.thnR ?_)
    have hM : plan_Of_m a0 a1 a2 = ((([], [], []) : (List Int) × (List (Int × Int)) × (List (Int × Int))), (plan_Check_m a0 a1)) := by rw [plan_Of_m, if_pos c20]
    exact finR2 (v := .agg #[.slice none 0 0, .slice none 0 0, .slice none 0 0]) (v' := .int .i64 (plan_Check_m a0 a1)) [[], [], []] rfl (.cellA (cs := [.slice none 0 0, .slice none 0 0, .slice none 0 0]) (l := [.slice none 0 0, .slice none 0 0, .slice none 0 0]) Tryd.isAgg81 Tryd.sizeOf81 rfl (.tl (.tl (.tl .hd))) rfl rfl) (.tmp rfl) (List.sublist_append_left ([[], [], []] : Own) _) ⟨.slice none 0 0, .slice none 0 0, .slice none 0 0, [], [], [], by first | rw [hM] | rfl, rfl, by rw [hM]; exact OwnS.nil, by rw [hM]; exact OwnS.nil, by rw [hM]; exact OwnS.nil⟩
  · refine T.set 20 (.bool false) (congrArg Value.bool (decide_eq_false c20)) ?_
    refine T.skip (Post.thnN ?_)
    refine T.seq ?_
    refine T.seq ?_
    refine T.region ?_
    refine R.mvE rfl (by conv => lhs; whnf) ?_
    refine R.callv rfl rfl rfl (slices_ContainsFunc_int_c _ _ a2 ha2 _ (fun z0 => plan_Of_1_m z0) (fun H2 h2 z0 => plan_Of_1_c H2 z0)) ?_
    refine TL.nil (Post.thnN ?_)
    refine T.cond rfl (fun c24 => ?_) (fun c24 => ?_)
    · refine T.set 24 (.bool true) (congrArg Value.bool c24) ?_
      refine T.seq ?_
      refine T.region ?_
      refine R.bld (cs := [.slice none 0 0, .slice none 0 0, .slice none 0 0]) rfl (fun _ => by kernel_rfl) ?_
      refine R.stX (old := [.slice none 0 0, .slice none 0 0, .slice none 0 0]) (l := [.slice none 0 0, .slice none 0 0, .slice none 0 0]) (new := [.slice none 0 0, .slice none 0 0, .slice none 0 0]) (et := 81) Tryd.sizeOf81 rfl rfl rfl rfl rfl (by show 0 + 3 ≤ 3; decide) rfl (all_one rfl) .hd ?_
      refine R.asE rfl (by conv => lhs; whnf) ?_
      refine TL.nil (Post.thnN ?_)
      refine T.has (Has.none (Has.none (Has.none (Has.cons .hd Has.nil)))) ?_
      refine T.ret (Post.thnR ?_)
      have hM : plan_Of_m a0 a1 a2 = ((([], [], []) : (List Int) × (List (Int × Int)) × (List (Int × Int))), 2) := by rw [plan_Of_m, if_neg c20, if_t c24]
      exact finR2 (v := .agg #[.slice none 0 0, .slice none 0 0, .slice none 0 0]) (v' := .int .i64 2) [[], [], []] rfl (.cellA (cs := [.slice none 0 0, .slice none 0 0, .slice none 0 0]) (l := [.slice none 0 0, .slice none 0 0, .slice none 0 0]) Tryd.isAgg81 Tryd.sizeOf81 rfl (.tl (.tl (.tl .hd))) rfl rfl) (.tmp rfl) (List.sublist_append_left ([[], [], []] : Own) _) ⟨.slice none 0 0, .slice none 0 0, .slice none 0 0, [], [], [], by first | rw [hM] | rfl, rfl, by rw [hM]; exact OwnS.nil, by rw [hM]; exact OwnS.nil, by rw [hM]; exact OwnS.nil⟩
    · refine T.set 24 (.bool false) (congrArg Value.bool c24) ?_
      refine T.skip (Post.thnN ?_)
      refine T.seq ?_
      refine T.region ?_
      refine R.alloc Tryd.zeroValue81 rfl ?_
      intro b9
      refine TL.nil (Post.thnN ?_)
      refine T.seq ?_
      refine T.region ?_
      refine R.mkmV .i64 (fun z : Bool => Value.bool z) rfl ?_
      intro b26 w26
      refine R.alloc Tryd.zeroValue137 rfl ?_
      intro b10
      refine R.stX (old := [.map none]) (l := [.map (some b26)]) (new := [.map (some b26)]) (et := 137) Tryd.sizeOf137 rfl rfl rfl (cells1 rfl) rfl (by show 0 + 1 ≤ 1; decide) rfl (all_one rfl) .hd ?_
      refine TL.shut .hd ?_
      intro Hb10_1 sb10_1 qb10_1
      have hb10_1 : Hb10_1 b10 = some (.cells #[.map (some b26)] 137) := shut1 qb10_1
      refine TL.nil (Post.thnN ?_)
      refine T.seq ?_
      refine T.seq ?_
      refine T.region ?_
      refine R.mvE rfl (by conv => lhs; whnf) ?_
      refine R.mvE rfl (by conv => lhs; whnf) ?_
      obtain ⟨r29, er29⟩ : ∃ r, r = (plan_killers_m a0 a1) := ⟨_, rfl⟩
      refine R.callp rfl rfl rfl (plan_killers_c _ (sb10_1 _ _ hG1) _ a0 (ha0.mono sb10_1) _ a1 (ha1.mono sb10_1) (by first | omega | (simp; done) | (simp; omega) | (simp at *; omega)) (by first | omega | (simp; done) | (simp; omega) | (simp at *; omega))) ?_
      intro v29 H29 s29 q29
      rw [← er29] at q29
      obtain ⟨u29_0_0, rfl, w29_0_0⟩ := q29
      have hby29 : ByOk r29 := kill_by _ _ _ er29 (by first | omega | (simp; done) | (simp; omega) | (simp at *; omega))
      refine R.mvE rfl (by conv => lhs; whnf) ?_
      obtain ⟨r31, er31⟩ : ∃ r, r = (plan_deaths_m r29 a2) := ⟨_, rfl⟩
      refine R.callp rfl rfl rfl (plan_deaths_c _ _ r29 w29_0_0 _ a2 (ha2.mono (sb10_1.trans s29)) (by first | omega | (simp; done) | (simp; omega) | (simp at *; omega)) (by first | omega | (simp; done) | (simp; omega) | (simp at *; omega))) ?_
      intro v31 H31 s31 q31
      rw [← er31] at q31
      obtain ⟨u31_0_0, rfl, w31_0_0⟩ := q31
      have td31 := deaths_facts _ _ _ er31 (by assumption) (by first | omega | (simp; done) | (simp; omega) | (simp at *; omega))
      refine TL.nil (Post.thnN ?_)
      refine T.block ?_
      refine T.rangeFunc (xs := r31) rfl rfl (enters_of Tryd.func122 (by kernel_rfl) rfl) w31_0_0 (fun _ _ _ h => by obtain ⟨_, rfl, _⟩ := h; rfl) rfl (fun pre H' L' => ∃ (xM26r1 : List (Int × Bool)) (esM26r1 : Array MapEntry) (clM26r1 : Nat) (vb9r1_0 : Value) (xb9r1_0 : List Int) (cb9r1_0 : Chunk) (vb9r1_1 : Value) (xb9r1_1 : List (Int × Int)) (cb9r1_1 : Chunk) (vb9r1_2 : Value) (xb9r1_2 : List (Int × Int)) (cb9r1_2 : Chunk), Has L' [[(b26, .map esM26r1 clM26r1)], [(b9, .cells #[vb9r1_0, vb9r1_1, vb9r1_2] 81)], [(b6, .cells #[.slice none 0 0, .slice none 0 0, .slice none 0 0] 81)], cb9r1_0, cb9r1_1, cb9r1_2] ∧ MapV .i64 (fun z : Bool => Value.bool z) esM26r1 xM26r1 ∧ OwnS (intE .i64) 3 H' vb9r1_0 xb9r1_0 cb9r1_0 ∧ OwnS heldE 73 H' vb9r1_1 xb9r1_1 cb9r1_1 ∧ OwnS heldE 73 H' vb9r1_2 xb9r1_2 cb9r1_2 ∧ xb9r1_0.length = pre.length ∧ xb9r1_1.length = 0 ∧ xb9r1_2.length = 0 ∧ plan_Of_r1 (r31.drop pre.length) ((xM26r1, xb9r1_0, xb9r1_1, xb9r1_2)) = plan_Of_r1 r31 ((([] : List (Int × Bool)), [], [], []))) (fun _ _ _ _ => False) (fun pre H H' L hle ⟨xM26r1, esM26r1, clM26r1, vb9r1_0, xb9r1_0, cb9r1_0, vb9r1_1, xb9r1_1, cb9r1_1, vb9r1_2, xb9r1_2, cb9r1_2, hL, wM26r1, wb9r1_0, wb9r1_1, wb9r1_2, hB0, hB1, hB2, hQ⟩ => ⟨xM26r1, esM26r1, clM26r1, vb9r1_0, xb9r1_0, cb9r1_0, vb9r1_1, xb9r1_1, cb9r1_1, vb9r1_2, xb9r1_2, cb9r1_2, hL, wM26r1, (wb9r1_0.mono hle), (wb9r1_1.mono hle), (wb9r1_2.mono hle), hB0, hB1, hB2, hQ⟩) (fun _ _ _ _ _ _ h => h) ?_ ?_ ?_ ?_
      · exact ⟨([] : List (Int × Bool)), #[], 0, .slice none 0 0, [], [], .slice none 0 0, [], [], .slice none 0 0, [], [], (Has.cons .hd (Has.cons .hd (Has.cons .hd (Has.none (Has.none (Has.none Has.nil)))))), w26, OwnS.nil, OwnS.nil, OwnS.nil, (by first | omega | (simp; done) | (simp; omega) | (simp at *; omega)), (by first | omega | (simp; done) | (simp; omega) | (simp at *; omega)), (by first | omega | (simp; done) | (simp; omega) | (simp at *; omega)), (by rfl)⟩
      · intro lr1 rr1 wr1 prer1 yr1 vsr1 Hr1 Lr1 sr1 hpr1 hIr1 hYr1
        obtain ⟨xM26r1, esM26r1, clM26r1, vb9r1_0, xb9r1_0, cb9r1_0, vb9r1_1, xb9r1_1, cb9r1_1, vb9r1_2, xb9r1_2, cb9r1_2, hLr1, wM26r1, wb9r1_0, wb9r1_1, wb9r1_2, hBr1_0, hBr1_1, hBr1_2, hQr1⟩ := hIr1
        obtain ⟨Ab9r1_0, pb9r1_0, rfl, mb9r1_0, nb9r1_0_⟩ := OwnS.shape wb9r1_0
        obtain ⟨Ab9r1_1, pb9r1_1, rfl, mb9r1_1, nb9r1_1_⟩ := OwnS.shape wb9r1_1
        obtain ⟨Ab9r1_2, pb9r1_2, rfl, mb9r1_2, nb9r1_2_⟩ := OwnS.shape wb9r1_2
        obtain ⟨zYr1_1_0, rfl, rYr1_1_0⟩ := hYr1
        obtain ⟨AYr1_1_0, pYr1_1_0, rfl, mYr1_1_0, nYr1_1_0, rYr1_1_0⟩ := rYr1_1_0.shape
        refine T.has hLr1 ?_
        have hlpr1 : prer1.length + 1 ≤ r31.length := by have h0 := hpr1.length_le; simpa using h0
        refine T.region ?_
        refine R.asE rfl (by conv => lhs; whnf) ?_
        refine TL.nil ?_
        refine onlyN.mk ?_
        refine T.block ?_
        refine T.seq ?_
        refine T.region ?_
        refine R.ldH Tryd.isAgg137 rfl rfl ((s29.trans (s31.trans sr1)) _ _ hb10_1) rfl ?_
        refine R.mvE rfl (by conv => lhs; whnf) ?_
        refine R.mupV (f := (fun z : Bool => Value.bool z)) (v := true) Tryd.underlying137 Tryd.underlying3 rfl rfl rfl rfl .hd wM26r1 ?_
        intro esu26_8 clu26_8 wu26_8
        refine TL.nil (Post.thnN ?_)
        refine T.region ?_
        refine R.fldA Tryd.underlying81 rfl Tryd.sizeOf23 (by decide) rfl rfl ?_
        refine R.ld Tryd.isAgg23 rfl rfl (.tl .hd) rfl ?_
        refine R.mvE rfl (by conv => lhs; whnf) ?_
        refine R.bs rfl (run_buildSlice1 Tryd.underlying23 Tryd.sizeOf3 Tryd.zeroValue3 rfl rfl) ?_
        intro b39
        have w39 : OwnS (intE .i64) 3 Hr1 (.slice (some ⟨b39, 0, none⟩) 1 1) [yr1.1] [(b39, .cells #[.int .i64 (yr1.1)] 3)] := OwnS.lit (xs := [yr1.1]) (cellsOf_cons (a := [.int .i64 (yr1.1)]) rfl cellsOf_nil) (by show 1 ≤ maxLen; decide)
        obtain ⟨k40, y40, r40⟩ := Src.ownA w39
        refine R.app (E := (intE .i64)) (e := 3) (xs := xb9r1_0) (ys := [yr1.1]) Tryd_ty23 rfl rfl rfl wb9r1_0 (.tl (.tl (.tl (.tl .hd)))) (r40 _ .hd) y40 (by (try simp only [List.length_append, List.length_cons, List.length_nil, List.length_replicate, List.length_take, List.length_drop]); omega) (by (try simp only [List.length_append, List.length_cons, List.length_nil, List.length_replicate, List.length_take, List.length_drop]); omega) ?_
        intro v40 c40 w40
        obtain ⟨A40, p40, rfl, m40, n40⟩ := OwnS.shape w40
        refine TL.del (.tl .hd) ?_
        refine R.fldA Tryd.underlying81 rfl Tryd.sizeOf23 (by decide) rfl rfl ?_
        refine R.stX (old := [.slice Ab9r1_0 xb9r1_0.length pb9r1_0, .slice Ab9r1_1 xb9r1_1.length pb9r1_1, .slice Ab9r1_2 xb9r1_2.length pb9r1_2]) (l := [.slice A40 (xb9r1_0 ++ [yr1.1]).length p40]) (new := [.slice A40 (xb9r1_0 ++ [yr1.1]).length p40, .slice Ab9r1_1 xb9r1_1.length pb9r1_1, .slice Ab9r1_2 xb9r1_2.length pb9r1_2]) (et := 81) Tryd.sizeOf23 rfl rfl rfl (cells1 rfl) rfl (by show 0 + 1 ≤ 3; decide) rfl (all_one rfl) (.tl (.tl .hd)) ?_
        refine TL.nil (Post.blkN ?_)
        refine id ?_
        exact ⟨(mpu xM26r1 yr1.1 true), esu26_8, clu26_8, .slice A40 (xb9r1_0 ++ [yr1.1]).length p40, (xb9r1_0 ++ [yr1.1]), c40, .slice Ab9r1_1 xb9r1_1.length pb9r1_1, xb9r1_1, cb9r1_1, .slice Ab9r1_2 xb9r1_2.length pb9r1_2, xb9r1_2, cb9r1_2, (Has.cons (.tl .hd) (Has.cons (.tl .hd) (Has.cons (.tl .hd) (Has.cons .hd (Has.cons .hd (Has.cons .hd Has.nil)))))), wu26_8, w40, wb9r1_1, wb9r1_2, (by first | omega | (simp; done) | (simp; omega) | (simp at *; omega)), (by first | omega | (simp; done) | (simp; omega) | (simp at *; omega)), (by first | omega | (simp; done) | (simp; omega) | (simp at *; omega)), (by rw [← hQr1, drop_pre hpr1, plan_Of_r1])⟩
      · intro Dr1 Hr1 Lr1 sr1 hIr1
        obtain ⟨xM26r1, esM26r1, clM26r1, vb9r1_0, xb9r1_0, cb9r1_0, vb9r1_1, xb9r1_1, cb9r1_1, vb9r1_2, xb9r1_2, cb9r1_2, hLr1, wM26r1, wb9r1_0, wb9r1_1, wb9r1_2, hBr1_0, hBr1_1, hBr1_2, hQr1⟩ := hIr1
        obtain ⟨Ab9r1_0, pb9r1_0, rfl, mb9r1_0, nb9r1_0_⟩ := OwnS.shape wb9r1_0
        obtain ⟨Ab9r1_1, pb9r1_1, rfl, mb9r1_1, nb9r1_1_⟩ := OwnS.shape wb9r1_1
        obtain ⟨Ab9r1_2, pb9r1_2, rfl, mb9r1_2, nb9r1_2_⟩ := OwnS.shape wb9r1_2
        have hEr1 : plan_Of_r1 r31 ((([] : List (Int × Bool)), [], [], [])) = (xM26r1, xb9r1_0, xb9r1_1, xb9r1_2) := by rw [← hQr1, List.drop_length, plan_Of_r1]
        refine id (Post.blkN ?_)
        refine id (Post.thnN ?_)
        refine T.has hLr1 ?_
        refine T.seq ?_
        refine T.region ?_
        refine R.fldA Tryd.underlying81 rfl Tryd.sizeOf23 (by decide) rfl rfl ?_
        refine R.ld Tryd.isAgg23 rfl rfl (.tl .hd) rfl ?_
        refine TL.call [false, false, false, true] rfl rfl rfl (sortA_c _ _ _ _ wb9r1_0 (by first | omega | (simp; done) | (simp; omega) | (simp at *; omega))) ?_
        intro v44 H44 L44 s44 q44
        obtain ⟨rfl, c44, rfl, w44⟩ := q44
        refine TL.nil (Post.thnN ?_)
        refine T.seq ?_
        refine T.seq ?_
        refine T.region ?_
        refine R.mvE rfl (by conv => lhs; whnf) ?_
        refine R.mvE rfl (by conv => lhs; whnf) ?_
        obtain ⟨r47, er47⟩ : ∃ r, r = (plan_mentions_m a0 a1) := ⟨_, rfl⟩
        refine R.callp rfl rfl rfl (plan_mentions_c _ ((sb10_1.trans (s29.trans (s31.trans sr1))) _ _ hG1) _ a0 (ha0.mono (sb10_1.trans (s29.trans (s31.trans sr1)))) _ a1 (ha1.mono (sb10_1.trans (s29.trans (s31.trans sr1)))) (by first | omega | (simp; done) | (simp; omega) | (simp at *; omega))) ?_
        intro v47 H47 s47 q47
        rw [← er47] at q47
        obtain ⟨u47_0_0, rfl, w47_0_0⟩ := q47
        have tm47 := ment_fact _ _ _ er47
        refine TL.nil (Post.thnN ?_)
        refine T.block ?_
        refine T.rangeFunc (xs := r47) rfl rfl (enters_of Tryd.func127 (by kernel_rfl) rfl) w47_0_0 (fun _ _ _ h => by obtain ⟨_, rfl, _⟩ := h; rfl) rfl (fun pre H' L' => ∃ (vb9r2_0 : Value) (xb9r2_0 : List Int) (cb9r2_0 : Chunk) (vb9r2_1 : Value) (xb9r2_1 : List (Int × Int)) (cb9r2_1 : Chunk) (vb9r2_2 : Value) (xb9r2_2 : List (Int × Int)) (cb9r2_2 : Chunk), Has L' [[(b26, .map esM26r1 clM26r1)], [(b9, .cells #[vb9r2_0, vb9r2_1, vb9r2_2] 81)], [(b6, .cells #[.slice none 0 0, .slice none 0 0, .slice none 0 0] 81)], cb9r2_0, cb9r2_1, cb9r2_2] ∧ OwnS (intE .i64) 3 H' vb9r2_0 xb9r2_0 cb9r2_0 ∧ OwnS heldE 73 H' vb9r2_1 xb9r2_1 cb9r2_1 ∧ OwnS heldE 73 H' vb9r2_2 xb9r2_2 cb9r2_2 ∧ xb9r2_1.length ≤ pre.length ∧ xb9r2_2.length ≤ pre.length ∧ plan_Of_r2 xM26r1 (r47.drop pre.length) ((xb9r2_0, xb9r2_1, xb9r2_2)) = plan_Of_r2 xM26r1 r47 (((sortI xb9r1_0), xb9r1_1, xb9r1_2))) (fun _ _ _ _ => False) (fun pre H H' L hle ⟨vb9r2_0, xb9r2_0, cb9r2_0, vb9r2_1, xb9r2_1, cb9r2_1, vb9r2_2, xb9r2_2, cb9r2_2, hL, wb9r2_0, wb9r2_1, wb9r2_2, hB0, hB1, hQ⟩ => ⟨vb9r2_0, xb9r2_0, cb9r2_0, vb9r2_1, xb9r2_1, cb9r2_1, vb9r2_2, xb9r2_2, cb9r2_2, hL, (wb9r2_0.mono hle), (wb9r2_1.mono hle), (wb9r2_2.mono hle), hB0, hB1, hQ⟩) (fun _ _ _ _ _ _ h => h) ?_ ?_ ?_ ?_
        · exact ⟨.slice Ab9r1_0 xb9r1_0.length pb9r1_0, (sortI xb9r1_0), c44, .slice Ab9r1_1 xb9r1_1.length pb9r1_1, xb9r1_1, cb9r1_1, .slice Ab9r1_2 xb9r1_2.length pb9r1_2, xb9r1_2, cb9r1_2, (Has.cons (.tl .hd) (Has.cons (.tl .hd) (Has.cons (.tl .hd) (Has.cons .hd (Has.cons .hd (Has.cons .hd Has.nil)))))), (OwnS.mono w44 s47), (OwnS.mono wb9r1_1 s47), (OwnS.mono wb9r1_2 s47), (by first | omega | (simp; done) | (simp; omega) | (simp at *; omega)), (by first | omega | (simp; done) | (simp; omega) | (simp at *; omega)), (by rfl)⟩
        · intro lr2 rr2 wr2 prer2 yr2 vsr2 Hr2 Lr2 sr2 hpr2 hIr2 hYr2
          obtain ⟨vb9r2_0, xb9r2_0, cb9r2_0, vb9r2_1, xb9r2_1, cb9r2_1, vb9r2_2, xb9r2_2, cb9r2_2, hLr2, wb9r2_0, wb9r2_1, wb9r2_2, hBr2_0, hBr2_1, hQr2⟩ := hIr2
          obtain ⟨Ab9r2_0, pb9r2_0, rfl, mb9r2_0, nb9r2_0_⟩ := OwnS.shape wb9r2_0
          obtain ⟨Ab9r2_1, pb9r2_1, rfl, mb9r2_1, nb9r2_1_⟩ := OwnS.shape wb9r2_1
          obtain ⟨Ab9r2_2, pb9r2_2, rfl, mb9r2_2, nb9r2_2_⟩ := OwnS.shape wb9r2_2
          obtain ⟨zYr2_1_0, rfl, rYr2_1_0⟩ := hYr2
          obtain ⟨AYr2_1_0, pYr2_1_0, rfl, mYr2_1_0, nYr2_1_0, rYr2_1_0⟩ := rYr2_1_0.shape
          refine T.has hLr2 ?_
          have hlpr2 : prer2.length + 1 ≤ r47.length := by have h0 := hpr2.length_le; simpa using h0
          refine T.seq ?_
          refine T.region ?_
          refine R.alloc Tryd.zeroValue73 rfl ?_
          intro b12
          refine R.stX (old := [.int .i64 0, .int .u64 0]) (l := [.int .i64 (yr2.1.1), .int .u64 (yr2.1.2)]) (new := [.int .i64 (yr2.1.1), .int .u64 (yr2.1.2)]) (et := 73) Tryd.sizeOf73 rfl rfl rfl rfl rfl (by show 0 + 2 ≤ 2; decide) rfl (all_one rfl) .hd ?_
          refine TL.shut .hd ?_
          intro Hb12_2 sb12_2 qb12_2
          have hb12_2 : Hb12_2 b12 = some (.cells #[.int .i64 (yr2.1.1), .int .u64 (yr2.1.2)] 73) := shut1 qb12_2
          refine TL.nil (Post.thnN ?_)
          refine T.region ?_
          refine R.alloc Tryd.zeroValue141 rfl ?_
          intro b13
          refine R.stX (old := [.slice none 0 0]) (l := [.slice AYr2_1_0 yr2.2.length pYr2_1_0]) (new := [.slice AYr2_1_0 yr2.2.length pYr2_1_0]) (et := 141) Tryd.sizeOf141 rfl rfl rfl (cells1 rfl) rfl (by show 0 + 1 ≤ 1; decide) rfl (all_one rfl) .hd ?_
          refine TL.shut .hd ?_
          intro Hb13_3 sb13_3 qb13_3
          have hb13_3 : Hb13_3 b13 = some (.cells #[.slice AYr2_1_0 yr2.2.length pYr2_1_0] 141) := shut1 qb13_3
          refine TL.nil ?_
          refine onlyN.mk ?_
          refine T.block ?_
          refine T.seq ?_
          refine T.seq ?_
          refine T.region ?_
          refine R.ldH Tryd.isAgg137 rfl rfl ((s29.trans (s31.trans (sr1.trans (s47.trans (sr2.trans (sb12_2.trans sb13_3)))))) _ _ hb10_1) rfl ?_
          refine R.fldA Tryd.underlying73 rfl Tryd.sizeOf3 (by decide) rfl rfl ?_
          refine R.ldH Tryd.isAgg3 rfl rfl (sb13_3 _ _ hb12_2) rfl ?_
          refine R.lkuV (f := (fun z : Bool => Value.bool z)) (z0 := false) Tryd.underlying137 Tryd.underlying3 Tryd.zeroValue4 rfl rfl rfl rfl .hd wM26r1 ?_
          refine TL.nil (Post.thnN ?_)
          refine T.cond rfl (fun c53 => ?_) (fun c53 => ?_)
          · refine T.set 53 (.bool true) (congrArg Value.bool c53) ?_
            refine T.exit (Post.thnE (Post.blkX ?_))
            refine id ?_
            exact ⟨.slice Ab9r2_0 xb9r2_0.length pb9r2_0, xb9r2_0, cb9r2_0, .slice Ab9r2_1 xb9r2_1.length pb9r2_1, xb9r2_1, cb9r2_1, .slice Ab9r2_2 xb9r2_2.length pb9r2_2, xb9r2_2, cb9r2_2, (Has.cons .hd (Has.cons .hd (Has.cons .hd (Has.cons .hd (Has.cons .hd (Has.cons .hd Has.nil)))))), (OwnS.mono wb9r2_0 (sb12_2.trans sb13_3)), (OwnS.mono wb9r2_1 (sb12_2.trans sb13_3)), (OwnS.mono wb9r2_2 (sb12_2.trans sb13_3)), (by first | omega | (simp; done) | (simp; omega) | (simp at *; omega)), (by first | omega | (simp; done) | (simp; omega) | (simp at *; omega)), (by rw [← hQr2, drop_pre hpr2, plan_Of_r2]; rw [if_t c53])⟩
          · refine T.set 53 (.bool false) (congrArg Value.bool c53) ?_
            refine T.skip (Post.thnN ?_)
            refine T.seq ?_
            refine T.region ?_
            refine R.mkf (cs := [_, _]) rfl rfl ?_
            refine R.asE rfl (by conv => lhs; whnf) ?_
            refine TL.nil (Post.thnN ?_)
            refine T.seq ?_
            refine T.region ?_
            refine R.mvE rfl (by conv => lhs; whnf) ?_
            refine R.callvB rfl rfl rfl (fun HB56 sB56 qB56 => by have fB56_0 := MpR.of wM26r1 (In.all .hd qB56); exact (plan_Of_2_c _ b13 _ yr2.2 (rYr2_1_0.mono (sb12_2.trans (sb13_3.trans sB56))) (sB56 _ _ hb13_3) b10 _ xM26r1 fB56_0 ((s29.trans (s31.trans (sr1.trans (s47.trans (sr2.trans (sb12_2.trans (sb13_3.trans sB56))))))) _ _ hb10_1) (2))) ?_
            refine R.asE rfl (by conv => lhs; whnf) ?_
            refine TL.nil (Post.thnN ?_)
            refine T.seq ?_
            refine T.seq ?_
            refine T.region ?_
            refine R.mvE rfl (by conv => lhs; whnf) ?_
            refine TL.nil (Post.thnN ?_)
            refine T.cutK (ι := Value × (List Int) × Chunk × Value × (List (Int × Int)) × Chunk × Value × (List (Int × Int)) × Chunk) (fun ⟨vb9c3_0, xb9c3_0, cb9c3_0, vb9c3_1, xb9c3_1, cb9c3_1, vb9c3_2, xb9c3_2, cb9c3_2⟩ H' L' ds' => Has L' [[(b26, .map esM26r1 clM26r1)], [(b9, .cells #[vb9c3_0, vb9c3_1, vb9c3_2] 81)], [(b6, .cells #[.slice none 0 0, .slice none 0 0, .slice none 0 0] 81)], cb9c3_0, cb9c3_1, cb9c3_2] ∧ OwnS (intE .i64) 3 H' vb9c3_0 xb9c3_0 cb9c3_0 ∧ OwnS heldE 73 H' vb9c3_1 xb9c3_1 cb9c3_1 ∧ OwnS heldE 73 H' vb9c3_2 xb9c3_2 cb9c3_2 ∧ xb9c3_1.length ≤ prer2.length ∧ xb9c3_2.length ≤ prer2.length + 1 ∧ (if (plan_Of_2_m yr2.2 xM26r1 2) = true then ((xb9r2_0, xb9r2_1, (xb9r2_2 ++ [yr2.1]))) else ((xb9r2_0, xb9r2_1, xb9r2_2)) : (List Int) × (List (Int × Int)) × (List (Int × Int))) = (xb9c3_0, xb9c3_1, xb9c3_2)) (fun ⟨vb9c3_0, xb9c3_0, cb9c3_0, vb9c3_1, xb9c3_1, cb9c3_1, vb9c3_2, xb9c3_2, cb9c3_2⟩ => [(6, .pointer (some ⟨b6, 0, none⟩)), (9, .pointer (some ⟨b9, 0, none⟩)), (10, .pointer (some ⟨b10, 0, none⟩)), (12, .pointer (some ⟨b12, 0, none⟩)), (14, .func (.func 93) #[] ([.pointer (some ⟨b13, 0, none⟩), .pointer (some ⟨b10, 0, none⟩)] : List Value).toArray), (15, .bool ((plan_Of_2_m yr2.2 xM26r1 2)))]) ?_ ?_
            · refine T.cond rfl (fun c57 => ?_) (fun c57 => ?_)
              · refine T.set 57 (.bool true) (congrArg Value.bool c57) ?_
                refine T.region ?_
                refine R.fldA Tryd.underlying81 rfl Tryd.sizeOf60 (by decide) rfl rfl ?_
                refine R.ld Tryd.isAgg60 rfl rfl (.tl .hd) rfl ?_
                refine R.ldXH (cs := [.int .i64 (yr2.1.1), .int .u64 (yr2.1.2)]) (l := [.int .i64 (yr2.1.1), .int .u64 (yr2.1.2)]) Tryd.isAgg73 Tryd.sizeOf73 rfl rfl (sb13_3 _ _ hb12_2) rfl rfl ?_
                refine R.bs (e := 73) (cs := [.int .i64 (yr2.1.1), .int .u64 (yr2.1.2)]) rfl (fun _ => by kernel_rfl) ?_
                intro b61
                have w61 : OwnS heldE 73 Hb13_3 (.slice (some ⟨b61, 0, none⟩) 1 1) [yr2.1] [(b61, .cells #[.int .i64 (yr2.1.1), .int .u64 (yr2.1.2)] 73)] := OwnS.lit (xs := [yr2.1]) (cellsOf_cons (a := [.int .i64 (yr2.1.1), .int .u64 (yr2.1.2)]) rfl cellsOf_nil) (by show 1 ≤ maxLen; decide)
                obtain ⟨k62, y62, r62⟩ := Src.ownA w61
                refine R.app (E := heldE) (e := 73) (xs := xb9r2_2) (ys := [yr2.1]) Tryd_ty60 rfl rfl rfl (OwnS.mono wb9r2_2 (sb12_2.trans sb13_3)) (.tl (.tl (.tl (.tl (.tl (.tl .hd)))))) (r62 _ .hd) y62 (by (try simp only [List.length_append, List.length_cons, List.length_nil, List.length_replicate, List.length_take, List.length_drop]); omega) (by (try simp only [List.length_append, List.length_cons, List.length_nil, List.length_replicate, List.length_take, List.length_drop]); omega) ?_
                intro v62 c62 w62
                obtain ⟨A62, p62, rfl, m62, n62⟩ := OwnS.shape w62
                refine TL.del (.tl .hd) ?_
                refine R.fldA Tryd.underlying81 rfl Tryd.sizeOf60 (by decide) rfl rfl ?_
                refine R.stX (old := [.slice Ab9r2_0 xb9r2_0.length pb9r2_0, .slice Ab9r2_1 xb9r2_1.length pb9r2_1, .slice Ab9r2_2 xb9r2_2.length pb9r2_2]) (l := [.slice A62 (xb9r2_2 ++ [yr2.1]).length p62]) (new := [.slice Ab9r2_0 xb9r2_0.length pb9r2_0, .slice Ab9r2_1 xb9r2_1.length pb9r2_1, .slice A62 (xb9r2_2 ++ [yr2.1]).length p62]) (et := 81) Tryd.sizeOf60 rfl rfl rfl (cells1 rfl) rfl (by show 2 + 1 ≤ 3; decide) rfl (all_one rfl) (.tl (.tl .hd)) ?_
                refine TL.nil (Post.thnN ?_)
                exact ⟨(.slice Ab9r2_0 xb9r2_0.length pb9r2_0, xb9r2_0, cb9r2_0, .slice Ab9r2_1 xb9r2_1.length pb9r2_1, xb9r2_1, cb9r2_1, .slice A62 (xb9r2_2 ++ [yr2.1]).length p62, (xb9r2_2 ++ [yr2.1]), c62), HLe.refl _, ⟨(Has.cons (.tl .hd) (Has.cons (.tl .hd) (Has.cons (.tl .hd) (Has.cons (.tl .hd) (Has.cons (.tl .hd) (Has.cons .hd Has.nil)))))), (OwnS.mono wb9r2_0 (sb12_2.trans sb13_3)), (OwnS.mono wb9r2_1 (sb12_2.trans sb13_3)), w62, (by first | omega | (simp; done) | (simp; omega) | (simp at *; omega)), (by first | omega | (simp; done) | (simp; omega) | (simp at *; omega)), (by rw [if_t c57])⟩, rfl, rfl, rfl, rfl, rfl, rfl, trivial⟩
              · refine T.set 57 (.bool false) (congrArg Value.bool c57) ?_
                refine T.skip (Post.thnN ?_)
                exact ⟨(.slice Ab9r2_0 xb9r2_0.length pb9r2_0, xb9r2_0, cb9r2_0, .slice Ab9r2_1 xb9r2_1.length pb9r2_1, xb9r2_1, cb9r2_1, .slice Ab9r2_2 xb9r2_2.length pb9r2_2, xb9r2_2, cb9r2_2), HLe.refl _, ⟨(Has.cons .hd (Has.cons .hd (Has.cons .hd (Has.cons .hd (Has.cons .hd (Has.cons .hd Has.nil)))))), (OwnS.mono wb9r2_0 (sb12_2.trans sb13_3)), (OwnS.mono wb9r2_1 (sb12_2.trans sb13_3)), (OwnS.mono wb9r2_2 (sb12_2.trans sb13_3)), (by first | omega | (simp; done) | (simp; omega) | (simp at *; omega)), (by first | omega | (simp; done) | (simp; omega) | (simp at *; omega)), (by rw [if_f c57])⟩, rfl, rfl, rfl, rfl, rfl, rfl, trivial⟩
            · intro ⟨vb9c3_0, xb9c3_0, cb9c3_0, vb9c3_1, xb9c3_1, cb9c3_1, vb9c3_2, xb9c3_2, cb9c3_2⟩ σ_c3 H_c3 L_c3 ds_c3 s_c3 hI_c3
              obtain ⟨hLc3, wb9c3_0, wb9c3_1, wb9c3_2, hBc3_0, hBc3_1, hTc3⟩ := hI_c3
              obtain ⟨Ab9c3_0, pb9c3_0, rfl, mb9c3_0, nb9c3_0_⟩ := OwnS.shape wb9c3_0
              obtain ⟨Ab9c3_1, pb9c3_1, rfl, mb9c3_1, nb9c3_1_⟩ := OwnS.shape wb9c3_1
              obtain ⟨Ab9c3_2, pb9c3_2, rfl, mb9c3_2, nb9c3_2_⟩ := OwnS.shape wb9c3_2
              refine T.has hLc3 ?_
              refine T.seq ?_
              refine T.cutK (ι := Bool) (fun b68c4 H' L' ds' => Has L' [[(b26, .map esM26r1 clM26r1)], [(b9, .cells #[.slice Ab9c3_0 xb9c3_0.length pb9c3_0, .slice Ab9c3_1 xb9c3_1.length pb9c3_1, .slice Ab9c3_2 xb9c3_2.length pb9c3_2] 81)], [(b6, .cells #[.slice none 0 0, .slice none 0 0, .slice none 0 0] 81)], cb9c3_0, cb9c3_1, cb9c3_2] ∧ (if (plan_Of_2_m yr2.2 xM26r1 2) = true then true else ((plan_Of_2_m yr2.2 xM26r1 0)) : Bool) = b68c4) (fun b68c4 => [(6, .pointer (some ⟨b6, 0, none⟩)), (9, .pointer (some ⟨b9, 0, none⟩)), (10, .pointer (some ⟨b10, 0, none⟩)), (12, .pointer (some ⟨b12, 0, none⟩)), (68, .bool (b68c4))]) ?_ ?_
              · refine T.region ?_
                refine R.mvE rfl (by conv => lhs; whnf) ?_
                refine R.mvE rfl (by conv => lhs; whnf) ?_
                refine TL.gsplit 65 rfl (fun g65 => ?_) (fun g65 => ?_)
                · refine TL.off rfl rfl rfl ?_
                  refine TL.off rfl rfl rfl ?_
                  refine R.pkTE rfl rfl (by conv => lhs; whnf) ?_
                  refine TL.nil (Post.thnN ?_)
                  exact ⟨true, HLe.refl _, ⟨(Has.cons .hd (Has.cons .hd (Has.cons .hd (Has.cons .hd (Has.cons .hd (Has.cons .hd Has.nil)))))), (by rw [if_t g65])⟩, rfl, rfl, rfl, rfl, rfl, trivial⟩
                · refine R.mvE rfl (by conv => lhs; whnf) ?_
                  refine R.callvB rfl rfl rfl (fun HB67 sB67 qB67 => by have fB67_0 := MpR.of wM26r1 (In.all .hd qB67); exact (plan_Of_2_c _ b13 _ yr2.2 (rYr2_1_0.mono (sb12_2.trans (sb13_3.trans (s_c3.trans sB67)))) ((s_c3.trans sB67) _ _ hb13_3) b10 _ xM26r1 fB67_0 ((s29.trans (s31.trans (sr1.trans (s47.trans (sr2.trans (sb12_2.trans (sb13_3.trans (s_c3.trans sB67)))))))) _ _ hb10_1) (0))) ?_
                  refine R.pkFE rfl rfl (by conv => lhs; whnf) ?_
                  refine TL.nil (Post.thnN ?_)
                  exact ⟨(plan_Of_2_m yr2.2 xM26r1 0), HLe.refl _, ⟨(Has.cons .hd (Has.cons .hd (Has.cons .hd (Has.cons .hd (Has.cons .hd (Has.cons .hd Has.nil)))))), (by rw [if_f g65])⟩, rfl, rfl, rfl, rfl, rfl, trivial⟩
              · intro b68c4 σ_c4 H_c4 L_c4 ds_c4 s_c4 hI_c4
                obtain ⟨hLc4, hTc4⟩ := hI_c4
                refine T.has hLc4 ?_
                refine T.cond rfl (fun c68 => ?_) (fun c68 => ?_)
                · refine T.set 68 (.bool true) (congrArg Value.bool c68) ?_
                  have hZ68 := hTc4.trans c68
                  try simp only [or_f, or_t, and_f, and_t, decide_eq_true_eq, decide_eq_false_iff_not, Bool.not_eq_true'] at hZ68
                  refine T.region ?_
                  refine R.fldA Tryd.underlying81 rfl Tryd.sizeOf60 (by decide) rfl rfl ?_
                  refine R.ld Tryd.isAgg60 rfl rfl (.tl .hd) rfl ?_
                  refine R.ldXH (cs := [.int .i64 (yr2.1.1), .int .u64 (yr2.1.2)]) (l := [.int .i64 (yr2.1.1), .int .u64 (yr2.1.2)]) Tryd.isAgg73 Tryd.sizeOf73 rfl rfl ((sb13_3.trans (s_c3.trans s_c4)) _ _ hb12_2) rfl rfl ?_
                  refine R.bs (e := 73) (cs := [.int .i64 (yr2.1.1), .int .u64 (yr2.1.2)]) rfl (fun _ => by kernel_rfl) ?_
                  intro b72
                  have w72 : OwnS heldE 73 H_c4 (.slice (some ⟨b72, 0, none⟩) 1 1) [yr2.1] [(b72, .cells #[.int .i64 (yr2.1.1), .int .u64 (yr2.1.2)] 73)] := OwnS.lit (xs := [yr2.1]) (cellsOf_cons (a := [.int .i64 (yr2.1.1), .int .u64 (yr2.1.2)]) rfl cellsOf_nil) (by show 1 ≤ maxLen; decide)
                  obtain ⟨k73, y73, r73⟩ := Src.ownA w72
                  refine R.app (E := heldE) (e := 73) (xs := xb9c3_1) (ys := [yr2.1]) Tryd_ty60 rfl rfl rfl (OwnS.mono wb9c3_1 s_c4) (.tl (.tl (.tl (.tl (.tl .hd))))) (r73 _ .hd) y73 (by (try simp only [List.length_append, List.length_cons, List.length_nil, List.length_replicate, List.length_take, List.length_drop]); omega) (by (try simp only [List.length_append, List.length_cons, List.length_nil, List.length_replicate, List.length_take, List.length_drop]); omega) ?_
                  intro v73 c73 w73
                  obtain ⟨A73, p73, rfl, m73, n73⟩ := OwnS.shape w73
                  refine TL.del (.tl .hd) ?_
                  refine R.fldA Tryd.underlying81 rfl Tryd.sizeOf60 (by decide) rfl rfl ?_
                  refine R.stX (old := [.slice Ab9c3_0 xb9c3_0.length pb9c3_0, .slice Ab9c3_1 xb9c3_1.length pb9c3_1, .slice Ab9c3_2 xb9c3_2.length pb9c3_2]) (l := [.slice A73 (xb9c3_1 ++ [yr2.1]).length p73]) (new := [.slice Ab9c3_0 xb9c3_0.length pb9c3_0, .slice A73 (xb9c3_1 ++ [yr2.1]).length p73, .slice Ab9c3_2 xb9c3_2.length pb9c3_2]) (et := 81) Tryd.sizeOf60 rfl rfl rfl (cells1 rfl) rfl (by show 1 + 1 ≤ 3; decide) rfl (all_one rfl) (.tl (.tl .hd)) ?_
                  refine TL.nil (Post.blkN ?_)
                  refine id ?_
                  exact ⟨.slice Ab9c3_0 xb9c3_0.length pb9c3_0, xb9c3_0, cb9c3_0, .slice A73 (xb9c3_1 ++ [yr2.1]).length p73, (xb9c3_1 ++ [yr2.1]), c73, .slice Ab9c3_2 xb9c3_2.length pb9c3_2, xb9c3_2, cb9c3_2, (Has.cons (.tl .hd) (Has.cons (.tl .hd) (Has.cons (.tl .hd) (Has.cons (.tl .hd) (Has.cons .hd (Has.cons .hd Has.nil)))))), (OwnS.mono wb9c3_0 s_c4), w73, (OwnS.mono wb9c3_2 s_c4), (by first | omega | (simp; done) | (simp; omega) | (simp at *; omega)), (by first | omega | (simp; done) | (simp; omega) | (simp at *; omega)), (by rw [← hQr2, drop_pre hpr2, plan_Of_r2]; rw [if_f c53, hTc3, LR.seq_go, hTc4, LR.seq_go, if_t c68])⟩
                · refine T.set 68 (.bool false) (congrArg Value.bool c68) ?_
                  have hZ68 := hTc4.trans c68
                  try simp only [or_f, or_t, and_f, and_t, decide_eq_true_eq, decide_eq_false_iff_not, Bool.not_eq_true'] at hZ68
                  refine T.skip (Post.blkN ?_)
                  refine id ?_
                  exact ⟨.slice Ab9c3_0 xb9c3_0.length pb9c3_0, xb9c3_0, cb9c3_0, .slice Ab9c3_1 xb9c3_1.length pb9c3_1, xb9c3_1, cb9c3_1, .slice Ab9c3_2 xb9c3_2.length pb9c3_2, xb9c3_2, cb9c3_2, (Has.cons .hd (Has.cons .hd (Has.cons .hd (Has.cons .hd (Has.cons .hd (Has.cons .hd Has.nil)))))), (OwnS.mono wb9c3_0 s_c4), (OwnS.mono wb9c3_1 s_c4), (OwnS.mono wb9c3_2 s_c4), (by first | omega | (simp; done) | (simp; omega) | (simp at *; omega)), (by first | omega | (simp; done) | (simp; omega) | (simp at *; omega)), (by rw [← hQr2, drop_pre hpr2, plan_Of_r2]; rw [if_f c53, hTc3, LR.seq_go, hTc4, LR.seq_go, if_f c68])⟩
        · intro Dr2 Hr2 Lr2 sr2 hIr2
          obtain ⟨vb9r2_0, xb9r2_0, cb9r2_0, vb9r2_1, xb9r2_1, cb9r2_1, vb9r2_2, xb9r2_2, cb9r2_2, hLr2, wb9r2_0, wb9r2_1, wb9r2_2, hBr2_0, hBr2_1, hQr2⟩ := hIr2
          obtain ⟨Ab9r2_0, pb9r2_0, rfl, mb9r2_0, nb9r2_0_⟩ := OwnS.shape wb9r2_0
          obtain ⟨Ab9r2_1, pb9r2_1, rfl, mb9r2_1, nb9r2_1_⟩ := OwnS.shape wb9r2_1
          obtain ⟨Ab9r2_2, pb9r2_2, rfl, mb9r2_2, nb9r2_2_⟩ := OwnS.shape wb9r2_2
          have hEr2 : plan_Of_r2 xM26r1 r47 (((sortI xb9r1_0), xb9r1_1, xb9r1_2)) = (xb9r2_0, xb9r2_1, xb9r2_2) := by rw [← hQr2, List.drop_length, plan_Of_r2]
          refine id (Post.blkN ?_)
          refine id (Post.thnN ?_)
          refine T.has hLr2 ?_
          refine T.seq ?_
          refine T.region ?_
          refine R.ldX (cs := [.slice Ab9r2_0 xb9r2_0.length pb9r2_0, .slice Ab9r2_1 xb9r2_1.length pb9r2_1, .slice Ab9r2_2 xb9r2_2.length pb9r2_2]) (l := [.slice Ab9r2_0 xb9r2_0.length pb9r2_0, .slice Ab9r2_1 xb9r2_1.length pb9r2_1, .slice Ab9r2_2 xb9r2_2.length pb9r2_2]) Tryd.isAgg81 Tryd.sizeOf81 rfl rfl (.tl .hd) rfl rfl ?_
          refine R.stX (old := [.slice none 0 0, .slice none 0 0, .slice none 0 0]) (l := [.slice Ab9r2_0 xb9r2_0.length pb9r2_0, .slice Ab9r2_1 xb9r2_1.length pb9r2_1, .slice Ab9r2_2 xb9r2_2.length pb9r2_2]) (new := [.slice Ab9r2_0 xb9r2_0.length pb9r2_0, .slice Ab9r2_1 xb9r2_1.length pb9r2_1, .slice Ab9r2_2 xb9r2_2.length pb9r2_2]) (et := 81) Tryd.sizeOf81 rfl rfl rfl rfl rfl (by show 0 + 3 ≤ 3; decide) rfl (all_one rfl) (.tl (.tl .hd)) ?_
          refine R.asE rfl (by conv => lhs; whnf) ?_
          refine TL.nil (Post.thnN ?_)
          refine T.has (Has.cons (.tl (.tl (.tl .hd))) (Has.cons (.tl (.tl (.tl .hd))) (Has.cons (.tl (.tl (.tl .hd))) (Has.cons (.tl (.tl .hd)) Has.nil)))) ?_
          refine T.ret ?_
          have hM : plan_Of_m a0 a1 a2 = ((xb9r2_0, xb9r2_1, xb9r2_2), 0) := by subst er47; subst er31; subst er29; rw [plan_Of_m, if_neg c20, if_f c24, LR.seq_go, LR.seq_go, hEr1, LR.seq_go, LR.seq_go, hEr2, LR.seq_go]
          exact finR2 (v := .agg #[.slice Ab9r2_0 xb9r2_0.length pb9r2_0, .slice Ab9r2_1 xb9r2_1.length pb9r2_1, .slice Ab9r2_2 xb9r2_2.length pb9r2_2]) (v' := .int .i64 0) [cb9r2_0, cb9r2_1, cb9r2_2] rfl (.cellA (cs := [.slice Ab9r2_0 xb9r2_0.length pb9r2_0, .slice Ab9r2_1 xb9r2_1.length pb9r2_1, .slice Ab9r2_2 xb9r2_2.length pb9r2_2]) (l := [.slice Ab9r2_0 xb9r2_0.length pb9r2_0, .slice Ab9r2_1 xb9r2_1.length pb9r2_1, .slice Ab9r2_2 xb9r2_2.length pb9r2_2]) Tryd.isAgg81 Tryd.sizeOf81 rfl (.tl (.tl (.tl .hd))) rfl rfl) (.tmp rfl) (List.sublist_append_left ([cb9r2_0, cb9r2_1, cb9r2_2] : Own) _) ⟨.slice Ab9r2_0 xb9r2_0.length pb9r2_0, .slice Ab9r2_1 xb9r2_1.length pb9r2_1, .slice Ab9r2_2 xb9r2_2.length pb9r2_2, cb9r2_0, cb9r2_1, cb9r2_2, by first | rw [hM] | rfl, rfl, by rw [hM]; exact wb9r2_0, by rw [hM]; exact wb9r2_1, by rw [hM]; exact wb9r2_2⟩
        · intro Dr2 cr2 prer2 yr2 Hr2 Lr2 sr2 hpr2 hIr2
          exact hIr2.elim
      · intro Dr1 cr1 prer1 yr1 Hr1 Lr1 sr1 hpr1 hIr1
        exact hIr1.elim

def slices_IndexFunc_Held_l1 (a1 : (Int × Int) → Bool) : List (Int × Int) → Nat → Unit → LR (Int) (Unit)
  | [], kl1, sl1 => .go ()
  | yl1 :: ysl1, kl1, sl1 => if (a1 yl1) = true then (.ret ((kl1 : Int))) else (slices_IndexFunc_Held_l1 a1 ysl1 (kl1 + 1) ())
def slices_IndexFunc_Held_m (a0 : List (Int × Int)) (a1 : (Int × Int) → Bool) : Int :=
  LR.on (slices_IndexFunc_Held_l1 a1 a0 0 ()) (fun r => r) (fun ol1 => (-1))
set_option maxHeartbeats 3200000 in
theorem slices_IndexFunc_Held_c (H : Heap) (va0 : Value) (a0 : List (Int × Int)) (ha0 : RdS heldE H va0 a0) (fa1 : Value) (a1 : (Int × Int) → Bool) (ha1 : ∀ H', HLe H H' → ∀ (z0 : Int × Int), Fv Tryd.prog fa1 [.agg #[.int .i64 z0.1, .int .u64 z0.2]] H' (.bool (a1 z0))) : Fv Tryd.prog (fnv 135) [va0, fa1] H (.int .i64 (slices_IndexFunc_Held_m a0 a1)) := by
  refine Fc.of_body (N := 19) Tryd.func135 rfl (by kernel_rfl) rfl rfl ?_
  intro w0
  obtain ⟨Aa0, ca0, rfl, hca0, hda0, ha0⟩ := ha0.shape
  refine T.seq ?_
  refine T.region ?_
  refine R.asE rfl (by conv => lhs; whnf) ?_
  refine TL.nil (Post.thnN ?_)
  refine T.seq ?_
  refine T.seq ?_
  refine T.region ?_
  refine R.mvE rfl (by conv => lhs; whnf) ?_
  refine R.len Tryd.underlying60 rfl rfl ?_
  refine R.mvE rfl (by conv => lhs; whnf) ?_
  refine TL.nil (Post.thnN ?_)
  refine T.block ?_
  refine T.loop (ι := Nat) (fun kl1 H' L' ds' => kl1 ≤ a0.length ∧ Has L' [] ∧ slices_IndexFunc_Held_l1 a1 (a0.drop kl1) kl1 () = slices_IndexFunc_Held_l1 a1 a0 0 ()) (fun kl1 => [(8, .int .i64 (kl1 : Int)), (0, .slice Aa0 a0.length ca0), (1, fa1), (7, .int .i64 (a0.length : Int))]) (fun kl1 => a0.length - kl1) 0 ?_ ?_ ?_
  · exact ⟨(by omega), Has.nil, (by rfl)⟩
  · exact ⟨rfl, rfl, rfl, rfl, trivial⟩
  · intro kl1 σ_l1 H_l1 L_l1 ds_l1 s_l1 hI_l1
    obtain ⟨hkl1, hI_l1⟩ := hI_l1
    obtain ⟨hLl1, hQl1⟩ := hI_l1
    refine T.has hLl1 ?_
    refine T.seq ?_
    refine T.region ?_
    refine R.lss rfl rfl rfl ?_
    refine TL.nil (Post.thnN ?_)
    refine T.seq ?_
    refine T.condD rfl (fun c9 => ?_) (fun c9 => ?_)
    · have hltl1 : kl1 < a0.length := by omega
      obtain ⟨yl1, hyl1⟩ := getk (xs := a0) (k := kl1) (by omega)
      refine T.skip (Post.thnN ?_)
      refine T.seq ?_
      refine T.block ?_
      refine T.seq ?_
      refine T.region ?_
      refine R.mvE rfl (by conv => lhs; whnf) ?_
      refine R.asE rfl (by conv => lhs; whnf) ?_
      refine TL.nil (Post.thnN ?_)
      refine T.seq ?_
      refine T.region ?_
      refine R.mvE rfl (by conv => lhs; whnf) ?_
      refine R.mvE rfl (by conv => lhs; whnf) ?_
      refine R.mvE rfl (by conv => lhs; whnf) ?_
      obtain ⟨b14, o14, i14, k14⟩ := RdS.elem (ha0.mono s_l1) hyl1
      obtain ⟨l14, g14, k14⟩ := k14
      obtain rfl : l14 = [.int .i64 (yl1.1), .int .u64 (yl1.2)] := g14
      refine R.ixp Tryd.underlying60 Tryd.sizeOf73 rfl rfl rfl (by omega) i14 ?_
      refine R.ldK (l := [.int .i64 (yl1.1), .int .u64 (yl1.2)]) Tryd.isAgg73 Tryd.sizeOf73 rfl rfl k14 rfl ?_
      refine R.callv rfl rfl rfl (ha1 _ s_l1 yl1) ?_
      refine TL.nil (Post.thnN ?_)
      refine T.cond rfl (fun c16 => ?_) (fun c16 => ?_)
      · refine T.set 16 (.bool true) (congrArg Value.bool c16) ?_
        refine T.seq ?_
        refine T.region ?_
        refine R.mvE rfl (by conv => lhs; whnf) ?_
        refine R.asE rfl (by conv => lhs; whnf) ?_
        refine TL.nil (Post.thnN ?_)
        refine T.has Has.nil ?_
        refine T.ret (Post.blkR (Post.thnR (Post.thnR (Post.blkR (Post.thnR ?_)))))
        have hXl1 : slices_IndexFunc_Held_l1 a1 a0 0 () = .ret ((kl1 : Int)) := by rw [← hQl1, drop_cons hyl1, slices_IndexFunc_Held_l1]; rw [if_t c16]
        have hM : slices_IndexFunc_Held_m a0 a1 = (kl1 : Int) := by rw [slices_IndexFunc_Held_m, hXl1, LR.on_ret]
        exact fin1L (v := .int .i64 (kl1 : Int)) [] rfl rfl (List.Sublist.refl _) ⟨rfl, by first | rw [hM] | rfl⟩
      · refine T.set 16 (.bool false) (congrArg Value.bool c16) ?_
        refine T.skip (Post.blkN ?_)
        refine id (Post.thnN ?_)
        refine T.region ?_
        refine R.addI rfl rfl rfl (by omega) ?_
        refine R.mvE rfl (by conv => lhs; whnf) ?_
        refine TL.nil (Post.thnN ?_)
        exact ⟨kl1 + 1, s_l1, ⟨(by omega), Has.nil, (by rw [← hQl1, drop_cons hyl1, slices_IndexFunc_Held_l1]; rw [if_f c16])⟩, by show a0.length - (kl1 + 1) < a0.length - kl1; omega, rfl, rfl, rfl, rfl, trivial⟩
    · refine T.exit (Post.thnE (Post.thnE (Post.blkX ?_)))
      have hEl1 : slices_IndexFunc_Held_l1 a1 a0 0 () = .go () := (hQl1.symm.trans (by rw [show kl1 = a0.length by omega, List.drop_length, slices_IndexFunc_Held_l1]))
      refine id (Post.thnN ?_)
      refine T.seq ?_
      refine T.region ?_
      refine R.asE rfl (by conv => lhs; whnf) ?_
      refine TL.nil (Post.thnN ?_)
      refine T.has Has.nil ?_
      refine T.ret ?_
      have hM : slices_IndexFunc_Held_m a0 a1 = (-1) := by rw [slices_IndexFunc_Held_m, hEl1, LR.on_go]
      exact fin1L (v := .int .i64 (-1)) [] rfl rfl (List.Sublist.refl _) ⟨rfl, by first | rw [hM] | rfl⟩

def slices_ContainsFunc_Held_m (a0 : List (Int × Int)) (a1 : (Int × Int) → Bool) : Bool :=
  (decide ((0 : Int) ≤ (slices_IndexFunc_Held_m a0 a1)))
set_option maxHeartbeats 3200000 in
theorem slices_ContainsFunc_Held_c (H : Heap) (va0 : Value) (a0 : List (Int × Int)) (ha0 : RdS heldE H va0 a0) (fa1 : Value) (a1 : (Int × Int) → Bool) (ha1 : ∀ H', HLe H H' → ∀ (z0 : Int × Int), Fv Tryd.prog fa1 [.agg #[.int .i64 z0.1, .int .u64 z0.2]] H' (.bool (a1 z0))) : Fv Tryd.prog (fnv 100) [va0, fa1] H (.bool (slices_ContainsFunc_Held_m a0 a1)) := by
  refine Fc.of_body (N := 9) Tryd.func100 rfl (by kernel_rfl) rfl rfl ?_
  intro w0
  obtain ⟨Aa0, ca0, rfl, hca0, hda0, ha0⟩ := ha0.shape
  refine T.seq ?_
  refine T.region ?_
  refine R.asE rfl (by conv => lhs; whnf) ?_
  refine TL.nil (Post.thnN ?_)
  refine T.seq ?_
  refine T.region ?_
  refine R.mvE rfl (by conv => lhs; whnf) ?_
  refine R.mvE rfl (by conv => lhs; whnf) ?_
  refine R.callv rfl rfl rfl (slices_IndexFunc_Held_c _ _ a0 ha0 _ a1 (fun H' h' => ha1 H' ((HLe.refl _).trans h'))) ?_
  refine R.geq rfl rfl rfl ?_
  refine R.asE rfl (by conv => lhs; whnf) ?_
  refine TL.nil (Post.thnN ?_)
  refine T.has Has.nil ?_
  refine T.ret ?_
  have hM : slices_ContainsFunc_Held_m a0 a1 = (decide ((0 : Int) ≤ (slices_IndexFunc_Held_m a0 a1))) := by rw [slices_ContainsFunc_Held_m]
  exact fin1L (v := .bool (decide ((0 : Int) ≤ (slices_IndexFunc_Held_m a0 a1)))) [] rfl rfl (List.Sublist.refl _) ⟨rfl, by first | rw [hM] | rfl⟩

def plan_Closed_1_m (q0 : List Int) (a0 : Int × Int) : Bool :=
  (decide (¬ (a0.1 ∈ q0)))
set_option maxHeartbeats 3200000 in
theorem plan_Closed_1_c (H : Heap) (b1000 : Nat) (vq0 : Value) (q0 : List Int) (hq0 : RdS (intE .i64) H vq0 q0) (hb0 : H b1000 = some (.cells #[vq0] 23)) (a0 : Int × Int) : Fv Tryd.prog (.func (.func 101) #[] ([.pointer (some ⟨b1000, 0, none⟩)] : List Value).toArray) [.agg #[.int .i64 a0.1, .int .u64 a0.2]] H (.bool (plan_Closed_1_m q0 a0)) := by
  refine Fc.of_body (N := 9) Tryd.func101 rfl (by kernel_rfl) rfl rfl ?_
  intro w0
  obtain ⟨Aq0, cq0, rfl, hcq0, hdq0, hq0⟩ := hq0.shape
  refine T.seq ?_
  refine T.region ?_
  refine R.box rfl (by conv => lhs; whnf) ?_
  intro b2
  refine R.asE rfl (by conv => lhs; whnf) ?_
  refine TL.shut .hd ?_
  intro Hb2_1 sb2_1 qb2_1
  have hb2_1 : Hb2_1 b2 = some (.cells #[.int .i64 (a0.1), .int .u64 (a0.2)] 73) := shut1 qb2_1
  refine TL.nil (Post.thnN ?_)
  refine T.seq ?_
  refine T.region ?_
  refine R.ldH Tryd.isAgg23 rfl rfl (sb2_1 _ _ hb0) rfl ?_
  refine R.fldA Tryd.underlying73 rfl Tryd.sizeOf3 (by decide) rfl rfl ?_
  refine R.ldH Tryd.isAgg3 rfl rfl hb2_1 rfl ?_
  refine R.callv rfl rfl rfl (slices_Contains_int_d _ _ q0 (hq0.mono sb2_1) a0.1) ?_
  refine R.notD rfl rfl ?_
  refine R.asE rfl (by conv => lhs; whnf) ?_
  refine TL.nil (Post.thnN ?_)
  refine T.has Has.nil ?_
  refine T.ret ?_
  have hM : plan_Closed_1_m q0 a0 = (decide (¬ (a0.1 ∈ q0))) := by rw [plan_Closed_1_m]
  exact fin1L (v := .bool (decide (¬ (a0.1 ∈ q0)))) [] rfl rfl (List.Sublist.refl _) ⟨rfl, by first | rw [hM] | rfl⟩

def plan_Closed_l1 (a2 : List Int) (r20 : (Int → List (Int × Int))) : List Int → Unit → LR (Bool × Int) (Unit)
  | [], sl1 => .go ()
  | yl1 :: ysl1, sl1 => LR.seq (slices_ContainsFunc_Held_m ((r20 yl1)) ((fun z0 => plan_Closed_1_m a2 z0))) (fun r31 => if r31 = true then (.ret ((false, 0))) else (plan_Closed_l1 a2 r20 ysl1 ()))
def plan_Closed_m (a0 : List (Int × (Bool × Bool × Int × Int × Int))) (a1 : List (Int × Int)) (a2 : List Int) : Bool × Int :=
  if ((plan_Check_m a0 a1) : Int) ≠ 0 then ((false, (plan_Check_m a0 a1))) else (LR.seq (plan_killers_m a0 a1) (fun r20 => LR.on (plan_Closed_l1 a2 r20 a2 ()) (fun r => r) (fun ol1 => (true, 0))))
set_option maxHeartbeats 3200000 in
theorem plan_Closed_c (H : Heap) {tG1 : TypeId} (hG1 : H 1 = some (.cells #[.int .i64 1, .bool true, .bool true, .int .i64 0, .int .i64 1, .int .i64 2, .int .i64 2, .bool true, .bool false, .int .i64 0, .int .i64 0, .int .i64 2] tG1)) (va0 : Value) (a0 : List (Int × (Bool × Bool × Int × Int × Int))) (ha0 : RdS relationE H va0 a0) (va1 : Value) (a1 : List (Int × Int)) (ha1 : RdS heldE H va1 a1) (va2 : Value) (a2 : List Int) (ha2 : RdS (intE .i64) H va2 a2) (hl : a0.length ≤ 2000000) (hh : a1.length ≤ 100) : Fv Tryd.prog (fnv 50) [va0, va1, va2] H (.tuple #[.bool (plan_Closed_m a0 a1 a2).1, .int .i64 (plan_Closed_m a0 a1 a2).2]) := by
  refine Fc.of_body (N := 33) Tryd.func50 rfl (by kernel_rfl) rfl rfl ?_
  intro w0
  obtain ⟨Aa0, ca0, rfl, hca0, hda0, ha0⟩ := ha0.shape
  obtain ⟨Aa1, ca1, rfl, hca1, hda1, ha1⟩ := ha1.shape
  obtain ⟨Aa2, ca2, rfl, hca2, hda2, ha2⟩ := ha2.shape
  refine T.seq ?_
  refine T.region ?_
  refine R.box rfl (by conv => lhs; whnf) ?_
  intro b5
  refine R.asE rfl (by conv => lhs; whnf) ?_
  refine R.asE rfl (by conv => lhs; whnf) ?_
  refine TL.shut .hd ?_
  intro Hb5_1 sb5_1 qb5_1
  have hb5_1 : Hb5_1 b5 = some (.cells #[.slice Aa2 a2.length ca2] 23) := shut1 qb5_1
  refine TL.nil (Post.thnN ?_)
  refine T.seq ?_
  refine T.seq ?_
  refine T.region ?_
  refine R.mvE rfl (by conv => lhs; whnf) ?_
  refine R.mvE rfl (by conv => lhs; whnf) ?_
  refine R.callv rfl rfl rfl (plan_Check_c _ (sb5_1 _ _ hG1) _ a0 (ha0.mono sb5_1) _ a1 (ha1.mono sb5_1) (by first | omega | (simp; done) | (simp; omega) | (simp at *; omega))) ?_
  refine R.asE rfl (by conv => lhs; whnf) ?_
  refine TL.nil (Post.thnN ?_)
  refine T.seq ?_
  refine T.region ?_
  refine R.mvE rfl (by conv => lhs; whnf) ?_
  refine R.neq rfl rfl rfl ?_
  refine TL.nil (Post.thnN ?_)
  refine T.condD rfl (fun c16 => ?_) (fun c16 => ?_)
  · refine T.set 16 (.bool true) (congrArg Value.bool (decide_eq_true c16)) ?_
    refine T.seq ?_
    refine T.region ?_
    refine R.mvE rfl (by conv => lhs; whnf) ?_
    refine R.asE rfl (by conv => lhs; whnf) ?_
    refine R.asE rfl (by conv => lhs; whnf) ?_
    refine TL.nil (Post.thnN ?_)
    refine T.has Has.nil ?_
    refine T.ret (Post.thnR ?_)
    have hM : plan_Closed_m a0 a1 a2 = (false, (plan_Check_m a0 a1)) := by rw [plan_Closed_m, if_pos c16]
    exact fin2L (v := .bool false) (v' := .int .i64 (plan_Check_m a0 a1)) [] rfl rfl rfl (List.Sublist.refl _) ⟨rfl, by first | rw [hM] | rfl⟩
  · refine T.set 16 (.bool false) (congrArg Value.bool (decide_eq_false c16)) ?_
    refine T.skip (Post.thnN ?_)
    refine T.seq ?_
    refine T.region ?_
    refine R.mvE rfl (by conv => lhs; whnf) ?_
    refine R.mvE rfl (by conv => lhs; whnf) ?_
    obtain ⟨r20, er20⟩ : ∃ r, r = (plan_killers_m a0 a1) := ⟨_, rfl⟩
    refine R.callp rfl rfl rfl (plan_killers_c _ (sb5_1 _ _ hG1) _ a0 (ha0.mono sb5_1) _ a1 (ha1.mono sb5_1) (by first | omega | (simp; done) | (simp; omega) | (simp at *; omega)) (by first | omega | (simp; done) | (simp; omega) | (simp at *; omega))) ?_
    intro v20 H20 s20 q20
    rw [← er20] at q20
    obtain ⟨u20_0_0, rfl, w20_0_0⟩ := q20
    have hby20 : ByOk r20 := kill_by _ _ _ er20 (by first | omega | (simp; done) | (simp; omega) | (simp at *; omega))
    refine R.asE rfl (by conv => lhs; whnf) ?_
    refine TL.nil (Post.thnN ?_)
    refine T.seq ?_
    refine T.seq ?_
    refine T.region ?_
    refine R.ldH Tryd.isAgg23 rfl rfl (s20 _ _ hb5_1) rfl ?_
    refine R.len Tryd.underlying23 rfl rfl ?_
    refine R.mvE rfl (by conv => lhs; whnf) ?_
    refine TL.nil (Post.thnN ?_)
    refine T.block ?_
    refine T.loop (ι := Nat) (fun kl1 H' L' ds' => kl1 ≤ a2.length ∧ Has L' [] ∧ plan_Closed_l1 a2 r20 (a2.drop kl1) () = plan_Closed_l1 a2 r20 a2 ()) (fun kl1 => [(23, .int .i64 (kl1 : Int)), (5, .pointer (some ⟨b5, 0, none⟩)), (9, .map (some u20_0_0)), (21, .slice Aa2 a2.length ca2), (22, .int .i64 (a2.length : Int))]) (fun kl1 => a2.length - kl1) 0 ?_ ?_ ?_
    · exact ⟨(by omega), Has.nil, (by rfl)⟩
    · exact ⟨rfl, rfl, rfl, rfl, rfl, trivial⟩
    · intro kl1 σ_l1 H_l1 L_l1 ds_l1 s_l1 hI_l1
      obtain ⟨hkl1, hI_l1⟩ := hI_l1
      obtain ⟨hLl1, hQl1⟩ := hI_l1
      refine T.has hLl1 ?_
      refine T.seq ?_
      refine T.region ?_
      refine R.lss rfl rfl rfl ?_
      refine TL.nil (Post.thnN ?_)
      refine T.seq ?_
      refine T.condD rfl (fun c24 => ?_) (fun c24 => ?_)
      · have hltl1 : kl1 < a2.length := by omega
        obtain ⟨yl1, hyl1⟩ := getk (xs := a2) (k := kl1) (by omega)
        refine T.skip (Post.thnN ?_)
        refine T.seq ?_
        refine T.block ?_
        refine T.seq ?_
        refine T.region ?_
        obtain ⟨b25, o25, i25, k25⟩ := RdS.elem (ha2.mono (sb5_1.trans (s20.trans s_l1))) hyl1
        obtain ⟨l25, g25, k25⟩ := k25
        obtain rfl : l25 = [.int .i64 yl1] := g25
        refine R.ixp Tryd.underlying23 Tryd.sizeOf3 rfl rfl rfl (by omega) i25 ?_
        refine R.ldC Tryd.isAgg3 rfl rfl (k25 0 _ rfl) ?_
        refine R.asE rfl (by conv => lhs; whnf) ?_
        refine TL.nil (Post.thnN ?_)
        refine T.seq ?_
        refine T.region ?_
        refine R.mvE rfl (by conv => lhs; whnf) ?_
        refine R.mvE rfl (by conv => lhs; whnf) ?_
        refine R.lkuR (m := r20) Tryd.underlying133 Tryd.underlying3 Tryd.zeroValue60 rfl rfl rfl (w20_0_0.mono s_l1) ?_
        intro v29 w29
        obtain ⟨A29, p29, rfl, m29, n29, w29⟩ := RdS.shape w29
        refine R.mkf (cs := [_]) rfl rfl ?_
        obtain ⟨r31, er31⟩ : ∃ r, r = (slices_ContainsFunc_Held_m ((r20 yl1)) ((fun z0 => plan_Closed_1_m a2 z0))) := ⟨_, rfl⟩
        refine R.callv (v := .bool r31) rfl rfl rfl (by rw [er31]; exact slices_ContainsFunc_Held_c _ _ ((r20 yl1)) w29 _ (fun z0 => plan_Closed_1_m a2 z0) (fun H2 h2 z0 => plan_Closed_1_c H2 b5 _ a2 ((ha2.mono (sb5_1.trans (s20.trans s_l1))).mono h2) (h2 _ _ ((s20.trans s_l1) _ _ hb5_1)) z0)) ?_
        refine TL.nil (Post.thnN ?_)
        refine T.cond rfl (fun c31 => ?_) (fun c31 => ?_)
        · refine T.set 31 (.bool true) (congrArg Value.bool c31) ?_
          refine T.seq ?_
          refine T.region ?_
          refine R.asE rfl (by conv => lhs; whnf) ?_
          refine R.asE rfl (by conv => lhs; whnf) ?_
          refine TL.nil (Post.thnN ?_)
          refine T.has Has.nil ?_
          refine T.ret (Post.blkR (Post.thnR (Post.thnR (Post.blkR (Post.thnR ?_)))))
          have hXl1 : plan_Closed_l1 a2 r20 a2 () = .ret ((false, 0)) := by subst er31; rw [← hQl1, drop_cons hyl1, plan_Closed_l1]; rw [LR.seq_go, if_t c31]
          have hM : plan_Closed_m a0 a1 a2 = (false, 0) := by subst er20; rw [plan_Closed_m, if_neg c16, LR.seq_go, hXl1, LR.on_ret]
          exact fin2L (v := .bool false) (v' := .int .i64 0) [] rfl rfl rfl (List.Sublist.refl _) ⟨rfl, by first | rw [hM] | rfl⟩
        · refine T.set 31 (.bool false) (congrArg Value.bool c31) ?_
          refine T.skip (Post.blkN ?_)
          refine id (Post.thnN ?_)
          refine T.region ?_
          refine R.addI rfl rfl rfl (by omega) ?_
          refine R.mvE rfl (by conv => lhs; whnf) ?_
          refine TL.nil (Post.thnN ?_)
          exact ⟨kl1 + 1, s_l1, ⟨(by omega), Has.nil, (by subst er31; rw [← hQl1, drop_cons hyl1, plan_Closed_l1]; rw [LR.seq_go, if_f c31])⟩, by show a2.length - (kl1 + 1) < a2.length - kl1; omega, rfl, rfl, rfl, rfl, rfl, trivial⟩
      · refine T.exit (Post.thnE (Post.thnE (Post.blkX ?_)))
        have hEl1 : plan_Closed_l1 a2 r20 a2 () = .go () := (hQl1.symm.trans (by rw [show kl1 = a2.length by omega, List.drop_length, plan_Closed_l1]))
        refine id (Post.thnN ?_)
        refine T.seq ?_
        refine T.region ?_
        refine R.asE rfl (by conv => lhs; whnf) ?_
        refine R.asE rfl (by conv => lhs; whnf) ?_
        refine TL.nil (Post.thnN ?_)
        refine T.has Has.nil ?_
        refine T.ret ?_
        have hM : plan_Closed_m a0 a1 a2 = (true, 0) := by subst er20; rw [plan_Closed_m, if_neg c16, LR.seq_go, hEl1, LR.on_go]
        exact fin2L (v := .bool true) (v' := .int .i64 0) [] rfl rfl rfl (List.Sublist.refl _) ⟨rfl, by first | rw [hM] | rfl⟩

def plan_Why_r3 (a3 : Int) : List (Int × (List (Int × Int))) → ((List (Int × Int)) × Int) → LR ((List (Int × Int)) × Int) ((List (Int × Int)) × Int)
  | [], sr3 => .go sr3
  | yr3 :: ysr3, sr3 => if yr3.1 = a3 then (.ret ((yr3.2, 0))) else (plan_Why_r3 a3 ysr3 ((sr3.1, sr3.2)))
def plan_Why_m (a0 : List (Int × (Bool × Bool × Int × Int × Int))) (a1 : List (Int × Int)) (a2 : Int) (a3 : Int) : (List (Int × Int)) × Int :=
  if ((plan_Check_m a0 a1) : Int) ≠ 0 then (([], (plan_Check_m a0 a1))) else (LR.seq (if (!(plan_index_m a2)) = true then true else ((!(plan_index_m a3))) : Bool) (fun sc1 => if sc1 = true then (([], 2)) else (LR.seq (plan_killers_m a0 a1) (fun r31 => LR.seq (plan_deaths_m r31 [a2]) (fun r34 => LR.seq (LR.on (plan_Why_r3 a3 r34 (([], 4))) (fun br3 => (br3.1, br3.2)) (fun or3 => (or3.1, or3.2)) : (List (Int × Int)) × Int) (fun sc2 => (sc2.1, sc2.2)))))))
set_option maxHeartbeats 3200000 in
theorem plan_Why_c (H : Heap) {tG1 : TypeId} (hG1 : H 1 = some (.cells #[.int .i64 1, .bool true, .bool true, .int .i64 0, .int .i64 1, .int .i64 2, .int .i64 2, .bool true, .bool false, .int .i64 0, .int .i64 0, .int .i64 2] tG1)) (va0 : Value) (a0 : List (Int × (Bool × Bool × Int × Int × Int))) (ha0 : RdS relationE H va0 a0) (va1 : Value) (a1 : List (Int × Int)) (ha1 : RdS heldE H va1 a1) (a2 : Int) (a3 : Int) (hl : a0.length ≤ 2000000) (hh : a1.length ≤ 100) : Fc Tryd.prog (fnv 39) [va0, va1, .int .i64 a2, .int .i64 a3] H [] (fun v' H' L' => ∃ u0_0 c0_0, v' = .tuple #[u0_0, .int .i64 (plan_Why_m a0 a1 a2 a3).2] ∧ L' = [c0_0] ∧ OwnS heldE 73 H' u0_0 (plan_Why_m a0 a1 a2 a3).1 c0_0) := by
  refine Fc.of_body (N := 44) Tryd.func39 rfl (by kernel_rfl) rfl rfl ?_
  intro w0
  obtain ⟨Aa0, ca0, rfl, hca0, hda0, ha0⟩ := ha0.shape
  obtain ⟨Aa1, ca1, rfl, hca1, hda1, ha1⟩ := ha1.shape
  refine T.seq ?_
  refine T.region ?_
  refine R.box rfl (by conv => lhs; whnf) ?_
  intro b7
  refine R.asE rfl (by conv => lhs; whnf) ?_
  refine R.asE rfl (by conv => lhs; whnf) ?_
  refine TL.shut .hd ?_
  intro Hb7_1 sb7_1 qb7_1
  have hb7_1 : Hb7_1 b7 = some (.cells #[.int .i64 a3] 3) := shut1 qb7_1
  refine TL.nil (Post.thnN ?_)
  refine T.scope ?_
  refine T.seq ?_
  refine T.seq ?_
  refine T.region ?_
  refine R.mvE rfl (by conv => lhs; whnf) ?_
  refine R.mvE rfl (by conv => lhs; whnf) ?_
  refine R.callv rfl rfl rfl (plan_Check_c _ (sb7_1 _ _ hG1) _ a0 (ha0.mono sb7_1) _ a1 (ha1.mono sb7_1) (by first | omega | (simp; done) | (simp; omega) | (simp at *; omega))) ?_
  refine R.asE rfl (by conv => lhs; whnf) ?_
  refine TL.nil (Post.thnN ?_)
  refine T.seq ?_
  refine T.region ?_
  refine R.mvE rfl (by conv => lhs; whnf) ?_
  refine R.neq rfl rfl rfl ?_
  refine TL.nil (Post.thnN ?_)
  refine T.condD rfl (fun c19 => ?_) (fun c19 => ?_)
  · refine T.set 19 (.bool true) (congrArg Value.bool (decide_eq_true c19)) ?_
    refine T.seq ?_
    refine T.region ?_
    refine R.mvE rfl (by conv => lhs; whnf) ?_
    refine R.asE rfl (by conv => lhs; whnf) ?_
    refine R.asE rfl (by conv => lhs; whnf) ?_
    refine TL.nil (Post.thnN ?_)
    refine T.has (Has.none Has.nil) ?_
    refine T.ret (Post.thnR (Post.ngR ?_))
    have hM : plan_Why_m a0 a1 a2 a3 = ([], (plan_Check_m a0 a1)) := by rw [plan_Why_m, if_pos c19]
    exact fin2L (v := .slice none 0 0) (v' := .int .i64 (plan_Check_m a0 a1)) [[]] rfl rfl rfl (List.Sublist.refl _) ⟨.slice none 0 0, [], by first | rw [hM] | rfl, rfl, by rw [hM]; exact OwnS.nil⟩
  · refine T.set 19 (.bool false) (congrArg Value.bool (decide_eq_false c19)) ?_
    refine T.skip (Post.thnN ?_)
    refine T.seq ?_
    refine T.seq ?_
    refine T.cutK (ι := Bool) (fun b28c1 H' L' ds' => Has L' [] ∧ (if (!(plan_index_m a2)) = true then true else ((!(plan_index_m a3))) : Bool) = b28c1) (fun b28c1 => [(0, .slice Aa0 a0.length ca0), (1, .slice Aa1 a1.length ca1), (2, .int .i64 a2), (7, .pointer (some ⟨b7, 0, none⟩)), (28, .bool (b28c1))]) ?_ ?_
    · refine T.region ?_
      refine R.mvE rfl (by conv => lhs; whnf) ?_
      refine R.callv rfl rfl rfl (plan_index_c _ (a2)) ?_
      refine R.not rfl rfl ?_
      refine R.mvE rfl (by conv => lhs; whnf) ?_
      refine TL.gsplit 24 rfl (fun g24 => ?_) (fun g24 => ?_)
      · refine TL.off rfl rfl rfl ?_
        refine TL.off rfl rfl rfl ?_
        refine TL.off rfl rfl rfl ?_
        refine R.pkTE rfl rfl (by conv => lhs; whnf) ?_
        refine TL.nil (Post.thnN ?_)
        exact ⟨true, HLe.refl _, ⟨Has.nil, (by rw [if_t g24])⟩, rfl, rfl, rfl, rfl, rfl, trivial⟩
      · refine R.ldH Tryd.isAgg3 rfl rfl hb7_1 rfl ?_
        refine R.callv rfl rfl rfl (plan_index_c _ (a3)) ?_
        refine R.not rfl rfl ?_
        refine R.pkFE rfl rfl (by conv => lhs; whnf) ?_
        refine TL.nil (Post.thnN ?_)
        exact ⟨(!(plan_index_m a3)), HLe.refl _, ⟨Has.nil, (by rw [if_f g24])⟩, rfl, rfl, rfl, rfl, rfl, trivial⟩
    · intro b28c1 σ_c1 H_c1 L_c1 ds_c1 s_c1 hI_c1
      obtain ⟨hLc1, hTc1⟩ := hI_c1
      refine T.has hLc1 ?_
      refine T.cond rfl (fun c28 => ?_) (fun c28 => ?_)
      · refine T.set 28 (.bool true) (congrArg Value.bool c28) ?_
        have hZ28 := hTc1.trans c28
        try simp only [or_f, or_t, and_f, and_t, decide_eq_true_eq, decide_eq_false_iff_not, Bool.not_eq_true'] at hZ28
        refine T.seq ?_
        refine T.region ?_
        refine R.asE rfl (by conv => lhs; whnf) ?_
        refine R.asE rfl (by conv => lhs; whnf) ?_
        refine TL.nil (Post.thnN ?_)
        refine T.has (Has.none Has.nil) ?_
        refine T.ret (Post.thnR (Post.ngR ?_))
        have hM : plan_Why_m a0 a1 a2 a3 = ([], 2) := by rw [plan_Why_m, if_neg c19, hTc1, LR.seq_go, if_t c28]
        exact fin2L (v := .slice none 0 0) (v' := .int .i64 2) [[]] rfl rfl rfl (List.Sublist.refl _) ⟨.slice none 0 0, [], by first | rw [hM] | rfl, rfl, by rw [hM]; exact OwnS.nil⟩
      · refine T.set 28 (.bool false) (congrArg Value.bool c28) ?_
        have hZ28 := hTc1.trans c28
        try simp only [or_f, or_t, and_f, and_t, decide_eq_true_eq, decide_eq_false_iff_not, Bool.not_eq_true'] at hZ28
        refine T.skip (Post.thnN ?_)
        refine T.seq ?_
        refine T.region ?_
        refine R.alloc Tryd.zeroValue33 rfl ?_
        intro b11
        refine R.stX (old := [.int .i64 0]) (l := [.int .i64 4]) (new := [.int .i64 4]) (et := 33) Tryd.sizeOf33 rfl rfl rfl (cells1 rfl) rfl (by show 0 + 1 ≤ 1; decide) rfl (all_one rfl) .hd ?_
        refine TL.nil (Post.thnN ?_)
        refine T.seq ?_
        refine T.region ?_
        refine R.alloc Tryd.zeroValue60 rfl ?_
        intro b12
        refine TL.nil (Post.thnN ?_)
        refine T.seq ?_
        refine T.label (Post.thnN ?_)
        refine T.seq ?_
        refine T.seq ?_
        refine T.region ?_
        refine R.mvE rfl (by conv => lhs; whnf) ?_
        refine R.mvE rfl (by conv => lhs; whnf) ?_
        obtain ⟨r31, er31⟩ : ∃ r, r = (plan_killers_m a0 a1) := ⟨_, rfl⟩
        refine R.callp rfl rfl rfl (plan_killers_c _ ((sb7_1.trans s_c1) _ _ hG1) _ a0 (ha0.mono (sb7_1.trans s_c1)) _ a1 (ha1.mono (sb7_1.trans s_c1)) (by first | omega | (simp; done) | (simp; omega) | (simp at *; omega)) (by first | omega | (simp; done) | (simp; omega) | (simp at *; omega))) ?_
        intro v31 H31 s31 q31
        rw [← er31] at q31
        obtain ⟨u31_0_0, rfl, w31_0_0⟩ := q31
        have hby31 : ByOk r31 := kill_by _ _ _ er31 (by first | omega | (simp; done) | (simp; omega) | (simp at *; omega))
        refine R.mvE rfl (by conv => lhs; whnf) ?_
        refine R.bs rfl (run_buildSlice1 Tryd.underlying23 Tryd.sizeOf3 Tryd.zeroValue3 rfl rfl) ?_
        intro b33
        have w33 : OwnS (intE .i64) 3 H31 (.slice (some ⟨b33, 0, none⟩) 1 1) [a2] [(b33, .cells #[.int .i64 a2] 3)] := OwnS.lit (xs := [a2]) (cellsOf_cons (a := [.int .i64 a2]) rfl cellsOf_nil) (by show 1 ≤ maxLen; decide)
        refine TL.shut .hd ?_
        intro HF33_2 sF33_2 qF33_2
        have fF33_2 := OwnS.read w33 sF33_2 qF33_2
        obtain ⟨r34, er34⟩ : ∃ r, r = (plan_deaths_m r31 [a2]) := ⟨_, rfl⟩
        refine R.callp rfl rfl rfl (plan_deaths_c _ _ r31 (w31_0_0.mono sF33_2) _ [a2] fF33_2 (by first | omega | (simp; done) | (simp; omega) | (simp at *; omega)) (by first | omega | (simp; done) | (simp; omega) | (simp at *; omega))) ?_
        intro v34 H34 s34 q34
        rw [← er34] at q34
        obtain ⟨u34_0_0, rfl, w34_0_0⟩ := q34
        have td34 := deaths_facts _ _ _ er34 (by assumption) (by first | omega | (simp; done) | (simp; omega) | (simp at *; omega))
        refine TL.nil (Post.thnN ?_)
        refine T.cutK (ι := Value × (List (Int × Int)) × Chunk × Int) (fun ⟨vb12c2_0, xb12c2_0, cb12c2_0, nb11c2_0⟩ H' L' ds' => Has L' [[(b12, .cells #[vb12c2_0] 60)], [(b11, .cells #[.int .i64 nb11c2_0] 33)], cb12c2_0] ∧ OwnS heldE 73 H' vb12c2_0 xb12c2_0 cb12c2_0 ∧ (LR.on (plan_Why_r3 a3 r34 (([], 4))) (fun br3 => (br3.1, br3.2)) (fun or3 => (or3.1, or3.2)) : (List (Int × Int)) × Int) = (xb12c2_0, nb11c2_0)) (fun ⟨vb12c2_0, xb12c2_0, cb12c2_0, nb11c2_0⟩ => [(11, .pointer (some ⟨b11, 0, none⟩)), (12, .pointer (some ⟨b12, 0, none⟩))]) ?_ ?_
        · refine T.block ?_
          refine T.rangeFunc (xs := r34) rfl rfl (enters_of Tryd.func122 (by kernel_rfl) rfl) w34_0_0 (fun _ _ _ h => by obtain ⟨_, rfl, _⟩ := h; rfl) rfl (fun pre H' L' => ∃ (vb12r3_0 : Value) (xb12r3_0 : List (Int × Int)) (cb12r3_0 : Chunk) (nb11r3_0 : Int), Has L' [[(b12, .cells #[vb12r3_0] 60)], [(b11, .cells #[.int .i64 nb11r3_0] 33)], cb12r3_0] ∧ OwnS heldE 73 H' vb12r3_0 xb12r3_0 cb12r3_0 ∧ plan_Why_r3 a3 (r34.drop pre.length) ((xb12r3_0, nb11r3_0)) = plan_Why_r3 a3 r34 (([], 4))) (fun c pre H' L' => c = .exit 0 ∧ ∃ (vb12r3_0 : Value) (xb12r3_0 : List (Int × Int)) (cb12r3_0 : Chunk) (nb11r3_0 : Int), Has L' [[(b12, .cells #[vb12r3_0] 60)], [(b11, .cells #[.int .i64 nb11r3_0] 33)], cb12r3_0] ∧ OwnS heldE 73 H' vb12r3_0 xb12r3_0 cb12r3_0 ∧ plan_Why_r3 a3 r34 (([], 4)) = .ret ((xb12r3_0, nb11r3_0))) (fun pre H H' L hle ⟨vb12r3_0, xb12r3_0, cb12r3_0, nb11r3_0, hL, wb12r3_0, hQ⟩ => ⟨vb12r3_0, xb12r3_0, cb12r3_0, nb11r3_0, hL, (wb12r3_0.mono hle), hQ⟩) (fun c pre H H' L hle ⟨hc, vb12r3_0, xb12r3_0, cb12r3_0, nb11r3_0, hL, wb12r3_0, hQ⟩ => ⟨hc, vb12r3_0, xb12r3_0, cb12r3_0, nb11r3_0, hL, (wb12r3_0.mono hle), hQ⟩) ?_ ?_ ?_ ?_
          · exact ⟨.slice none 0 0, [], [], 4, (Has.cons .hd (Has.cons .hd (Has.none Has.nil))), OwnS.nil, (by rfl)⟩
          · intro lr3 rr3 wr3 prer3 yr3 vsr3 Hr3 Lr3 sr3 hpr3 hIr3 hYr3
            obtain ⟨vb12r3_0, xb12r3_0, cb12r3_0, nb11r3_0, hLr3, wb12r3_0, hQr3⟩ := hIr3
            obtain ⟨Ab12r3_0, pb12r3_0, rfl, mb12r3_0, nb12r3_0_⟩ := OwnS.shape wb12r3_0
            obtain ⟨zYr3_1_0, rfl, rYr3_1_0⟩ := hYr3
            obtain ⟨AYr3_1_0, pYr3_1_0, rfl, mYr3_1_0, nYr3_1_0, rYr3_1_0⟩ := rYr3_1_0.shape
            refine T.has hLr3 ?_
            have hlpr3 : prer3.length + 1 ≤ r34.length := by have h0 := hpr3.length_le; simpa using h0
            have hw3 := td34.2 yr3 (hpr3.subset (by simp))
            refine T.seq ?_
            refine T.region ?_
            refine R.asE rfl (by conv => lhs; whnf) ?_
            refine TL.nil (Post.thnN ?_)
            refine T.region ?_
            refine R.asE rfl (by conv => lhs; whnf) ?_
            refine TL.nil ?_
            refine onlyN.mk ?_
            refine T.block ?_
            refine T.seq ?_
            refine T.region ?_
            refine R.mvE rfl (by conv => lhs; whnf) ?_
            refine R.ldH Tryd.isAgg3 rfl rfl ((s_c1.trans (s31.trans (sF33_2.trans (s34.trans sr3)))) _ _ hb7_1) rfl ?_
            refine R.eql rfl rfl rfl ?_
            refine TL.nil (Post.thnN ?_)
            refine T.condD rfl (fun c39 => ?_) (fun c39 => ?_)
            · refine T.set 39 (.bool true) (congrArg Value.bool (decide_eq_true c39)) ?_
              refine T.seq ?_
              refine T.region ?_
              refine R.mvE rfl (by conv => lhs; whnf) ?_
              refine TL.call [] rfl rfl rfl (clone60_c _ _ yr3.2 rYr3_1_0 (by first | omega | (simp; done) | (simp; omega) | (simp at *; omega))) ?_
              intro v41 H41 L41 s41 q41
              obtain ⟨c41, rfl, w41⟩ := q41
              obtain ⟨x41, e41⟩ : ∃ x, x = yr3.2 := ⟨_, rfl⟩
              rw [← e41] at w41
              obtain ⟨A41, p41, rfl, m41, n41⟩ := OwnS.shape w41
              have t41 : x41.length = yr3.2.length := by rw [e41]
              refine R.stX (old := [.int .i64 nb11r3_0]) (l := [.int .i64 0]) (new := [.int .i64 0]) (et := 33) Tryd.sizeOf33 rfl rfl rfl (cells1 rfl) rfl (by show 0 + 1 ≤ 1; decide) rfl (all_one rfl) (.tl (.tl .hd)) ?_
              refine R.stX (old := [.slice Ab12r3_0 xb12r3_0.length pb12r3_0]) (l := [.slice A41 x41.length p41]) (new := [.slice A41 x41.length p41]) (et := 60) Tryd.sizeOf60 rfl rfl rfl (cells1 rfl) rfl (by show 0 + 1 ≤ 1; decide) rfl (all_one rfl) (.tl .hd) ?_
              refine TL.nil (Post.thnN ?_)
              refine T.exit (Post.blkE rfl ?_)
              exact ⟨rfl, .slice A41 x41.length p41, x41, c41, 0, (Has.cons (.tl .hd) (Has.cons (.tl .hd) (Has.cons .hd Has.nil))), w41, (by subst e41; rw [← hQr3, drop_pre hpr3, plan_Why_r3]; rw [if_pos c39])⟩
            · refine T.set 39 (.bool false) (congrArg Value.bool (decide_eq_false c39)) ?_
              refine T.skip (Post.blkN ?_)
              refine id ?_
              exact ⟨.slice Ab12r3_0 xb12r3_0.length pb12r3_0, xb12r3_0, cb12r3_0, nb11r3_0, (Has.cons .hd (Has.cons .hd (Has.cons .hd Has.nil))), wb12r3_0, (by rw [← hQr3, drop_pre hpr3, plan_Why_r3]; rw [if_neg c39])⟩
          · intro Dr3 Hr3 Lr3 sr3 hIr3
            obtain ⟨vb12r3_0, xb12r3_0, cb12r3_0, nb11r3_0, hLr3, wb12r3_0, hQr3⟩ := hIr3
            obtain ⟨Ab12r3_0, pb12r3_0, rfl, mb12r3_0, nb12r3_0_⟩ := OwnS.shape wb12r3_0
            have hEr3 : plan_Why_r3 a3 r34 (([], 4)) = .go ((xb12r3_0, nb11r3_0)) := by rw [← hQr3, List.drop_length, plan_Why_r3]
            refine id (Post.blkN ?_)
            refine id (Post.thnN ?_)
            exact ⟨(.slice Ab12r3_0 xb12r3_0.length pb12r3_0, xb12r3_0, cb12r3_0, nb11r3_0), sr3, ⟨(Has.trans hLr3 (Has.cons .hd (Has.cons .hd (Has.cons .hd Has.nil)))), wb12r3_0, (by rw [hEr3, LR.on_go])⟩, rfl, rfl, trivial⟩
          · intro Dr3 cr3 prer3 yr3 Hr3 Lr3 sr3 hpr3 hIr3
            obtain ⟨rfl, vb12r3_0, xb12r3_0, cb12r3_0, nb11r3_0, hLr3, wb12r3_0, hXr3⟩ := hIr3
            obtain ⟨Ab12r3_0, pb12r3_0, rfl, mb12r3_0, nb12r3_0_⟩ := OwnS.shape wb12r3_0
            refine T.has hLr3 ?_
            refine T.exit (Post.blkX ?_)
            refine id (Post.thnN ?_)
            exact ⟨(.slice Ab12r3_0 xb12r3_0.length pb12r3_0, xb12r3_0, cb12r3_0, nb11r3_0), sr3, ⟨(Has.cons .hd (Has.cons .hd (Has.cons .hd Has.nil))), wb12r3_0, (by rw [hXr3, LR.on_ret])⟩, rfl, rfl, trivial⟩
        · intro ⟨vb12c2_0, xb12c2_0, cb12c2_0, nb11c2_0⟩ σ_c2 H_c2 L_c2 ds_c2 s_c2 hI_c2
          obtain ⟨hLc2, wb12c2_0, hTc2⟩ := hI_c2
          obtain ⟨Ab12c2_0, pb12c2_0, rfl, mb12c2_0, nb12c2_0_⟩ := OwnS.shape wb12c2_0
          refine T.has hLc2 ?_
          refine T.seq ?_
          refine T.draw Tryd_mixed (by kernel_rfl) ?_
          refine Plan.s2 0 1 [1, 2, 3] [0, 2, 3] (by kernel_rfl) (by kernel_rfl) (by kernel_rfl) rfl rfl ?_ ?_
          · refine R.ld Tryd.isAgg60 rfl rfl .hd rfl ?_
            refine TL.nil (Plan.e1 (HLe.refl _) ?_)
            refine Plan.v 2 [1, 3] (by kernel_rfl) (by kernel_rfl) (by kernel_rfl) (by kernel_rfl) rfl (fun _ _ h_ => R.asE rfl (by conv => lhs; whnf) (TL.nil h_)) ?_
            refine Plan.s1 1 [3] (by kernel_rfl) (by kernel_rfl) rfl ?_
            refine R.ld Tryd.isAgg33 rfl rfl (.tl .hd) rfl ?_
            refine TL.nil (Plan.e1 (HLe.refl _) ?_)
            refine Plan.v 3 [] (by kernel_rfl) (by kernel_rfl) (by kernel_rfl) (by kernel_rfl) rfl (fun _ _ h_ => R.asE rfl (by conv => lhs; whnf) (TL.nil h_)) ?_
            refine Plan.done (Post.thnN ?_)
            refine T.has (Has.cons (.tl (.tl .hd)) Has.nil) ?_
            refine T.ret (Post.ngR ?_)
            have hM : plan_Why_m a0 a1 a2 a3 = (xb12c2_0, nb11c2_0) := by subst er34; subst er31; rw [plan_Why_m, if_neg c19, hTc1, LR.seq_go, if_f c28, LR.seq_go, LR.seq_go, hTc2, LR.seq_go]
            exact fin2L (v := .slice Ab12c2_0 xb12c2_0.length pb12c2_0) (v' := .int .i64 nb11c2_0) [cb12c2_0] rfl rfl rfl (List.Sublist.refl _) ⟨.slice Ab12c2_0 xb12c2_0.length pb12c2_0, cb12c2_0, by first | rw [hM] | rfl, rfl, by rw [hM]; exact wb12c2_0⟩
          · refine R.ld Tryd.isAgg33 rfl rfl (.tl .hd) rfl ?_
            refine TL.nil (Plan.e1 (HLe.refl _) ?_)
            refine Plan.s1 0 [2, 3] (by kernel_rfl) (by kernel_rfl) rfl ?_
            refine R.ld Tryd.isAgg60 rfl rfl .hd rfl ?_
            refine TL.nil (Plan.e1 (HLe.refl _) ?_)
            refine Plan.v 2 [3] (by kernel_rfl) (by kernel_rfl) (by kernel_rfl) (by kernel_rfl) rfl (fun _ _ h_ => R.asE rfl (by conv => lhs; whnf) (TL.nil h_)) ?_
            refine Plan.v 3 [] (by kernel_rfl) (by kernel_rfl) (by kernel_rfl) (by kernel_rfl) rfl (fun _ _ h_ => R.asE rfl (by conv => lhs; whnf) (TL.nil h_)) ?_
            refine Plan.done (Post.thnN ?_)
            refine T.has (Has.cons (.tl (.tl .hd)) Has.nil) ?_
            refine T.ret (Post.ngR ?_)
            have hM : plan_Why_m a0 a1 a2 a3 = (xb12c2_0, nb11c2_0) := by subst er34; subst er31; rw [plan_Why_m, if_neg c19, hTc1, LR.seq_go, if_f c28, LR.seq_go, LR.seq_go, hTc2, LR.seq_go]
            exact fin2L (v := .slice Ab12c2_0 xb12c2_0.length pb12c2_0) (v' := .int .i64 nb11c2_0) [cb12c2_0] rfl rfl rfl (List.Sublist.refl _) ⟨.slice Ab12c2_0 xb12c2_0.length pb12c2_0, cb12c2_0, by first | rw [hM] | rfl, rfl, by rw [hM]; exact wb12c2_0⟩

end Go.SX

set_option linter.unusedVariables false
set_option linter.unusedSimpArgs false
namespace Go.SX
open Go
theorem cf_int_l1 (f : Int → Bool) : ∀ (l : List Int) (k : Nat), (∃ j : Nat, slices_IndexFunc_int_l1 f l k () = .ret (j : Int) ∧ l.any f = true) ∨ (slices_IndexFunc_int_l1 f l k () = .go () ∧ l.any f = false)
  | [], k => .inr ⟨rfl, rfl⟩
  | y :: ys, k => by
    rw [slices_IndexFunc_int_l1, List.any_cons]
    cases h : f y with
    | true => exact .inl ⟨k, by rw [if_pos rfl], rfl⟩
    | false => rw [if_neg Bool.false_ne_true, Bool.false_or]; exact cf_int_l1 f ys (k + 1)
theorem cf_int (l : List Int) (f : Int → Bool) : slices_ContainsFunc_int_m l f = l.any f := by
  unfold slices_ContainsFunc_int_m slices_IndexFunc_int_m
  rcases cf_int_l1 f l 0 with ⟨j, e, h⟩ | ⟨e, h⟩
  · rw [e, LR.on_ret, h]; exact decide_eq_true (by omega)
  · rw [e, LR.on_go, h]; rfl
theorem cf_mention_l1 (f : (Int × Int) → Bool) : ∀ (l : List ((Int × Int))) (k : Nat), (∃ j : Nat, slices_IndexFunc_mention_l1 f l k () = .ret (j : Int) ∧ l.any f = true) ∨ (slices_IndexFunc_mention_l1 f l k () = .go () ∧ l.any f = false)
  | [], k => .inr ⟨rfl, rfl⟩
  | y :: ys, k => by
    rw [slices_IndexFunc_mention_l1, List.any_cons]
    cases h : f y with
    | true => exact .inl ⟨k, by rw [if_pos rfl], rfl⟩
    | false => rw [if_neg Bool.false_ne_true, Bool.false_or]; exact cf_mention_l1 f ys (k + 1)
theorem cf_mention (l : List ((Int × Int))) (f : (Int × Int) → Bool) : slices_ContainsFunc_mention_m l f = l.any f := by
  unfold slices_ContainsFunc_mention_m slices_IndexFunc_mention_m
  rcases cf_mention_l1 f l 0 with ⟨j, e, h⟩ | ⟨e, h⟩
  · rw [e, LR.on_ret, h]; exact decide_eq_true (by omega)
  · rw [e, LR.on_go, h]; rfl
theorem cf_Held_l1 (f : (Int × Int) → Bool) : ∀ (l : List ((Int × Int))) (k : Nat), (∃ j : Nat, slices_IndexFunc_Held_l1 f l k () = .ret (j : Int) ∧ l.any f = true) ∨ (slices_IndexFunc_Held_l1 f l k () = .go () ∧ l.any f = false)
  | [], k => .inr ⟨rfl, rfl⟩
  | y :: ys, k => by
    rw [slices_IndexFunc_Held_l1, List.any_cons]
    cases h : f y with
    | true => exact .inl ⟨k, by rw [if_pos rfl], rfl⟩
    | false => rw [if_neg Bool.false_ne_true, Bool.false_or]; exact cf_Held_l1 f ys (k + 1)
theorem cf_Held (l : List ((Int × Int))) (f : (Int × Int) → Bool) : slices_ContainsFunc_Held_m l f = l.any f := by
  unfold slices_ContainsFunc_Held_m slices_IndexFunc_Held_m
  rcases cf_Held_l1 f l 0 with ⟨j, e, h⟩ | ⟨e, h⟩
  · rw [e, LR.on_ret, h]; exact decide_eq_true (by omega)
  · rw [e, LR.on_go, h]; rfl

def deadB (D : List Dh) (k : Int) : Bool := decide (k ∈ D.map Prod.fst)
def saysB (l : List Rl) (D : List Dh) (h : Hd) (p : Int) : Bool := (mentL l h).any (fun m => deadB D m.1 && decide (m.2 = p))
def refB (l : List Rl) (D : List Dh) (h : Hd) : Bool := !deadB D h.1 && saysB l D h 2
def goneB (l : List Rl) (D : List Dh) (h : Hd) : Bool := !deadB D h.1 && (saysB l D h 2 || saysB l D h 0)
theorem of_r1 : ∀ (D : List Dh) (s : (List (Int × Bool)) × (List Int) × (List Hd) × (List Hd)), (plan_Of_r1 D s).2 = (s.2.1 ++ D.map Prod.fst, s.2.2.1, s.2.2.2) ∧ ∀ k, (mlk (plan_Of_r1 D s).1 k).getD false = (deadB D k || (mlk s.1 k).getD false)
  | [], s => ⟨by simp [plan_Of_r1], fun k => by simp [plan_Of_r1, deadB]⟩
  | d :: D, s => by
    obtain ⟨h1, h2⟩ := of_r1 D (mpu s.1 d.1 true, s.2.1 ++ [d.1], s.2.2.1, s.2.2.2)
    rw [plan_Of_r1]
    refine ⟨by rw [h1]; simp, fun k => ?_⟩
    rw [h2, mlk_mpu]
    unfold deadB
    rw [List.map_cons]
    by_cases e : k = d.1
    · rw [if_pos e]; simp [e]
    · rw [if_neg e, show decide (k ∈ d.1 :: D.map Prod.fst) = decide (k ∈ D.map Prod.fst) by rw [decide_eq_decide, List.mem_cons]; exact ⟨fun h => h.resolve_left e, .inr⟩]
theorem of_says (l : List Rl) (D : List Dh) (M : List (Int × Bool)) (hM : ∀ k, (mlk M k).getD false = deadB D k) (h : Hd) (p : Int) : plan_Of_2_m (mentL l h) M p = saysB l D h p := by
  unfold plan_Of_2_m saysB
  rw [LR.seq_go, cf_mention]
  refine congrArg (fun f => (mentL l h).any f) (funext fun m => ?_)
  unfold plan_Of_2_2_1_m
  rw [hM]
  cases deadB D m.1 <;> simp
theorem of_r2 (l : List Rl) (D : List Dh) (M : List (Int × Bool)) (hM : ∀ k, (mlk M k).getD false = deadB D k) : ∀ (xs : List Hd) (s : (List Int) × (List Hd) × (List Hd)), plan_Of_r2 M (xs.map (fun h => (h, mentL l h))) s = (s.1, s.2.1 ++ xs.filter (goneB l D), s.2.2 ++ xs.filter (refB l D))
  | [], s => by simp [plan_Of_r2]
  | h :: xs, s => by
    rw [List.map_cons, plan_Of_r2, hM]
    simp only [of_says l D M hM, LR.seq]
    have ih := of_r2 l D M hM xs
    rw [List.filter_cons, List.filter_cons]
    unfold goneB refB at *
    cases hd : deadB D h.1 with
    | true => rw [if_pos rfl, ih]; simp
    | false =>
      rw [if_neg Bool.false_ne_true]
      cases h2 : saysB l D h 2 with
      | true => simp [ih]
      | false =>
        cases h0 : saysB l D h 0 with
        | true => simp [ih]
        | false => simp [ih]
theorem pindex_iff (n : Int) : plan_index_m n = true ↔ 1 ≤ n ∧ n ≤ 1048578 := by
  unfold plan_index_m
  by_cases h : 1 ≤ n
  · rw [if_pos h, decide_eq_true_eq]; exact ⟨fun k => ⟨h, k⟩, fun k => k.2⟩
  · rw [if_neg h]; exact ⟨fun k => (by cases k), fun k => absurd k.1 h⟩
def idxOk (n : Int) : Prop := 1 ≤ n ∧ n ≤ 1048578
theorem of_first (first : List Int) : slices_ContainsFunc_int_m first (fun z0 => plan_Of_1_m z0) = false ↔ ∀ n ∈ first, idxOk n := by
  rw [cf_int, List.any_eq_false]
  constructor
  · intro h n hn
    have := h n hn
    unfold plan_Of_1_m at this
    exact (pindex_iff n).1 (by simpa using this)
  · intro h n hn
    unfold plan_Of_1_m
    simpa using (pindex_iff n).2 (h n hn)
/-- who dies -/
def diesD (l : List Rl) (held : List Hd) (first : List Int) : List Dh := plan_deaths_m (plan_killers_m l held) first
theorem of_eq {l : List Rl} {held : List Hd} {first : List Int} (hc : plan_Check_m l held = 0) (hi : ∀ n ∈ first, idxOk n) :
    plan_Of_m l held first = ((sortI ((diesD l held first).map Prod.fst), held.filter (goneB l (diesD l held first)), held.filter (refB l (diesD l held first))), 0) := by
  unfold plan_Of_m
  rw [hc, if_neg (fun k => k rfl), (of_first first).2 hi, if_neg Bool.false_ne_true]
  simp only [LR.seq]
  rw [show plan_deaths_m (plan_killers_m l held) first = diesD l held first from rfl]
  obtain ⟨h1, h2⟩ := of_r1 (diesD l held first) (([] : List (Int × Bool)), [], [], [])
  rw [ment_eq, of_r2 l (diesD l held first) _ (fun k => by rw [h2, mlk_nil]; simp), h1]
  rfl
theorem of_bad {l : List Rl} {held : List Hd} {first : List Int} (hc : plan_Check_m l held ≠ 0) : plan_Of_m l held first = (([], [], []), plan_Check_m l held) := by
  unfold plan_Of_m
  rw [if_pos hc]
theorem of_arg {l : List Rl} {held : List Hd} {first : List Int} (hc : plan_Check_m l held = 0) (hi : ¬ ∀ n ∈ first, idxOk n) : plan_Of_m l held first = (([], [], []), 2) := by
  unfold plan_Of_m
  rw [if_neg (fun k => k hc), if_pos]
  cases h : slices_ContainsFunc_int_m first (fun z0 => plan_Of_1_m z0) with
  | true => rfl
  | false => exact absurd ((of_first first).1 h) hi
theorem dies_law {l : List Rl} {held : List Hd} {first : List Int} (hh : held.length ≤ 100) (hf : first.length ≤ 100) : ∃ met, Dv first (plan_killers_m l held) met (diesD l held first) ∧ Bf first (plan_killers_m l held) (diesD l held first).length (diesD l held first) :=
  deaths_law first (plan_killers_m l held) (kill_by l held _ rfl hh) hf
theorem dies_len {l : List Rl} {held : List Hd} {first : List Int} (hh : held.length ≤ 100) (hf : first.length ≤ 100) : (diesD l held first).length ≤ first.length + held.length := by
  obtain ⟨met, h1, h2⟩ := dies_law (l := l) hh hf
  have := nodup_len (l2 := first ++ held.map Prod.fst) h1.nd (fun x hx => by
    rw [List.mem_append]
    rcases h1.s x hx with k | ⟨j, d, hd, rfl⟩
    · exact .inl k
    · rw [kill_eq] at hd
      exact .inr (List.mem_map_of_mem (List.mem_filter.1 hd).1))
  rwa [List.length_map, List.length_append, List.length_map] at this
theorem of_len (l : List Rl) (held : List Hd) (first : List Int) (r : ((List Int) × (List Hd) × (List Hd)) × Int) (e : r = plan_Of_m l held first) (hh : held.length ≤ 100) (hf : first.length ≤ 100) : r.1.1.length ≤ first.length + held.length ∧ r.1.2.1.length ≤ held.length ∧ r.1.2.2.length ≤ held.length := by
  subst e
  by_cases hc : plan_Check_m l held = 0
  · by_cases hi : ∀ n ∈ first, idxOk n
    · rw [of_eq hc hi]
      refine ⟨?_, List.length_filter_le _ _, List.length_filter_le _ _⟩
      show (sortI _).length ≤ _
      rw [(sortI_perm _).length_eq, List.length_map]
      exact dies_len hh hf
    · rw [of_arg hc hi]; simp
  · rw [of_bad hc]; simp
end Go.SX

set_option linter.unusedVariables false
set_option linter.unusedSimpArgs false
namespace Go.SX
open Go Go.Proofs

theorem small_len : windroselaw20_small_m.1.length = 3 ∧ windroselaw20_small_m.2.length = 4 := by
  unfold windroselaw20_small_m
  simp [LR.seq, windroselaw20_small_l1]
def windroselaw20_wakes_m  : Bool :=
  LR.seq (windroselaw20_small_m) (fun r12 => LR.seq (plan_Of_m r12.1 r12.2 [4]) (fun r19 => LR.seq (plan_Of_m r12.1 r12.2 [3]) (fun r26 => LR.seq (plan_Why_m r12.1 r12.2 4 6) (fun r32 => LR.seq (plan_Why_m r12.1 r12.2 4 7) (fun r38 => if r19.2 = 0 then (if r26.2 = 0 then (if r32.2 = 0 then (if r38.2 = 4 then (if r19.1.1 = [4, 5, 6] then (if r19.1.2.1 = (r12.2.drop 2) then (if r19.1.2.2 = (r12.2.drop 3) then (if r26.1.1 = [3, 8] then ((decide (r32.1 = (r12.2.take 2)))) else false) else false) else false) else false) else false) else false) else false) else false)))))
set_option maxHeartbeats 3200000 in
theorem windroselaw20_wakes_c (H : Heap) {tG1 : TypeId} (hG1 : H 1 = some (.cells #[.int .i64 1, .bool true, .bool true, .int .i64 0, .int .i64 1, .int .i64 2, .int .i64 2, .bool true, .bool false, .int .i64 0, .int .i64 0, .int .i64 2] tG1)) : Fv Tryd.prog (fnv 36) [] H (.bool windroselaw20_wakes_m) := by
  refine Fc.of_body (N := 87) Tryd.func36 rfl (by kernel_rfl) rfl rfl ?_
  intro w0
  refine T.seq ?_
  refine T.region ?_
  refine R.asE rfl (by conv => lhs; whnf) ?_
  refine TL.nil (Post.thnN ?_)
  refine T.seq ?_
  refine T.region ?_
  obtain ⟨r12, er12⟩ : ∃ r, r = windroselaw20_small_m := ⟨_, rfl⟩
  refine TL.call [] rfl rfl rfl (windroselaw20_small_c _ ) ?_
  intro v12 H12 L12 s12 q12
  rw [← er12] at q12
  obtain ⟨u12_0_0, u12_1_0, c12_0_0, c12_1_0, rfl, rfl, w12_0_0, w12_1_0⟩ := q12
  obtain ⟨A12_0_0, p12_0_0, rfl, m12_0_0, n12_0_0⟩ := OwnS.shape w12_0_0
  obtain ⟨A12_1_0, p12_1_0, rfl, m12_1_0, n12_1_0⟩ := OwnS.shape w12_1_0
  have tq12 : r12.1.length = 3 ∧ r12.2.length = 4 := by rw [er12]; exact small_len
  refine R.mvE rfl (by conv => lhs; whnf) ?_
  refine R.ext rfl rfl rfl ?_
  refine R.ext rfl rfl rfl ?_
  refine R.asE rfl (by conv => lhs; whnf) ?_
  refine R.asE rfl (by conv => lhs; whnf) ?_
  refine TL.nil (Post.thnN ?_)
  refine T.seq ?_
  refine T.region ?_
  refine R.mvE rfl (by conv => lhs; whnf) ?_
  refine R.mvE rfl (by conv => lhs; whnf) ?_
  refine R.bs rfl (run_buildSlice1 Tryd.underlying23 Tryd.sizeOf3 Tryd.zeroValue3 rfl rfl) ?_
  intro b18
  have w18 : OwnS (intE .i64) 3 H12 (.slice (some ⟨b18, 0, none⟩) 1 1) [4] [(b18, .cells #[.int .i64 4] 3)] := OwnS.lit (xs := [4]) (cellsOf_cons (a := [.int .i64 4]) rfl cellsOf_nil) (by show 1 ≤ maxLen; decide)
  refine TL.shut (.tl .hd) ?_
  intro HF12_0_0_1 sF12_0_0_1 qF12_0_0_1
  have fF12_0_0_1 := OwnS.read w12_0_0 sF12_0_0_1 qF12_0_0_1
  refine TL.shut (.tl .hd) ?_
  intro HF12_1_0_2 sF12_1_0_2 qF12_1_0_2
  have fF12_1_0_2 := OwnS.read (OwnS.mono w12_1_0 sF12_0_0_1) sF12_1_0_2 qF12_1_0_2
  refine TL.shut .hd ?_
  intro HF18_3 sF18_3 qF18_3
  have fF18_3 := OwnS.read (OwnS.mono w18 (sF12_0_0_1.trans sF12_1_0_2)) sF18_3 qF18_3
  obtain ⟨r19, er19⟩ : ∃ r, r = (plan_Of_m r12.1 r12.2 [4]) := ⟨_, rfl⟩
  refine TL.call [] rfl rfl rfl (plan_Of_c _ ((s12.trans (sF12_0_0_1.trans (sF12_1_0_2.trans sF18_3))) _ _ hG1) _ r12.1 (fF12_0_0_1.mono (sF12_1_0_2.trans sF18_3)) _ r12.2 (fF12_1_0_2.mono sF18_3) _ [4] fF18_3 (by first | omega | (simp; done) | (simp; omega) | (simp at *; omega)) (by first | omega | (simp; done) | (simp; omega) | (simp at *; omega)) (by first | omega | (simp; done) | (simp; omega) | (simp at *; omega))) ?_
  intro v19 H19 L19 s19 q19
  rw [← er19] at q19
  obtain ⟨u19_0_0, u19_0_1, u19_0_2, c19_0_0, c19_0_1, c19_0_2, rfl, rfl, w19_0_0, w19_0_1, w19_0_2⟩ := q19
  obtain ⟨A19_0_0, p19_0_0, rfl, m19_0_0, n19_0_0⟩ := OwnS.shape w19_0_0
  obtain ⟨A19_0_1, p19_0_1, rfl, m19_0_1, n19_0_1⟩ := OwnS.shape w19_0_1
  obtain ⟨A19_0_2, p19_0_2, rfl, m19_0_2, n19_0_2⟩ := OwnS.shape w19_0_2
  have to19 := of_len _ _ _ _ er19 (by first | omega | (simp; done) | (simp; omega) | (simp at *; omega)) (by first | omega | (simp; done) | (simp; omega) | (simp at *; omega))
  refine R.mvE rfl (by conv => lhs; whnf) ?_
  refine R.ext rfl rfl rfl ?_
  refine R.ext rfl rfl rfl ?_
  refine R.alloc Tryd.zeroValue81 rfl ?_
  intro b3
  refine R.stX (old := [.slice none 0 0, .slice none 0 0, .slice none 0 0]) (l := [.slice A19_0_0 r19.1.1.length p19_0_0, .slice A19_0_1 r19.1.2.1.length p19_0_1, .slice A19_0_2 r19.1.2.2.length p19_0_2]) (new := [.slice A19_0_0 r19.1.1.length p19_0_0, .slice A19_0_1 r19.1.2.1.length p19_0_1, .slice A19_0_2 r19.1.2.2.length p19_0_2]) (et := 81) Tryd.sizeOf81 rfl rfl rfl rfl rfl (by show 0 + 3 ≤ 3; decide) rfl (all_one rfl) .hd ?_
  refine R.asE rfl (by conv => lhs; whnf) ?_
  refine TL.shut (.tl .hd) ?_
  intro HF19_0_0_4 sF19_0_0_4 qF19_0_0_4
  have fF19_0_0_4 := OwnS.read w19_0_0 sF19_0_0_4 qF19_0_0_4
  refine TL.shut (.tl .hd) ?_
  intro HF19_0_1_5 sF19_0_1_5 qF19_0_1_5
  have fF19_0_1_5 := OwnS.read (OwnS.mono w19_0_1 sF19_0_0_4) sF19_0_1_5 qF19_0_1_5
  refine TL.shut (.tl .hd) ?_
  intro HF19_0_2_6 sF19_0_2_6 qF19_0_2_6
  have fF19_0_2_6 := OwnS.read (OwnS.mono w19_0_2 (sF19_0_0_4.trans sF19_0_1_5)) sF19_0_2_6 qF19_0_2_6
  refine TL.shut .hd ?_
  intro Hb3_7 sb3_7 qb3_7
  have hb3_7 : Hb3_7 b3 = some (.cells #[.slice A19_0_0 r19.1.1.length p19_0_0, .slice A19_0_1 r19.1.2.1.length p19_0_1, .slice A19_0_2 r19.1.2.2.length p19_0_2] 81) := shut1 qb3_7
  refine TL.nil (Post.thnN ?_)
  refine T.seq ?_
  refine T.region ?_
  refine R.mvE rfl (by conv => lhs; whnf) ?_
  refine R.mvE rfl (by conv => lhs; whnf) ?_
  refine R.bs rfl (run_buildSlice1 Tryd.underlying23 Tryd.sizeOf3 Tryd.zeroValue3 rfl rfl) ?_
  intro b25
  have w25 : OwnS (intE .i64) 3 Hb3_7 (.slice (some ⟨b25, 0, none⟩) 1 1) [3] [(b25, .cells #[.int .i64 3] 3)] := OwnS.lit (xs := [3]) (cellsOf_cons (a := [.int .i64 3]) rfl cellsOf_nil) (by show 1 ≤ maxLen; decide)
  refine TL.shut .hd ?_
  intro HF25_8 sF25_8 qF25_8
  have fF25_8 := OwnS.read w25 sF25_8 qF25_8
  obtain ⟨r26, er26⟩ : ∃ r, r = (plan_Of_m r12.1 r12.2 [3]) := ⟨_, rfl⟩
  refine TL.call [] rfl rfl rfl (plan_Of_c _ ((s12.trans (sF12_0_0_1.trans (sF12_1_0_2.trans (sF18_3.trans (s19.trans (sF19_0_0_4.trans (sF19_0_1_5.trans (sF19_0_2_6.trans (sb3_7.trans sF25_8))))))))) _ _ hG1) _ r12.1 (fF12_0_0_1.mono (sF12_1_0_2.trans (sF18_3.trans (s19.trans (sF19_0_0_4.trans (sF19_0_1_5.trans (sF19_0_2_6.trans (sb3_7.trans sF25_8)))))))) _ r12.2 (fF12_1_0_2.mono (sF18_3.trans (s19.trans (sF19_0_0_4.trans (sF19_0_1_5.trans (sF19_0_2_6.trans (sb3_7.trans sF25_8))))))) _ [3] fF25_8 (by first | omega | (simp; done) | (simp; omega) | (simp at *; omega)) (by first | omega | (simp; done) | (simp; omega) | (simp at *; omega)) (by first | omega | (simp; done) | (simp; omega) | (simp at *; omega))) ?_
  intro v26 H26 L26 s26 q26
  rw [← er26] at q26
  obtain ⟨u26_0_0, u26_0_1, u26_0_2, c26_0_0, c26_0_1, c26_0_2, rfl, rfl, w26_0_0, w26_0_1, w26_0_2⟩ := q26
  obtain ⟨A26_0_0, p26_0_0, rfl, m26_0_0, n26_0_0⟩ := OwnS.shape w26_0_0
  obtain ⟨A26_0_1, p26_0_1, rfl, m26_0_1, n26_0_1⟩ := OwnS.shape w26_0_1
  obtain ⟨A26_0_2, p26_0_2, rfl, m26_0_2, n26_0_2⟩ := OwnS.shape w26_0_2
  have to26 := of_len _ _ _ _ er26 (by first | omega | (simp; done) | (simp; omega) | (simp at *; omega)) (by first | omega | (simp; done) | (simp; omega) | (simp at *; omega))
  refine R.mvE rfl (by conv => lhs; whnf) ?_
  refine R.ext rfl rfl rfl ?_
  refine R.ext rfl rfl rfl ?_
  refine R.alloc Tryd.zeroValue81 rfl ?_
  intro b5
  refine R.stX (old := [.slice none 0 0, .slice none 0 0, .slice none 0 0]) (l := [.slice A26_0_0 r26.1.1.length p26_0_0, .slice A26_0_1 r26.1.2.1.length p26_0_1, .slice A26_0_2 r26.1.2.2.length p26_0_2]) (new := [.slice A26_0_0 r26.1.1.length p26_0_0, .slice A26_0_1 r26.1.2.1.length p26_0_1, .slice A26_0_2 r26.1.2.2.length p26_0_2]) (et := 81) Tryd.sizeOf81 rfl rfl rfl rfl rfl (by show 0 + 3 ≤ 3; decide) rfl (all_one rfl) .hd ?_
  refine R.asE rfl (by conv => lhs; whnf) ?_
  refine TL.shut (.tl .hd) ?_
  intro HF26_0_0_9 sF26_0_0_9 qF26_0_0_9
  have fF26_0_0_9 := OwnS.read w26_0_0 sF26_0_0_9 qF26_0_0_9
  refine TL.shut (.tl .hd) ?_
  intro HF26_0_1_10 sF26_0_1_10 qF26_0_1_10
  have fF26_0_1_10 := OwnS.read (OwnS.mono w26_0_1 sF26_0_0_9) sF26_0_1_10 qF26_0_1_10
  refine TL.shut (.tl .hd) ?_
  intro HF26_0_2_11 sF26_0_2_11 qF26_0_2_11
  have fF26_0_2_11 := OwnS.read (OwnS.mono w26_0_2 (sF26_0_0_9.trans sF26_0_1_10)) sF26_0_2_11 qF26_0_2_11
  refine TL.shut .hd ?_
  intro Hb5_12 sb5_12 qb5_12
  have hb5_12 : Hb5_12 b5 = some (.cells #[.slice A26_0_0 r26.1.1.length p26_0_0, .slice A26_0_1 r26.1.2.1.length p26_0_1, .slice A26_0_2 r26.1.2.2.length p26_0_2] 81) := shut1 qb5_12
  refine TL.nil (Post.thnN ?_)
  refine T.seq ?_
  refine T.region ?_
  refine R.mvE rfl (by conv => lhs; whnf) ?_
  refine R.mvE rfl (by conv => lhs; whnf) ?_
  obtain ⟨r32, er32⟩ : ∃ r, r = (plan_Why_m r12.1 r12.2 4 6) := ⟨_, rfl⟩
  refine TL.call [] rfl rfl rfl (plan_Why_c _ ((s12.trans (sF12_0_0_1.trans (sF12_1_0_2.trans (sF18_3.trans (s19.trans (sF19_0_0_4.trans (sF19_0_1_5.trans (sF19_0_2_6.trans (sb3_7.trans (sF25_8.trans (s26.trans (sF26_0_0_9.trans (sF26_0_1_10.trans (sF26_0_2_11.trans sb5_12)))))))))))))) _ _ hG1) _ r12.1 (fF12_0_0_1.mono (sF12_1_0_2.trans (sF18_3.trans (s19.trans (sF19_0_0_4.trans (sF19_0_1_5.trans (sF19_0_2_6.trans (sb3_7.trans (sF25_8.trans (s26.trans (sF26_0_0_9.trans (sF26_0_1_10.trans (sF26_0_2_11.trans sb5_12))))))))))))) _ r12.2 (fF12_1_0_2.mono (sF18_3.trans (s19.trans (sF19_0_0_4.trans (sF19_0_1_5.trans (sF19_0_2_6.trans (sb3_7.trans (sF25_8.trans (s26.trans (sF26_0_0_9.trans (sF26_0_1_10.trans (sF26_0_2_11.trans sb5_12)))))))))))) (4) (6) (by first | omega | (simp; done) | (simp; omega) | (simp at *; omega)) (by first | omega | (simp; done) | (simp; omega) | (simp at *; omega))) ?_
  intro v32 H32 L32 s32 q32
  rw [← er32] at q32
  obtain ⟨u32_0_0, c32_0_0, rfl, rfl, w32_0_0⟩ := q32
  obtain ⟨A32_0_0, p32_0_0, rfl, m32_0_0, n32_0_0⟩ := OwnS.shape w32_0_0
  refine R.mvE rfl (by conv => lhs; whnf) ?_
  refine R.ext rfl rfl rfl ?_
  refine R.ext rfl rfl rfl ?_
  refine R.asE rfl (by conv => lhs; whnf) ?_
  refine R.asE rfl (by conv => lhs; whnf) ?_
  refine TL.nil (Post.thnN ?_)
  refine T.seq ?_
  refine T.region ?_
  refine R.mvE rfl (by conv => lhs; whnf) ?_
  refine R.mvE rfl (by conv => lhs; whnf) ?_
  obtain ⟨r38, er38⟩ : ∃ r, r = (plan_Why_m r12.1 r12.2 4 7) := ⟨_, rfl⟩
  refine TL.call [] rfl rfl rfl (plan_Why_c _ ((s12.trans (sF12_0_0_1.trans (sF12_1_0_2.trans (sF18_3.trans (s19.trans (sF19_0_0_4.trans (sF19_0_1_5.trans (sF19_0_2_6.trans (sb3_7.trans (sF25_8.trans (s26.trans (sF26_0_0_9.trans (sF26_0_1_10.trans (sF26_0_2_11.trans (sb5_12.trans s32))))))))))))))) _ _ hG1) _ r12.1 (fF12_0_0_1.mono (sF12_1_0_2.trans (sF18_3.trans (s19.trans (sF19_0_0_4.trans (sF19_0_1_5.trans (sF19_0_2_6.trans (sb3_7.trans (sF25_8.trans (s26.trans (sF26_0_0_9.trans (sF26_0_1_10.trans (sF26_0_2_11.trans (sb5_12.trans s32)))))))))))))) _ r12.2 (fF12_1_0_2.mono (sF18_3.trans (s19.trans (sF19_0_0_4.trans (sF19_0_1_5.trans (sF19_0_2_6.trans (sb3_7.trans (sF25_8.trans (s26.trans (sF26_0_0_9.trans (sF26_0_1_10.trans (sF26_0_2_11.trans (sb5_12.trans s32))))))))))))) (4) (7) (by first | omega | (simp; done) | (simp; omega) | (simp at *; omega)) (by first | omega | (simp; done) | (simp; omega) | (simp at *; omega))) ?_
  intro v38 H38 L38 s38 q38
  rw [← er38] at q38
  obtain ⟨u38_0_0, c38_0_0, rfl, rfl, w38_0_0⟩ := q38
  obtain ⟨A38_0_0, p38_0_0, rfl, m38_0_0, n38_0_0⟩ := OwnS.shape w38_0_0
  refine R.mvE rfl (by conv => lhs; whnf) ?_
  refine R.ext rfl rfl rfl ?_
  refine R.ext rfl rfl rfl ?_
  refine R.asE rfl (by conv => lhs; whnf) ?_
  refine R.asE rfl (by conv => lhs; whnf) ?_
  refine TL.nil (Post.thnN ?_)
  refine T.seq ?_
  refine T.draw Tryd_mixed (by kernel_rfl) ?_
  refine Plan.v 0 [1, 2, 3, 4, 5, 6, 7, 8, 9, 10, 11, 12, 13, 14, 15, 16, 17, 18, 19, 20, 21, 22, 23, 24, 25, 26, 27, 28, 29, 30, 31, 32, 33, 34, 35, 36, 37, 38, 39, 40, 41, 42, 43, 44, 45, 46] (by kernel_rfl) (by kernel_rfl) (by kernel_rfl) (by kernel_rfl) rfl (fun _ _ h_ => R.mvE rfl (by conv => lhs; whnf) (TL.nil h_)) ?_
  refine Plan.v 1 [2, 3, 4, 5, 6, 7, 8, 9, 10, 11, 12, 13, 14, 15, 16, 17, 18, 19, 20, 21, 22, 23, 24, 25, 26, 27, 28, 29, 30, 31, 32, 33, 34, 35, 36, 37, 38, 39, 40, 41, 42, 43, 44, 45, 46] (by kernel_rfl) (by kernel_rfl) (by kernel_rfl) (by kernel_rfl) rfl (fun _ _ h_ => R.eql rfl rfl rfl (TL.nil h_)) ?_
  refine Plan.v 2 [3, 4, 5, 6, 7, 8, 9, 10, 11, 12, 13, 14, 15, 16, 17, 18, 19, 20, 21, 22, 23, 24, 25, 26, 27, 28, 29, 30, 31, 32, 33, 34, 35, 36, 37, 38, 39, 40, 41, 42, 43, 44, 45, 46] (by kernel_rfl) (by kernel_rfl) (by kernel_rfl) (by kernel_rfl) rfl (fun _ _ h_ => R.mvE rfl (by conv => lhs; whnf) (TL.nil h_)) ?_
  refine Plan.gsplitD 43 rfl (fun g43 => ?_) (fun g43 => ?_)
  · refine Plan.v 3 [4, 5, 6, 7, 8, 9, 10, 11, 12, 13, 14, 15, 16, 17, 18, 19, 20, 21, 22, 23, 24, 25, 26, 27, 28, 29, 30, 31, 32, 33, 34, 35, 36, 37, 38, 39, 40, 41, 42, 43, 44, 45, 46] (by kernel_rfl) (by kernel_rfl) (by kernel_rfl) (by kernel_rfl) rfl (fun _ _ h_ => R.mvE rfl (by conv => lhs; whnf) (TL.nil h_)) ?_
    refine Plan.v 4 [5, 6, 7, 8, 9, 10, 11, 12, 13, 14, 15, 16, 17, 18, 19, 20, 21, 22, 23, 24, 25, 26, 27, 28, 29, 30, 31, 32, 33, 34, 35, 36, 37, 38, 39, 40, 41, 42, 43, 44, 45, 46] (by kernel_rfl) (by kernel_rfl) (by kernel_rfl) (by kernel_rfl) rfl (fun _ _ h_ => R.eql rfl rfl rfl (TL.nil h_)) ?_
    refine Plan.v 5 [6, 7, 8, 9, 10, 11, 12, 13, 14, 15, 16, 17, 18, 19, 20, 21, 22, 23, 24, 25, 26, 27, 28, 29, 30, 31, 32, 33, 34, 35, 36, 37, 38, 39, 40, 41, 42, 43, 44, 45, 46] (by kernel_rfl) (by kernel_rfl) (by kernel_rfl) (by kernel_rfl) rfl (fun _ _ h_ => R.pkTE rfl rfl (by conv => lhs; whnf) (TL.nil h_)) ?_
    refine Plan.v 6 [7, 8, 9, 10, 11, 12, 13, 14, 15, 16, 17, 18, 19, 20, 21, 22, 23, 24, 25, 26, 27, 28, 29, 30, 31, 32, 33, 34, 35, 36, 37, 38, 39, 40, 41, 42, 43, 44, 45, 46] (by kernel_rfl) (by kernel_rfl) (by kernel_rfl) (by kernel_rfl) rfl (fun _ _ h_ => R.mvE rfl (by conv => lhs; whnf) (TL.nil h_)) ?_
    refine Plan.gsplitD 47 rfl (fun g47 => ?_) (fun g47 => ?_)
    · refine Plan.v 7 [8, 9, 10, 11, 12, 13, 14, 15, 16, 17, 18, 19, 20, 21, 22, 23, 24, 25, 26, 27, 28, 29, 30, 31, 32, 33, 34, 35, 36, 37, 38, 39, 40, 41, 42, 43, 44, 45, 46] (by kernel_rfl) (by kernel_rfl) (by kernel_rfl) (by kernel_rfl) rfl (fun _ _ h_ => R.mvE rfl (by conv => lhs; whnf) (TL.nil h_)) ?_
      refine Plan.v 8 [9, 10, 11, 12, 13, 14, 15, 16, 17, 18, 19, 20, 21, 22, 23, 24, 25, 26, 27, 28, 29, 30, 31, 32, 33, 34, 35, 36, 37, 38, 39, 40, 41, 42, 43, 44, 45, 46] (by kernel_rfl) (by kernel_rfl) (by kernel_rfl) (by kernel_rfl) rfl (fun _ _ h_ => R.eql rfl rfl rfl (TL.nil h_)) ?_
      refine Plan.v 9 [10, 11, 12, 13, 14, 15, 16, 17, 18, 19, 20, 21, 22, 23, 24, 25, 26, 27, 28, 29, 30, 31, 32, 33, 34, 35, 36, 37, 38, 39, 40, 41, 42, 43, 44, 45, 46] (by kernel_rfl) (by kernel_rfl) (by kernel_rfl) (by kernel_rfl) rfl (fun _ _ h_ => R.pkTE rfl rfl (by conv => lhs; whnf) (TL.nil h_)) ?_
      refine Plan.v 10 [11, 12, 13, 14, 15, 16, 17, 18, 19, 20, 21, 22, 23, 24, 25, 26, 27, 28, 29, 30, 31, 32, 33, 34, 35, 36, 37, 38, 39, 40, 41, 42, 43, 44, 45, 46] (by kernel_rfl) (by kernel_rfl) (by kernel_rfl) (by kernel_rfl) rfl (fun _ _ h_ => R.mvE rfl (by conv => lhs; whnf) (TL.nil h_)) ?_
      refine Plan.gsplitD 51 rfl (fun g51 => ?_) (fun g51 => ?_)
      · refine Plan.v 11 [12, 13, 14, 15, 16, 17, 18, 19, 20, 21, 22, 23, 24, 25, 26, 27, 28, 29, 30, 31, 32, 33, 34, 35, 36, 37, 38, 39, 40, 41, 42, 43, 44, 45, 46] (by kernel_rfl) (by kernel_rfl) (by kernel_rfl) (by kernel_rfl) rfl (fun _ _ h_ => R.mvE rfl (by conv => lhs; whnf) (TL.nil h_)) ?_
        refine Plan.v 12 [13, 14, 15, 16, 17, 18, 19, 20, 21, 22, 23, 24, 25, 26, 27, 28, 29, 30, 31, 32, 33, 34, 35, 36, 37, 38, 39, 40, 41, 42, 43, 44, 45, 46] (by kernel_rfl) (by kernel_rfl) (by kernel_rfl) (by kernel_rfl) rfl (fun _ _ h_ => R.eql rfl rfl rfl (TL.nil h_)) ?_
        refine Plan.v 13 [14, 15, 16, 17, 18, 19, 20, 21, 22, 23, 24, 25, 26, 27, 28, 29, 30, 31, 32, 33, 34, 35, 36, 37, 38, 39, 40, 41, 42, 43, 44, 45, 46] (by kernel_rfl) (by kernel_rfl) (by kernel_rfl) (by kernel_rfl) rfl (fun _ _ h_ => R.pkTE rfl rfl (by conv => lhs; whnf) (TL.nil h_)) ?_
        refine Plan.v 14 [15, 16, 17, 18, 19, 20, 21, 22, 23, 24, 25, 26, 27, 28, 29, 30, 31, 32, 33, 34, 35, 36, 37, 38, 39, 40, 41, 42, 43, 44, 45, 46] (by kernel_rfl) (by kernel_rfl) (by kernel_rfl) (by kernel_rfl) rfl (fun _ _ h_ => R.mvE rfl (by conv => lhs; whnf) (TL.nil h_)) ?_
        refine Plan.gsplitD 55 rfl (fun g55 => ?_) (fun g55 => ?_)
        · refine Plan.v 15 [16, 17, 18, 19, 20, 21, 22, 23, 24, 25, 26, 27, 28, 29, 30, 31, 32, 33, 34, 35, 36, 37, 38, 39, 40, 41, 42, 43, 44, 45, 46] (by kernel_rfl) (by kernel_rfl) (by kernel_rfl) (by kernel_rfl) rfl (fun _ _ h_ => R.fldA Tryd.underlying81 rfl Tryd.sizeOf23 (by decide) rfl rfl (TL.nil h_)) ?_
          refine Plan.v 16 [17, 18, 19, 20, 21, 22, 23, 24, 25, 26, 27, 28, 29, 30, 31, 32, 33, 34, 35, 36, 37, 38, 39, 40, 41, 42, 43, 44, 45, 46] (by kernel_rfl) (by kernel_rfl) (by kernel_rfl) (by kernel_rfl) rfl (fun _ _ h_ => R.ldH Tryd.isAgg23 rfl rfl ((sF25_8.trans (s26.trans (sF26_0_0_9.trans (sF26_0_1_10.trans (sF26_0_2_11.trans (sb5_12.trans (s32.trans s38))))))) _ _ hb3_7) rfl (TL.nil h_)) ?_
          refine Plan.s1 17 [18, 19, 20, 21, 22, 23, 24, 25, 26, 27, 28, 29, 30, 31, 32, 33, 34, 35, 36, 37, 38, 39, 40, 41, 42, 43, 44, 45, 46] (by kernel_rfl) (by kernel_rfl) rfl ?_
          refine R.bsN [.int .i64 4, .int .i64 5, .int .i64 6] rfl Tryd.underlying23 Tryd.sizeOf3 Tryd.zeroValue3 rfl rfl rfl rfl rfl rfl ?_
          intro b58
          have w58 : OwnS (intE .i64) 3 H38 (.slice (some ⟨b58, 0, none⟩) 3 3) [4, 5, 6] [(b58, .cells #[.int .i64 4, .int .i64 5, .int .i64 6] 3)] := OwnS.lit (xs := [4, 5, 6]) (cellsOf_cons (a := [.int .i64 4]) rfl (cellsOf_cons (a := [.int .i64 5]) rfl (cellsOf_cons (a := [.int .i64 6]) rfl cellsOf_nil))) (by show 3 ≤ maxLen; decide)
          refine TL.nil (Plan.e1 (HLe.refl _) ?_)
          refine Plan.s1 18 [19, 20, 21, 22, 23, 24, 25, 26, 27, 28, 29, 30, 31, 32, 33, 34, 35, 36, 37, 38, 39, 40, 41, 42, 43, 44, 45, 46] (by kernel_rfl) (by kernel_rfl) rfl ?_
          refine TL.shut .hd ?_
          intro HF58_14 sF58_14 qF58_14
          have fF58_14 := OwnS.read w58 sF58_14 qF58_14
          refine R.callv rfl rfl rfl (slices_Equal_int_d _ _ r19.1.1 (fF19_0_0_4.mono (sF19_0_1_5.trans (sF19_0_2_6.trans (sb3_7.trans (sF25_8.trans (s26.trans (sF26_0_0_9.trans (sF26_0_1_10.trans (sF26_0_2_11.trans (sb5_12.trans (s32.trans (s38.trans sF58_14)))))))))))) _ ([4, 5, 6]) fF58_14) ?_
          refine TL.nil (Plan.e1 (sF58_14) ?_)
          refine Plan.v 19 [20, 21, 22, 23, 24, 25, 26, 27, 28, 29, 30, 31, 32, 33, 34, 35, 36, 37, 38, 39, 40, 41, 42, 43, 44, 45, 46] (by kernel_rfl) (by kernel_rfl) (by kernel_rfl) (by kernel_rfl) rfl (fun _ _ h_ => R.pkTE rfl rfl (by conv => lhs; whnf) (TL.nil h_)) ?_
          refine Plan.v 20 [21, 22, 23, 24, 25, 26, 27, 28, 29, 30, 31, 32, 33, 34, 35, 36, 37, 38, 39, 40, 41, 42, 43, 44, 45, 46] (by kernel_rfl) (by kernel_rfl) (by kernel_rfl) (by kernel_rfl) rfl (fun _ _ h_ => R.mvE rfl (by conv => lhs; whnf) (TL.nil h_)) ?_
          refine Plan.gsplitD 61 rfl (fun g61 => ?_) (fun g61 => ?_)
          · refine Plan.v 21 [22, 23, 24, 25, 26, 27, 28, 29, 30, 31, 32, 33, 34, 35, 36, 37, 38, 39, 40, 41, 42, 43, 44, 45, 46] (by kernel_rfl) (by kernel_rfl) (by kernel_rfl) (by kernel_rfl) rfl (fun _ _ h_ => R.fldA Tryd.underlying81 rfl Tryd.sizeOf60 (by decide) rfl rfl (TL.nil h_)) ?_
            refine Plan.v 22 [23, 24, 25, 26, 27, 28, 29, 30, 31, 32, 33, 34, 35, 36, 37, 38, 39, 40, 41, 42, 43, 44, 45, 46] (by kernel_rfl) (by kernel_rfl) (by kernel_rfl) (by kernel_rfl) rfl (fun _ _ h_ => R.ldH Tryd.isAgg60 rfl rfl ((sF25_8.trans (s26.trans (sF26_0_0_9.trans (sF26_0_1_10.trans (sF26_0_2_11.trans (sb5_12.trans (s32.trans (s38.trans sF58_14)))))))) _ _ hb3_7) rfl (TL.nil h_)) ?_
            refine Plan.v 23 [24, 25, 26, 27, 28, 29, 30, 31, 32, 33, 34, 35, 36, 37, 38, 39, 40, 41, 42, 43, 44, 45, 46] (by kernel_rfl) (by kernel_rfl) (by kernel_rfl) (by kernel_rfl) rfl (fun _ _ h_ => R.mvE rfl (by conv => lhs; whnf) (TL.nil h_)) ?_
            have z65 := RdS.drop (fF12_1_0_2.mono (sF18_3.trans (s19.trans (sF19_0_0_4.trans (sF19_0_1_5.trans (sF19_0_2_6.trans (sb3_7.trans (sF25_8.trans (s26.trans (sF26_0_0_9.trans (sF26_0_1_10.trans (sF26_0_2_11.trans (sb5_12.trans (s32.trans (s38.trans sF58_14))))))))))))))) (i := 2) (by omega) (by omega)
            obtain ⟨x65, e65⟩ : ∃ x, x = (r12.2.drop 2) := ⟨_, rfl⟩
            rw [← e65] at z65
            obtain ⟨A65, p65, q65, m65, n65, r65⟩ := RdS.shape z65
            have t65 : x65.length ≤ r12.2.length := by rw [e65]; simp; try omega
            refine Plan.v 24 [25, 26, 27, 28, 29, 30, 31, 32, 33, 34, 35, 36, 37, 38, 39, 40, 41, 42, 43, 44, 45, 46] (by kernel_rfl) (by kernel_rfl) (by kernel_rfl) (by kernel_rfl) rfl (fun _ _ h_ => R.sL Tryd.underlying60 Tryd.sizeOf73 rfl rfl rfl (by omega) (by omega)  (TL.nil h_)) ?_
            refine Plan.set 65 (.slice A65 x65.length p65) (by first | exact q65 | (rw [← q65]; simp; done) | (rw [← q65]; rfl)) ?_
            refine Plan.v 25 [26, 27, 28, 29, 30, 31, 32, 33, 34, 35, 36, 37, 38, 39, 40, 41, 42, 43, 44, 45, 46] (by kernel_rfl) (by kernel_rfl) (by kernel_rfl) (by kernel_rfl) rfl (fun _ _ h_ => R.callv rfl rfl rfl (slices_Equal_Held_d _ _ r19.1.2.1 (fF19_0_1_5.mono (sF19_0_2_6.trans (sb3_7.trans (sF25_8.trans (s26.trans (sF26_0_0_9.trans (sF26_0_1_10.trans (sF26_0_2_11.trans (sb5_12.trans (s32.trans (s38.trans sF58_14))))))))))) _ x65 r65) (TL.nil h_)) ?_
            refine Plan.v 26 [27, 28, 29, 30, 31, 32, 33, 34, 35, 36, 37, 38, 39, 40, 41, 42, 43, 44, 45, 46] (by kernel_rfl) (by kernel_rfl) (by kernel_rfl) (by kernel_rfl) rfl (fun _ _ h_ => R.pkTE rfl rfl (by conv => lhs; whnf) (TL.nil h_)) ?_
            refine Plan.v 27 [28, 29, 30, 31, 32, 33, 34, 35, 36, 37, 38, 39, 40, 41, 42, 43, 44, 45, 46] (by kernel_rfl) (by kernel_rfl) (by kernel_rfl) (by kernel_rfl) rfl (fun _ _ h_ => R.mvE rfl (by conv => lhs; whnf) (TL.nil h_)) ?_
            refine Plan.gsplitD 68 rfl (fun g68 => ?_) (fun g68 => ?_)
            · refine Plan.v 28 [29, 30, 31, 32, 33, 34, 35, 36, 37, 38, 39, 40, 41, 42, 43, 44, 45, 46] (by kernel_rfl) (by kernel_rfl) (by kernel_rfl) (by kernel_rfl) rfl (fun _ _ h_ => R.fldA Tryd.underlying81 rfl Tryd.sizeOf60 (by decide) rfl rfl (TL.nil h_)) ?_
              refine Plan.v 29 [30, 31, 32, 33, 34, 35, 36, 37, 38, 39, 40, 41, 42, 43, 44, 45, 46] (by kernel_rfl) (by kernel_rfl) (by kernel_rfl) (by kernel_rfl) rfl (fun _ _ h_ => R.ldH Tryd.isAgg60 rfl rfl ((sF25_8.trans (s26.trans (sF26_0_0_9.trans (sF26_0_1_10.trans (sF26_0_2_11.trans (sb5_12.trans (s32.trans (s38.trans sF58_14)))))))) _ _ hb3_7) rfl (TL.nil h_)) ?_
              refine Plan.v 30 [31, 32, 33, 34, 35, 36, 37, 38, 39, 40, 41, 42, 43, 44, 45, 46] (by kernel_rfl) (by kernel_rfl) (by kernel_rfl) (by kernel_rfl) rfl (fun _ _ h_ => R.mvE rfl (by conv => lhs; whnf) (TL.nil h_)) ?_
              have z72 := RdS.drop (fF12_1_0_2.mono (sF18_3.trans (s19.trans (sF19_0_0_4.trans (sF19_0_1_5.trans (sF19_0_2_6.trans (sb3_7.trans (sF25_8.trans (s26.trans (sF26_0_0_9.trans (sF26_0_1_10.trans (sF26_0_2_11.trans (sb5_12.trans (s32.trans (s38.trans sF58_14))))))))))))))) (i := 3) (by omega) (by omega)
              obtain ⟨x72, e72⟩ : ∃ x, x = (r12.2.drop 3) := ⟨_, rfl⟩
              rw [← e72] at z72
              obtain ⟨A72, p72, q72, m72, n72, r72⟩ := RdS.shape z72
              have t72 : x72.length ≤ r12.2.length := by rw [e72]; simp; try omega
              refine Plan.v 31 [32, 33, 34, 35, 36, 37, 38, 39, 40, 41, 42, 43, 44, 45, 46] (by kernel_rfl) (by kernel_rfl) (by kernel_rfl) (by kernel_rfl) rfl (fun _ _ h_ => R.sL Tryd.underlying60 Tryd.sizeOf73 rfl rfl rfl (by omega) (by omega)  (TL.nil h_)) ?_
              refine Plan.set 72 (.slice A72 x72.length p72) (by first | exact q72 | (rw [← q72]; simp; done) | (rw [← q72]; rfl)) ?_
              refine Plan.v 32 [33, 34, 35, 36, 37, 38, 39, 40, 41, 42, 43, 44, 45, 46] (by kernel_rfl) (by kernel_rfl) (by kernel_rfl) (by kernel_rfl) rfl (fun _ _ h_ => R.callv rfl rfl rfl (slices_Equal_Held_d _ _ r19.1.2.2 (fF19_0_2_6.mono (sb3_7.trans (sF25_8.trans (s26.trans (sF26_0_0_9.trans (sF26_0_1_10.trans (sF26_0_2_11.trans (sb5_12.trans (s32.trans (s38.trans sF58_14)))))))))) _ x72 r72) (TL.nil h_)) ?_
              refine Plan.v 33 [34, 35, 36, 37, 38, 39, 40, 41, 42, 43, 44, 45, 46] (by kernel_rfl) (by kernel_rfl) (by kernel_rfl) (by kernel_rfl) rfl (fun _ _ h_ => R.pkTE rfl rfl (by conv => lhs; whnf) (TL.nil h_)) ?_
              refine Plan.v 34 [35, 36, 37, 38, 39, 40, 41, 42, 43, 44, 45, 46] (by kernel_rfl) (by kernel_rfl) (by kernel_rfl) (by kernel_rfl) rfl (fun _ _ h_ => R.mvE rfl (by conv => lhs; whnf) (TL.nil h_)) ?_
              refine Plan.gsplitD 75 rfl (fun g75 => ?_) (fun g75 => ?_)
              · refine Plan.v 35 [36, 37, 38, 39, 40, 41, 42, 43, 44, 45, 46] (by kernel_rfl) (by kernel_rfl) (by kernel_rfl) (by kernel_rfl) rfl (fun _ _ h_ => R.fldA Tryd.underlying81 rfl Tryd.sizeOf23 (by decide) rfl rfl (TL.nil h_)) ?_
                refine Plan.v 36 [37, 38, 39, 40, 41, 42, 43, 44, 45, 46] (by kernel_rfl) (by kernel_rfl) (by kernel_rfl) (by kernel_rfl) rfl (fun _ _ h_ => R.ldH Tryd.isAgg23 rfl rfl ((s32.trans (s38.trans sF58_14)) _ _ hb5_12) rfl (TL.nil h_)) ?_
                refine Plan.s1 37 [38, 39, 40, 41, 42, 43, 44, 45, 46] (by kernel_rfl) (by kernel_rfl) rfl ?_
                refine R.bsN [.int .i64 3, .int .i64 8] rfl Tryd.underlying23 Tryd.sizeOf3 Tryd.zeroValue3 rfl rfl rfl rfl rfl rfl ?_
                intro b78
                have w78 : OwnS (intE .i64) 3 HF58_14 (.slice (some ⟨b78, 0, none⟩) 2 2) [3, 8] [(b78, .cells #[.int .i64 3, .int .i64 8] 3)] := OwnS.lit (xs := [3, 8]) (cellsOf_cons (a := [.int .i64 3]) rfl (cellsOf_cons (a := [.int .i64 8]) rfl cellsOf_nil)) (by show 2 ≤ maxLen; decide)
                refine TL.nil (Plan.e1 (HLe.refl _) ?_)
                refine Plan.s1 38 [39, 40, 41, 42, 43, 44, 45, 46] (by kernel_rfl) (by kernel_rfl) rfl ?_
                refine TL.shut .hd ?_
                intro HF78_16 sF78_16 qF78_16
                have fF78_16 := OwnS.read w78 sF78_16 qF78_16
                refine R.callv rfl rfl rfl (slices_Equal_int_d _ _ r26.1.1 (fF26_0_0_9.mono (sF26_0_1_10.trans (sF26_0_2_11.trans (sb5_12.trans (s32.trans (s38.trans (sF58_14.trans sF78_16))))))) _ ([3, 8]) fF78_16) ?_
                refine TL.nil (Plan.e1 (sF78_16) ?_)
                refine Plan.v 39 [40, 41, 42, 43, 44, 45, 46] (by kernel_rfl) (by kernel_rfl) (by kernel_rfl) (by kernel_rfl) rfl (fun _ _ h_ => R.pkTE rfl rfl (by conv => lhs; whnf) (TL.nil h_)) ?_
                refine Plan.v 40 [41, 42, 43, 44, 45, 46] (by kernel_rfl) (by kernel_rfl) (by kernel_rfl) (by kernel_rfl) rfl (fun _ _ h_ => R.mvE rfl (by conv => lhs; whnf) (TL.nil h_)) ?_
                refine Plan.gsplitD 81 rfl (fun g81 => ?_) (fun g81 => ?_)
                · refine Plan.v 41 [42, 43, 44, 45, 46] (by kernel_rfl) (by kernel_rfl) (by kernel_rfl) (by kernel_rfl) rfl (fun _ _ h_ => R.mvE rfl (by conv => lhs; whnf) (TL.nil h_)) ?_
                  refine Plan.v 42 [43, 44, 45, 46] (by kernel_rfl) (by kernel_rfl) (by kernel_rfl) (by kernel_rfl) rfl (fun _ _ h_ => R.mvE rfl (by conv => lhs; whnf) (TL.nil h_)) ?_
                  have z84 := RdS.takeC (fF12_1_0_2.mono (sF18_3.trans (s19.trans (sF19_0_0_4.trans (sF19_0_1_5.trans (sF19_0_2_6.trans (sb3_7.trans (sF25_8.trans (s26.trans (sF26_0_0_9.trans (sF26_0_1_10.trans (sF26_0_2_11.trans (sb5_12.trans (s32.trans (s38.trans (sF58_14.trans sF78_16)))))))))))))))) (i := 2) (by omega) (by omega)
                  obtain ⟨x84, e84⟩ : ∃ x, x = (r12.2.take 2) := ⟨_, rfl⟩
                  rw [← e84] at z84
                  obtain ⟨A84, p84, q84, m84, n84, r84⟩ := RdS.shape z84
                  have t84 : x84.length ≤ r12.2.length := by rw [e84]; simp; try omega
                  have t84_ : x84.length = min 2 r12.2.length := by rw [e84]; simp
                  refine Plan.v 43 [44, 45, 46] (by kernel_rfl) (by kernel_rfl) (by kernel_rfl) (by kernel_rfl) rfl (fun _ _ h_ => R.sH Tryd.underlying60 Tryd.sizeOf73 rfl rfl rfl (by omega) (by omega)  (TL.nil h_)) ?_
                  refine Plan.set 84 (.slice A84 x84.length p84) (by first | exact q84 | (rw [← q84]; simp; done) | (rw [← q84]; rfl)) ?_
                  refine Plan.s1 44 [45, 46] (by kernel_rfl) (by kernel_rfl) rfl ?_
                  refine TL.shut (.tl .hd) ?_
                  intro HF32_0_0_18 sF32_0_0_18 qF32_0_0_18
                  have fF32_0_0_18 := OwnS.read (OwnS.mono w32_0_0 (s38.trans (sF58_14.trans sF78_16))) sF32_0_0_18 qF32_0_0_18
                  refine R.callv rfl rfl rfl (slices_Equal_Held_d _ _ r32.1 fF32_0_0_18 _ x84 (r84.mono sF32_0_0_18)) ?_
                  refine TL.nil (Plan.e1 (sF32_0_0_18) ?_)
                  refine Plan.v 45 [46] (by kernel_rfl) (by kernel_rfl) (by kernel_rfl) (by kernel_rfl) rfl (fun _ _ h_ => R.pkTE rfl rfl (by conv => lhs; whnf) (TL.nil h_)) ?_
                  refine Plan.v 46 [] (by kernel_rfl) (by kernel_rfl) (by kernel_rfl) (by kernel_rfl) rfl (fun _ _ h_ => R.asE rfl (by conv => lhs; whnf) (TL.nil h_)) ?_
                  refine Plan.done (Post.thnN ?_)
                  refine T.has Has.nil ?_
                  refine T.ret ?_
                  have hM : windroselaw20_wakes_m = (decide (r32.1 = x84)) := by subst e84; subst e72; subst e65; subst er38; subst er32; subst er26; subst er19; subst er12; rw [windroselaw20_wakes_m, LR.seq_go, LR.seq_go, LR.seq_go, LR.seq_go, LR.seq_go, if_pos g43, if_pos g47, if_pos g51, if_pos g55, if_pos g61, if_pos g68, if_pos g75, if_pos g81]
                  exact fin1L (v := .bool (decide (r32.1 = x84))) [] rfl rfl (List.Sublist.refl _) ⟨rfl, by first | rw [hM] | rfl⟩
                · refine Plan.v 41 [42, 43, 44, 45, 46] (by kernel_rfl) (by kernel_rfl) (by kernel_rfl) (by kernel_rfl) rfl (fun _ _ h_ => TL.off rfl rfl rfl (TL.nil h_)) ?_
                  refine Plan.v 42 [43, 44, 45, 46] (by kernel_rfl) (by kernel_rfl) (by kernel_rfl) (by kernel_rfl) rfl (fun _ _ h_ => TL.off rfl rfl rfl (TL.nil h_)) ?_
                  refine Plan.v 43 [44, 45, 46] (by kernel_rfl) (by kernel_rfl) (by kernel_rfl) (by kernel_rfl) rfl (fun _ _ h_ => TL.off rfl rfl rfl (TL.nil h_)) ?_
                  refine Plan.v 44 [45, 46] (by kernel_rfl) (by kernel_rfl) (by kernel_rfl) (by kernel_rfl) rfl (fun _ _ h_ => TL.off rfl rfl rfl (TL.nil h_)) ?_
                  refine Plan.v 45 [46] (by kernel_rfl) (by kernel_rfl) (by kernel_rfl) (by kernel_rfl) rfl (fun _ _ h_ => R.pkFE rfl rfl (by conv => lhs; whnf) (TL.nil h_)) ?_
                  refine Plan.v 46 [] (by kernel_rfl) (by kernel_rfl) (by kernel_rfl) (by kernel_rfl) rfl (fun _ _ h_ => R.asE rfl (by conv => lhs; whnf) (TL.nil h_)) ?_
                  refine Plan.done (Post.thnN ?_)
                  refine T.has Has.nil ?_
                  refine T.ret ?_
                  have hM : windroselaw20_wakes_m = false := by subst e72; subst e65; subst er38; subst er32; subst er26; subst er19; subst er12; rw [windroselaw20_wakes_m, LR.seq_go, LR.seq_go, LR.seq_go, LR.seq_go, LR.seq_go, if_pos g43, if_pos g47, if_pos g51, if_pos g55, if_pos g61, if_pos g68, if_pos g75, if_neg g81]
                  exact fin1L (v := .bool false) [] rfl rfl (List.Sublist.refl _) ⟨rfl, by first | rw [hM] | rfl⟩
              · refine Plan.v 35 [36, 37, 38, 39, 40, 41, 42, 43, 44, 45, 46] (by kernel_rfl) (by kernel_rfl) (by kernel_rfl) (by kernel_rfl) rfl (fun _ _ h_ => TL.off rfl rfl rfl (TL.nil h_)) ?_
                refine Plan.v 36 [37, 38, 39, 40, 41, 42, 43, 44, 45, 46] (by kernel_rfl) (by kernel_rfl) (by kernel_rfl) (by kernel_rfl) rfl (fun _ _ h_ => TL.off rfl rfl rfl (TL.nil h_)) ?_
                refine Plan.v 37 [38, 39, 40, 41, 42, 43, 44, 45, 46] (by kernel_rfl) (by kernel_rfl) (by kernel_rfl) (by kernel_rfl) rfl (fun _ _ h_ => TL.off rfl rfl rfl (TL.nil h_)) ?_
                refine Plan.v 38 [39, 40, 41, 42, 43, 44, 45, 46] (by kernel_rfl) (by kernel_rfl) (by kernel_rfl) (by kernel_rfl) rfl (fun _ _ h_ => TL.off rfl rfl rfl (TL.nil h_)) ?_
                refine Plan.v 39 [40, 41, 42, 43, 44, 45, 46] (by kernel_rfl) (by kernel_rfl) (by kernel_rfl) (by kernel_rfl) rfl (fun _ _ h_ => R.pkFE rfl rfl (by conv => lhs; whnf) (TL.nil h_)) ?_
                refine Plan.v 40 [41, 42, 43, 44, 45, 46] (by kernel_rfl) (by kernel_rfl) (by kernel_rfl) (by kernel_rfl) rfl (fun _ _ h_ => R.mvE rfl (by conv => lhs; whnf) (TL.nil h_)) ?_
                refine Plan.v 41 [42, 43, 44, 45, 46] (by kernel_rfl) (by kernel_rfl) (by kernel_rfl) (by kernel_rfl) rfl (fun _ _ h_ => TL.off rfl rfl rfl (TL.nil h_)) ?_
                refine Plan.v 42 [43, 44, 45, 46] (by kernel_rfl) (by kernel_rfl) (by kernel_rfl) (by kernel_rfl) rfl (fun _ _ h_ => TL.off rfl rfl rfl (TL.nil h_)) ?_
                refine Plan.v 43 [44, 45, 46] (by kernel_rfl) (by kernel_rfl) (by kernel_rfl) (by kernel_rfl) rfl (fun _ _ h_ => TL.off rfl rfl rfl (TL.nil h_)) ?_
                refine Plan.v 44 [45, 46] (by kernel_rfl) (by kernel_rfl) (by kernel_rfl) (by kernel_rfl) rfl (fun _ _ h_ => TL.off rfl rfl rfl (TL.nil h_)) ?_
                refine Plan.v 45 [46] (by kernel_rfl) (by kernel_rfl) (by kernel_rfl) (by kernel_rfl) rfl (fun _ _ h_ => R.pkFE rfl rfl (by conv => lhs; whnf) (TL.nil h_)) ?_
                refine Plan.v 46 [] (by kernel_rfl) (by kernel_rfl) (by kernel_rfl) (by kernel_rfl) rfl (fun _ _ h_ => R.asE rfl (by conv => lhs; whnf) (TL.nil h_)) ?_
                refine Plan.done (Post.thnN ?_)
                refine T.has Has.nil ?_
                refine T.ret ?_
                have hM : windroselaw20_wakes_m = false := by subst e72; subst e65; subst er38; subst er32; subst er26; subst er19; subst er12; rw [windroselaw20_wakes_m, LR.seq_go, LR.seq_go, LR.seq_go, LR.seq_go, LR.seq_go, if_pos g43, if_pos g47, if_pos g51, if_pos g55, if_pos g61, if_pos g68, if_neg g75]
                exact fin1L (v := .bool false) [] rfl rfl (List.Sublist.refl _) ⟨rfl, by first | rw [hM] | rfl⟩
            · refine Plan.v 28 [29, 30, 31, 32, 33, 34, 35, 36, 37, 38, 39, 40, 41, 42, 43, 44, 45, 46] (by kernel_rfl) (by kernel_rfl) (by kernel_rfl) (by kernel_rfl) rfl (fun _ _ h_ => TL.off rfl rfl rfl (TL.nil h_)) ?_
              refine Plan.v 29 [30, 31, 32, 33, 34, 35, 36, 37, 38, 39, 40, 41, 42, 43, 44, 45, 46] (by kernel_rfl) (by kernel_rfl) (by kernel_rfl) (by kernel_rfl) rfl (fun _ _ h_ => TL.off rfl rfl rfl (TL.nil h_)) ?_
              refine Plan.v 30 [31, 32, 33, 34, 35, 36, 37, 38, 39, 40, 41, 42, 43, 44, 45, 46] (by kernel_rfl) (by kernel_rfl) (by kernel_rfl) (by kernel_rfl) rfl (fun _ _ h_ => TL.off rfl rfl rfl (TL.nil h_)) ?_
              refine Plan.v 31 [32, 33, 34, 35, 36, 37, 38, 39, 40, 41, 42, 43, 44, 45, 46] (by kernel_rfl) (by kernel_rfl) (by kernel_rfl) (by kernel_rfl) rfl (fun _ _ h_ => TL.off rfl rfl rfl (TL.nil h_)) ?_
              refine Plan.v 32 [33, 34, 35, 36, 37, 38, 39, 40, 41, 42, 43, 44, 45, 46] (by kernel_rfl) (by kernel_rfl) (by kernel_rfl) (by kernel_rfl) rfl (fun _ _ h_ => TL.off rfl rfl rfl (TL.nil h_)) ?_
              refine Plan.v 33 [34, 35, 36, 37, 38, 39, 40, 41, 42, 43, 44, 45, 46] (by kernel_rfl) (by kernel_rfl) (by kernel_rfl) (by kernel_rfl) rfl (fun _ _ h_ => R.pkFE rfl rfl (by conv => lhs; whnf) (TL.nil h_)) ?_
              refine Plan.v 34 [35, 36, 37, 38, 39, 40, 41, 42, 43, 44, 45, 46] (by kernel_rfl) (by kernel_rfl) (by kernel_rfl) (by kernel_rfl) rfl (fun _ _ h_ => R.mvE rfl (by conv => lhs; whnf) (TL.nil h_)) ?_
              refine Plan.v 35 [36, 37, 38, 39, 40, 41, 42, 43, 44, 45, 46] (by kernel_rfl) (by kernel_rfl) (by kernel_rfl) (by kernel_rfl) rfl (fun _ _ h_ => TL.off rfl rfl rfl (TL.nil h_)) ?_
              refine Plan.v 36 [37, 38, 39, 40, 41, 42, 43, 44, 45, 46] (by kernel_rfl) (by kernel_rfl) (by kernel_rfl) (by kernel_rfl) rfl (fun _ _ h_ => TL.off rfl rfl rfl (TL.nil h_)) ?_
              refine Plan.v 37 [38, 39, 40, 41, 42, 43, 44, 45, 46] (by kernel_rfl) (by kernel_rfl) (by kernel_rfl) (by kernel_rfl) rfl (fun _ _ h_ => TL.off rfl rfl rfl (TL.nil h_)) ?_
              refine Plan.v 38 [39, 40, 41, 42, 43, 44, 45, 46] (by kernel_rfl) (by kernel_rfl) (by kernel_rfl) (by kernel_rfl) rfl (fun _ _ h_ => TL.off rfl rfl rfl (TL.nil h_)) ?_
              refine Plan.v 39 [40, 41, 42, 43, 44, 45, 46] (by kernel_rfl) (by kernel_rfl) (by kernel_rfl) (by kernel_rfl) rfl (fun _ _ h_ => R.pkFE rfl rfl (by conv => lhs; whnf) (TL.nil h_)) ?_
              refine Plan.v 40 [41, 42, 43, 44, 45, 46] (by kernel_rfl) (by kernel_rfl) (by kernel_rfl) (by kernel_rfl) rfl (fun _ _ h_ => R.mvE rfl (by conv => lhs; whnf) (TL.nil h_)) ?_
              refine Plan.v 41 [42, 43, 44, 45, 46] (by kernel_rfl) (by kernel_rfl) (by kernel_rfl) (by kernel_rfl) rfl (fun _ _ h_ => TL.off rfl rfl rfl (TL.nil h_)) ?_
              refine Plan.v 42 [43, 44, 45, 46] (by kernel_rfl) (by kernel_rfl) (by kernel_rfl) (by kernel_rfl) rfl (fun _ _ h_ => TL.off rfl rfl rfl (TL.nil h_)) ?_
              refine Plan.v 43 [44, 45, 46] (by kernel_rfl) (by kernel_rfl) (by kernel_rfl) (by kernel_rfl) rfl (fun _ _ h_ => TL.off rfl rfl rfl (TL.nil h_)) ?_
              refine Plan.v 44 [45, 46] (by kernel_rfl) (by kernel_rfl) (by kernel_rfl) (by kernel_rfl) rfl (fun _ _ h_ => TL.off rfl rfl rfl (TL.nil h_)) ?_
              refine Plan.v 45 [46] (by kernel_rfl) (by kernel_rfl) (by kernel_rfl) (by kernel_rfl) rfl (fun _ _ h_ => R.pkFE rfl rfl (by conv => lhs; whnf) (TL.nil h_)) ?_
              refine Plan.v 46 [] (by kernel_rfl) (by kernel_rfl) (by kernel_rfl) (by kernel_rfl) rfl (fun _ _ h_ => R.asE rfl (by conv => lhs; whnf) (TL.nil h_)) ?_
              refine Plan.done (Post.thnN ?_)
              refine T.has Has.nil ?_
              refine T.ret ?_
              have hM : windroselaw20_wakes_m = false := by subst e65; subst er38; subst er32; subst er26; subst er19; subst er12; rw [windroselaw20_wakes_m, LR.seq_go, LR.seq_go, LR.seq_go, LR.seq_go, LR.seq_go, if_pos g43, if_pos g47, if_pos g51, if_pos g55, if_pos g61, if_neg g68]
              exact fin1L (v := .bool false) [] rfl rfl (List.Sublist.refl _) ⟨rfl, by first | rw [hM] | rfl⟩
          · refine Plan.v 21 [22, 23, 24, 25, 26, 27, 28, 29, 30, 31, 32, 33, 34, 35, 36, 37, 38, 39, 40, 41, 42, 43, 44, 45, 46] (by kernel_rfl) (by kernel_rfl) (by kernel_rfl) (by kernel_rfl) rfl (fun _ _ h_ => TL.off rfl rfl rfl (TL.nil h_)) ?_
            refine Plan.v 22 [23, 24, 25, 26, 27, 28, 29, 30, 31, 32, 33, 34, 35, 36, 37, 38, 39, 40, 41, 42, 43, 44, 45, 46] (by kernel_rfl) (by kernel_rfl) (by kernel_rfl) (by kernel_rfl) rfl (fun _ _ h_ => TL.off rfl rfl rfl (TL.nil h_)) ?_
            refine Plan.v 23 [24, 25, 26, 27, 28, 29, 30, 31, 32, 33, 34, 35, 36, 37, 38, 39, 40, 41, 42, 43, 44, 45, 46] (by kernel_rfl) (by kernel_rfl) (by kernel_rfl) (by kernel_rfl) rfl (fun _ _ h_ => TL.off rfl rfl rfl (TL.nil h_)) ?_
            refine Plan.v 24 [25, 26, 27, 28, 29, 30, 31, 32, 33, 34, 35, 36, 37, 38, 39, 40, 41, 42, 43, 44, 45, 46] (by kernel_rfl) (by kernel_rfl) (by kernel_rfl) (by kernel_rfl) rfl (fun _ _ h_ => TL.off rfl rfl rfl (TL.nil h_)) ?_
            refine Plan.v 25 [26, 27, 28, 29, 30, 31, 32, 33, 34, 35, 36, 37, 38, 39, 40, 41, 42, 43, 44, 45, 46] (by kernel_rfl) (by kernel_rfl) (by kernel_rfl) (by kernel_rfl) rfl (fun _ _ h_ => TL.off rfl rfl rfl (TL.nil h_)) ?_
            refine Plan.v 26 [27, 28, 29, 30, 31, 32, 33, 34, 35, 36, 37, 38, 39, 40, 41, 42, 43, 44, 45, 46] (by kernel_rfl) (by kernel_rfl) (by kernel_rfl) (by kernel_rfl) rfl (fun _ _ h_ => R.pkFE rfl rfl (by conv => lhs; whnf) (TL.nil h_)) ?_
            refine Plan.v 27 [28, 29, 30, 31, 32, 33, 34, 35, 36, 37, 38, 39, 40, 41, 42, 43, 44, 45, 46] (by kernel_rfl) (by kernel_rfl) (by kernel_rfl) (by kernel_rfl) rfl (fun _ _ h_ => R.mvE rfl (by conv => lhs; whnf) (TL.nil h_)) ?_
            refine Plan.v 28 [29, 30, 31, 32, 33, 34, 35, 36, 37, 38, 39, 40, 41, 42, 43, 44, 45, 46] (by kernel_rfl) (by kernel_rfl) (by kernel_rfl) (by kernel_rfl) rfl (fun _ _ h_ => TL.off rfl rfl rfl (TL.nil h_)) ?_
            refine Plan.v 29 [30, 31, 32, 33, 34, 35, 36, 37, 38, 39, 40, 41, 42, 43, 44, 45, 46] (by kernel_rfl) (by kernel_rfl) (by kernel_rfl) (by kernel_rfl) rfl (fun _ _ h_ => TL.off rfl rfl rfl (TL.nil h_)) ?_
            refine Plan.v 30 [31, 32, 33, 34, 35, 36, 37, 38, 39, 40, 41, 42, 43, 44, 45, 46] (by kernel_rfl) (by kernel_rfl) (by kernel_rfl) (by kernel_rfl) rfl (fun _ _ h_ => TL.off rfl rfl rfl (TL.nil h_)) ?_
            refine Plan.v 31 [32, 33, 34, 35, 36, 37, 38, 39, 40, 41, 42, 43, 44, 45, 46] (by kernel_rfl) (by kernel_rfl) (by kernel_rfl) (by kernel_rfl) rfl (fun _ _ h_ => TL.off rfl rfl rfl (TL.nil h_)) ?_
            refine Plan.v 32 [33, 34, 35, 36, 37, 38, 39, 40, 41, 42, 43, 44, 45, 46] (by kernel_rfl) (by kernel_rfl) (by kernel_rfl) (by kernel_rfl) rfl (fun _ _ h_ => TL.off rfl rfl rfl (TL.nil h_)) ?_
            refine Plan.v 33 [34, 35, 36, 37, 38, 39, 40, 41, 42, 43, 44, 45, 46] (by kernel_rfl) (by kernel_rfl) (by kernel_rfl) (by kernel_rfl) rfl (fun _ _ h_ => R.pkFE rfl rfl (by conv => lhs; whnf) (TL.nil h_)) ?_
            refine Plan.v 34 [35, 36, 37, 38, 39, 40, 41, 42, 43, 44, 45, 46] (by kernel_rfl) (by kernel_rfl) (by kernel_rfl) (by kernel_rfl) rfl (fun _ _ h_ => R.mvE rfl (by conv => lhs; whnf) (TL.nil h_)) ?_
            refine Plan.v 35 [36, 37, 38, 39, 40, 41, 42, 43, 44, 45, 46] (by kernel_rfl) (by kernel_rfl) (by kernel_rfl) (by kernel_rfl) rfl (fun _ _ h_ => TL.off rfl rfl rfl (TL.nil h_)) ?_
            refine Plan.v 36 [37, 38, 39, 40, 41, 42, 43, 44, 45, 46] (by kernel_rfl) (by kernel_rfl) (by kernel_rfl) (by kernel_rfl) rfl (fun _ _ h_ => TL.off rfl rfl rfl (TL.nil h_)) ?_
            refine Plan.v 37 [38, 39, 40, 41, 42, 43, 44, 45, 46] (by kernel_rfl) (by kernel_rfl) (by kernel_rfl) (by kernel_rfl) rfl (fun _ _ h_ => TL.off rfl rfl rfl (TL.nil h_)) ?_
            refine Plan.v 38 [39, 40, 41, 42, 43, 44, 45, 46] (by kernel_rfl) (by kernel_rfl) (by kernel_rfl) (by kernel_rfl) rfl (fun _ _ h_ => TL.off rfl rfl rfl (TL.nil h_)) ?_
            refine Plan.v 39 [40, 41, 42, 43, 44, 45, 46] (by kernel_rfl) (by kernel_rfl) (by kernel_rfl) (by kernel_rfl) rfl (fun _ _ h_ => R.pkFE rfl rfl (by conv => lhs; whnf) (TL.nil h_)) ?_
            refine Plan.v 40 [41, 42, 43, 44, 45, 46] (by kernel_rfl) (by kernel_rfl) (by kernel_rfl) (by kernel_rfl) rfl (fun _ _ h_ => R.mvE rfl (by conv => lhs; whnf) (TL.nil h_)) ?_
            refine Plan.v 41 [42, 43, 44, 45, 46] (by kernel_rfl) (by kernel_rfl) (by kernel_rfl) (by kernel_rfl) rfl (fun _ _ h_ => TL.off rfl rfl rfl (TL.nil h_)) ?_
            refine Plan.v 42 [43, 44, 45, 46] (by kernel_rfl) (by kernel_rfl) (by kernel_rfl) (by kernel_rfl) rfl (fun _ _ h_ => TL.off rfl rfl rfl (TL.nil h_)) ?_
            refine Plan.v 43 [44, 45, 46] (by kernel_rfl) (by kernel_rfl) (by kernel_rfl) (by kernel_rfl) rfl (fun _ _ h_ => TL.off rfl rfl rfl (TL.nil h_)) ?_
            refine Plan.v 44 [45, 46] (by kernel_rfl) (by kernel_rfl) (by kernel_rfl) (by kernel_rfl) rfl (fun _ _ h_ => TL.off rfl rfl rfl (TL.nil h_)) ?_
            refine Plan.v 45 [46] (by kernel_rfl) (by kernel_rfl) (by kernel_rfl) (by kernel_rfl) rfl (fun _ _ h_ => R.pkFE rfl rfl (by conv => lhs; whnf) (TL.nil h_)) ?_
            refine Plan.v 46 [] (by kernel_rfl) (by kernel_rfl) (by kernel_rfl) (by kernel_rfl) rfl (fun _ _ h_ => R.asE rfl (by conv => lhs; whnf) (TL.nil h_)) ?_
            refine Plan.done (Post.thnN ?_)
            refine T.has Has.nil ?_
            refine T.ret ?_
            have hM : windroselaw20_wakes_m = false := by subst er38; subst er32; subst er26; subst er19; subst er12; rw [windroselaw20_wakes_m, LR.seq_go, LR.seq_go, LR.seq_go, LR.seq_go, LR.seq_go, if_pos g43, if_pos g47, if_pos g51, if_pos g55, if_neg g61]
            exact fin1L (v := .bool false) [] rfl rfl (List.Sublist.refl _) ⟨rfl, by first | rw [hM] | rfl⟩
        · refine Plan.v 15 [16, 17, 18, 19, 20, 21, 22, 23, 24, 25, 26, 27, 28, 29, 30, 31, 32, 33, 34, 35, 36, 37, 38, 39, 40, 41, 42, 43, 44, 45, 46] (by kernel_rfl) (by kernel_rfl) (by kernel_rfl) (by kernel_rfl) rfl (fun _ _ h_ => TL.off rfl rfl rfl (TL.nil h_)) ?_
          refine Plan.v 16 [17, 18, 19, 20, 21, 22, 23, 24, 25, 26, 27, 28, 29, 30, 31, 32, 33, 34, 35, 36, 37, 38, 39, 40, 41, 42, 43, 44, 45, 46] (by kernel_rfl) (by kernel_rfl) (by kernel_rfl) (by kernel_rfl) rfl (fun _ _ h_ => TL.off rfl rfl rfl (TL.nil h_)) ?_
          refine Plan.v 17 [18, 19, 20, 21, 22, 23, 24, 25, 26, 27, 28, 29, 30, 31, 32, 33, 34, 35, 36, 37, 38, 39, 40, 41, 42, 43, 44, 45, 46] (by kernel_rfl) (by kernel_rfl) (by kernel_rfl) (by kernel_rfl) rfl (fun _ _ h_ => TL.off rfl rfl rfl (TL.nil h_)) ?_
          refine Plan.v 18 [19, 20, 21, 22, 23, 24, 25, 26, 27, 28, 29, 30, 31, 32, 33, 34, 35, 36, 37, 38, 39, 40, 41, 42, 43, 44, 45, 46] (by kernel_rfl) (by kernel_rfl) (by kernel_rfl) (by kernel_rfl) rfl (fun _ _ h_ => TL.off rfl rfl rfl (TL.nil h_)) ?_
          refine Plan.v 19 [20, 21, 22, 23, 24, 25, 26, 27, 28, 29, 30, 31, 32, 33, 34, 35, 36, 37, 38, 39, 40, 41, 42, 43, 44, 45, 46] (by kernel_rfl) (by kernel_rfl) (by kernel_rfl) (by kernel_rfl) rfl (fun _ _ h_ => R.pkFE rfl rfl (by conv => lhs; whnf) (TL.nil h_)) ?_
          refine Plan.v 20 [21, 22, 23, 24, 25, 26, 27, 28, 29, 30, 31, 32, 33, 34, 35, 36, 37, 38, 39, 40, 41, 42, 43, 44, 45, 46] (by kernel_rfl) (by kernel_rfl) (by kernel_rfl) (by kernel_rfl) rfl (fun _ _ h_ => R.mvE rfl (by conv => lhs; whnf) (TL.nil h_)) ?_
          refine Plan.v 21 [22, 23, 24, 25, 26, 27, 28, 29, 30, 31, 32, 33, 34, 35, 36, 37, 38, 39, 40, 41, 42, 43, 44, 45, 46] (by kernel_rfl) (by kernel_rfl) (by kernel_rfl) (by kernel_rfl) rfl (fun _ _ h_ => TL.off rfl rfl rfl (TL.nil h_)) ?_
          refine Plan.v 22 [23, 24, 25, 26, 27, 28, 29, 30, 31, 32, 33, 34, 35, 36, 37, 38, 39, 40, 41, 42, 43, 44, 45, 46] (by kernel_rfl) (by kernel_rfl) (by kernel_rfl) (by kernel_rfl) rfl (fun _ _ h_ => TL.off rfl rfl rfl (TL.nil h_)) ?_
          refine Plan.v 23 [24, 25, 26, 27, 28, 29, 30, 31, 32, 33, 34, 35, 36, 37, 38, 39, 40, 41, 42, 43, 44, 45, 46] (by kernel_rfl) (by kernel_rfl) (by kernel_rfl) (by kernel_rfl) rfl (fun _ _ h_ => TL.off rfl rfl rfl (TL.nil h_)) ?_
          refine Plan.v 24 [25, 26, 27, 28, 29, 30, 31, 32, 33, 34, 35, 36, 37, 38, 39, 40, 41, 42, 43, 44, 45, 46] (by kernel_rfl) (by kernel_rfl) (by kernel_rfl) (by kernel_rfl) rfl (fun _ _ h_ => TL.off rfl rfl rfl (TL.nil h_)) ?_
          refine Plan.v 25 [26, 27, 28, 29, 30, 31, 32, 33, 34, 35, 36, 37, 38, 39, 40, 41, 42, 43, 44, 45, 46] (by kernel_rfl) (by kernel_rfl) (by kernel_rfl) (by kernel_rfl) rfl (fun _ _ h_ => TL.off rfl rfl rfl (TL.nil h_)) ?_
          refine Plan.v 26 [27, 28, 29, 30, 31, 32, 33, 34, 35, 36, 37, 38, 39, 40, 41, 42, 43, 44, 45, 46] (by kernel_rfl) (by kernel_rfl) (by kernel_rfl) (by kernel_rfl) rfl (fun _ _ h_ => R.pkFE rfl rfl (by conv => lhs; whnf) (TL.nil h_)) ?_
          refine Plan.v 27 [28, 29, 30, 31, 32, 33, 34, 35, 36, 37, 38, 39, 40, 41, 42, 43, 44, 45, 46] (by kernel_rfl) (by kernel_rfl) (by kernel_rfl) (by kernel_rfl) rfl (fun _ _ h_ => R.mvE rfl (by conv => lhs; whnf) (TL.nil h_)) ?_
          refine Plan.v 28 [29, 30, 31, 32, 33, 34, 35, 36, 37, 38, 39, 40, 41, 42, 43, 44, 45, 46] (by kernel_rfl) (by kernel_rfl) (by kernel_rfl) (by kernel_rfl) rfl (fun _ _ h_ => TL.off rfl rfl rfl (TL.nil h_)) ?_
          refine Plan.v 29 [30, 31, 32, 33, 34, 35, 36, 37, 38, 39, 40, 41, 42, 43, 44, 45, 46] (by kernel_rfl) (by kernel_rfl) (by kernel_rfl) (by kernel_rfl) rfl (fun _ _ h_ => TL.off rfl rfl rfl (TL.nil h_)) ?_
          refine Plan.v 30 [31, 32, 33, 34, 35, 36, 37, 38, 39, 40, 41, 42, 43, 44, 45, 46] (by kernel_rfl) (by kernel_rfl) (by kernel_rfl) (by kernel_rfl) rfl (fun _ _ h_ => TL.off rfl rfl rfl (TL.nil h_)) ?_
          refine Plan.v 31 [32, 33, 34, 35, 36, 37, 38, 39, 40, 41, 42, 43, 44, 45, 46] (by kernel_rfl) (by kernel_rfl) (by kernel_rfl) (by kernel_rfl) rfl (fun _ _ h_ => TL.off rfl rfl rfl (TL.nil h_)) ?_
          refine Plan.v 32 [33, 34, 35, 36, 37, 38, 39, 40, 41, 42, 43, 44, 45, 46] (by kernel_rfl) (by kernel_rfl) (by kernel_rfl) (by kernel_rfl) rfl (fun _ _ h_ => TL.off rfl rfl rfl (TL.nil h_)) ?_
          refine Plan.v 33 [34, 35, 36, 37, 38, 39, 40, 41, 42, 43, 44, 45, 46] (by kernel_rfl) (by kernel_rfl) (by kernel_rfl) (by kernel_rfl) rfl (fun _ _ h_ => R.pkFE rfl rfl (by conv => lhs; whnf) (TL.nil h_)) ?_
          refine Plan.v 34 [35, 36, 37, 38, 39, 40, 41, 42, 43, 44, 45, 46] (by kernel_rfl) (by kernel_rfl) (by kernel_rfl) (by kernel_rfl) rfl (fun _ _ h_ => R.mvE rfl (by conv => lhs; whnf) (TL.nil h_)) ?_
          refine Plan.v 35 [36, 37, 38, 39, 40, 41, 42, 43, 44, 45, 46] (by kernel_rfl) (by kernel_rfl) (by kernel_rfl) (by kernel_rfl) rfl (fun _ _ h_ => TL.off rfl rfl rfl (TL.nil h_)) ?_
          refine Plan.v 36 [37, 38, 39, 40, 41, 42, 43, 44, 45, 46] (by kernel_rfl) (by kernel_rfl) (by kernel_rfl) (by kernel_rfl) rfl (fun _ _ h_ => TL.off rfl rfl rfl (TL.nil h_)) ?_
          refine Plan.v 37 [38, 39, 40, 41, 42, 43, 44, 45, 46] (by kernel_rfl) (by kernel_rfl) (by kernel_rfl) (by kernel_rfl) rfl (fun _ _ h_ => TL.off rfl rfl rfl (TL.nil h_)) ?_
          refine Plan.v 38 [39, 40, 41, 42, 43, 44, 45, 46] (by kernel_rfl) (by kernel_rfl) (by kernel_rfl) (by kernel_rfl) rfl (fun _ _ h_ => TL.off rfl rfl rfl (TL.nil h_)) ?_
          refine Plan.v 39 [40, 41, 42, 43, 44, 45, 46] (by kernel_rfl) (by kernel_rfl) (by kernel_rfl) (by kernel_rfl) rfl (fun _ _ h_ => R.pkFE rfl rfl (by conv => lhs; whnf) (TL.nil h_)) ?_
          refine Plan.v 40 [41, 42, 43, 44, 45, 46] (by kernel_rfl) (by kernel_rfl) (by kernel_rfl) (by kernel_rfl) rfl (fun _ _ h_ => R.mvE rfl (by conv => lhs; whnf) (TL.nil h_)) ?_
          refine Plan.v 41 [42, 43, 44, 45, 46] (by kernel_rfl) (by kernel_rfl) (by kernel_rfl) (by kernel_rfl) rfl (fun _ _ h_ => TL.off rfl rfl rfl (TL.nil h_)) ?_
          refine Plan.v 42 [43, 44, 45, 46] (by kernel_rfl) (by kernel_rfl) (by kernel_rfl) (by kernel_rfl) rfl (fun _ _ h_ => TL.off rfl rfl rfl (TL.nil h_)) ?_
          refine Plan.v 43 [44, 45, 46] (by kernel_rfl) (by kernel_rfl) (by kernel_rfl) (by kernel_rfl) rfl (fun _ _ h_ => TL.off rfl rfl rfl (TL.nil h_)) ?_
          refine Plan.v 44 [45, 46] (by kernel_rfl) (by kernel_rfl) (by kernel_rfl) (by kernel_rfl) rfl (fun _ _ h_ => TL.off rfl rfl rfl (TL.nil h_)) ?_
          refine Plan.v 45 [46] (by kernel_rfl) (by kernel_rfl) (by kernel_rfl) (by kernel_rfl) rfl (fun _ _ h_ => R.pkFE rfl rfl (by conv => lhs; whnf) (TL.nil h_)) ?_
          refine Plan.v 46 [] (by kernel_rfl) (by kernel_rfl) (by kernel_rfl) (by kernel_rfl) rfl (fun _ _ h_ => R.asE rfl (by conv => lhs; whnf) (TL.nil h_)) ?_
          refine Plan.done (Post.thnN ?_)
          refine T.has Has.nil ?_
          refine T.ret ?_
          have hM : windroselaw20_wakes_m = false := by subst er38; subst er32; subst er26; subst er19; subst er12; rw [windroselaw20_wakes_m, LR.seq_go, LR.seq_go, LR.seq_go, LR.seq_go, LR.seq_go, if_pos g43, if_pos g47, if_pos g51, if_neg g55]
          exact fin1L (v := .bool false) [] rfl rfl (List.Sublist.refl _) ⟨rfl, by first | rw [hM] | rfl⟩
      · refine Plan.v 11 [12, 13, 14, 15, 16, 17, 18, 19, 20, 21, 22, 23, 24, 25, 26, 27, 28, 29, 30, 31, 32, 33, 34, 35, 36, 37, 38, 39, 40, 41, 42, 43, 44, 45, 46] (by kernel_rfl) (by kernel_rfl) (by kernel_rfl) (by kernel_rfl) rfl (fun _ _ h_ => TL.off rfl rfl rfl (TL.nil h_)) ?_
        refine Plan.v 12 [13, 14, 15, 16, 17, 18, 19, 20, 21, 22, 23, 24, 25, 26, 27, 28, 29, 30, 31, 32, 33, 34, 35, 36, 37, 38, 39, 40, 41, 42, 43, 44, 45, 46] (by kernel_rfl) (by kernel_rfl) (by kernel_rfl) (by kernel_rfl) rfl (fun _ _ h_ => TL.off rfl rfl rfl (TL.nil h_)) ?_
        refine Plan.v 13 [14, 15, 16, 17, 18, 19, 20, 21, 22, 23, 24, 25, 26, 27, 28, 29, 30, 31, 32, 33, 34, 35, 36, 37, 38, 39, 40, 41, 42, 43, 44, 45, 46] (by kernel_rfl) (by kernel_rfl) (by kernel_rfl) (by kernel_rfl) rfl (fun _ _ h_ => R.pkFE rfl rfl (by conv => lhs; whnf) (TL.nil h_)) ?_
        refine Plan.v 14 [15, 16, 17, 18, 19, 20, 21, 22, 23, 24, 25, 26, 27, 28, 29, 30, 31, 32, 33, 34, 35, 36, 37, 38, 39, 40, 41, 42, 43, 44, 45, 46] (by kernel_rfl) (by kernel_rfl) (by kernel_rfl) (by kernel_rfl) rfl (fun _ _ h_ => R.mvE rfl (by conv => lhs; whnf) (TL.nil h_)) ?_
        refine Plan.v 15 [16, 17, 18, 19, 20, 21, 22, 23, 24, 25, 26, 27, 28, 29, 30, 31, 32, 33, 34, 35, 36, 37, 38, 39, 40, 41, 42, 43, 44, 45, 46] (by kernel_rfl) (by kernel_rfl) (by kernel_rfl) (by kernel_rfl) rfl (fun _ _ h_ => TL.off rfl rfl rfl (TL.nil h_)) ?_
        refine Plan.v 16 [17, 18, 19, 20, 21, 22, 23, 24, 25, 26, 27, 28, 29, 30, 31, 32, 33, 34, 35, 36, 37, 38, 39, 40, 41, 42, 43, 44, 45, 46] (by kernel_rfl) (by kernel_rfl) (by kernel_rfl) (by kernel_rfl) rfl (fun _ _ h_ => TL.off rfl rfl rfl (TL.nil h_)) ?_
        refine Plan.v 17 [18, 19, 20, 21, 22, 23, 24, 25, 26, 27, 28, 29, 30, 31, 32, 33, 34, 35, 36, 37, 38, 39, 40, 41, 42, 43, 44, 45, 46] (by kernel_rfl) (by kernel_rfl) (by kernel_rfl) (by kernel_rfl) rfl (fun _ _ h_ => TL.off rfl rfl rfl (TL.nil h_)) ?_
        refine Plan.v 18 [19, 20, 21, 22, 23, 24, 25, 26, 27, 28, 29, 30, 31, 32, 33, 34, 35, 36, 37, 38, 39, 40, 41, 42, 43, 44, 45, 46] (by kernel_rfl) (by kernel_rfl) (by kernel_rfl) (by kernel_rfl) rfl (fun _ _ h_ => TL.off rfl rfl rfl (TL.nil h_)) ?_
        refine Plan.v 19 [20, 21, 22, 23, 24, 25, 26, 27, 28, 29, 30, 31, 32, 33, 34, 35, 36, 37, 38, 39, 40, 41, 42, 43, 44, 45, 46] (by kernel_rfl) (by kernel_rfl) (by kernel_rfl) (by kernel_rfl) rfl (fun _ _ h_ => R.pkFE rfl rfl (by conv => lhs; whnf) (TL.nil h_)) ?_
        refine Plan.v 20 [21, 22, 23, 24, 25, 26, 27, 28, 29, 30, 31, 32, 33, 34, 35, 36, 37, 38, 39, 40, 41, 42, 43, 44, 45, 46] (by kernel_rfl) (by kernel_rfl) (by kernel_rfl) (by kernel_rfl) rfl (fun _ _ h_ => R.mvE rfl (by conv => lhs; whnf) (TL.nil h_)) ?_
        refine Plan.v 21 [22, 23, 24, 25, 26, 27, 28, 29, 30, 31, 32, 33, 34, 35, 36, 37, 38, 39, 40, 41, 42, 43, 44, 45, 46] (by kernel_rfl) (by kernel_rfl) (by kernel_rfl) (by kernel_rfl) rfl (fun _ _ h_ => TL.off rfl rfl rfl (TL.nil h_)) ?_
        refine Plan.v 22 [23, 24, 25, 26, 27, 28, 29, 30, 31, 32, 33, 34, 35, 36, 37, 38, 39, 40, 41, 42, 43, 44, 45, 46] (by kernel_rfl) (by kernel_rfl) (by kernel_rfl) (by kernel_rfl) rfl (fun _ _ h_ => TL.off rfl rfl rfl (TL.nil h_)) ?_
        refine Plan.v 23 [24, 25, 26, 27, 28, 29, 30, 31, 32, 33, 34, 35, 36, 37, 38, 39, 40, 41, 42, 43, 44, 45, 46] (by kernel_rfl) (by kernel_rfl) (by kernel_rfl) (by kernel_rfl) rfl (fun _ _ h_ => TL.off rfl rfl rfl (TL.nil h_)) ?_
        refine Plan.v 24 [25, 26, 27, 28, 29, 30, 31, 32, 33, 34, 35, 36, 37, 38, 39, 40, 41, 42, 43, 44, 45, 46] (by kernel_rfl) (by kernel_rfl) (by kernel_rfl) (by kernel_rfl) rfl (fun _ _ h_ => TL.off rfl rfl rfl (TL.nil h_)) ?_
        refine Plan.v 25 [26, 27, 28, 29, 30, 31, 32, 33, 34, 35, 36, 37, 38, 39, 40, 41, 42, 43, 44, 45, 46] (by kernel_rfl) (by kernel_rfl) (by kernel_rfl) (by kernel_rfl) rfl (fun _ _ h_ => TL.off rfl rfl rfl (TL.nil h_)) ?_
        refine Plan.v 26 [27, 28, 29, 30, 31, 32, 33, 34, 35, 36, 37, 38, 39, 40, 41, 42, 43, 44, 45, 46] (by kernel_rfl) (by kernel_rfl) (by kernel_rfl) (by kernel_rfl) rfl (fun _ _ h_ => R.pkFE rfl rfl (by conv => lhs; whnf) (TL.nil h_)) ?_
        refine Plan.v 27 [28, 29, 30, 31, 32, 33, 34, 35, 36, 37, 38, 39, 40, 41, 42, 43, 44, 45, 46] (by kernel_rfl) (by kernel_rfl) (by kernel_rfl) (by kernel_rfl) rfl (fun _ _ h_ => R.mvE rfl (by conv => lhs; whnf) (TL.nil h_)) ?_
        refine Plan.v 28 [29, 30, 31, 32, 33, 34, 35, 36, 37, 38, 39, 40, 41, 42, 43, 44, 45, 46] (by kernel_rfl) (by kernel_rfl) (by kernel_rfl) (by kernel_rfl) rfl (fun _ _ h_ => TL.off rfl rfl rfl (TL.nil h_)) ?_
        refine Plan.v 29 [30, 31, 32, 33, 34, 35, 36, 37, 38, 39, 40, 41, 42, 43, 44, 45, 46] (by kernel_rfl) (by kernel_rfl) (by kernel_rfl) (by kernel_rfl) rfl (fun _ _ h_ => TL.off rfl rfl rfl (TL.nil h_)) ?_
        refine Plan.v 30 [31, 32, 33, 34, 35, 36, 37, 38, 39, 40, 41, 42, 43, 44, 45, 46] (by kernel_rfl) (by kernel_rfl) (by kernel_rfl) (by kernel_rfl) rfl (fun _ _ h_ => TL.off rfl rfl rfl (TL.nil h_)) ?_
        refine Plan.v 31 [32, 33, 34, 35, 36, 37, 38, 39, 40, 41, 42, 43, 44, 45, 46] (by kernel_rfl) (by kernel_rfl) (by kernel_rfl) (by kernel_rfl) rfl (fun _ _ h_ => TL.off rfl rfl rfl (TL.nil h_)) ?_
        refine Plan.v 32 [33, 34, 35, 36, 37, 38, 39, 40, 41, 42, 43, 44, 45, 46] (by kernel_rfl) (by kernel_rfl) (by kernel_rfl) (by kernel_rfl) rfl (fun _ _ h_ => TL.off rfl rfl rfl (TL.nil h_)) ?_
        refine Plan.v 33 [34, 35, 36, 37, 38, 39, 40, 41, 42, 43, 44, 45, 46] (by kernel_rfl) (by kernel_rfl) (by kernel_rfl) (by kernel_rfl) rfl (fun _ _ h_ => R.pkFE rfl rfl (by conv => lhs; whnf) (TL.nil h_)) ?_
        refine Plan.v 34 [35, 36, 37, 38, 39, 40, 41, 42, 43, 44, 45, 46] (by kernel_rfl) (by kernel_rfl) (by kernel_rfl) (by kernel_rfl) rfl (fun _ _ h_ => R.mvE rfl (by conv => lhs; whnf) (TL.nil h_)) ?_
        refine Plan.v 35 [36, 37, 38, 39, 40, 41, 42, 43, 44, 45, 46] (by kernel_rfl) (by kernel_rfl) (by kernel_rfl) (by kernel_rfl) rfl (fun _ _ h_ => TL.off rfl rfl rfl (TL.nil h_)) ?_
        refine Plan.v 36 [37, 38, 39, 40, 41, 42, 43, 44, 45, 46] (by kernel_rfl) (by kernel_rfl) (by kernel_rfl) (by kernel_rfl) rfl (fun _ _ h_ => TL.off rfl rfl rfl (TL.nil h_)) ?_
        refine Plan.v 37 [38, 39, 40, 41, 42, 43, 44, 45, 46] (by kernel_rfl) (by kernel_rfl) (by kernel_rfl) (by kernel_rfl) rfl (fun _ _ h_ => TL.off rfl rfl rfl (TL.nil h_)) ?_
        refine Plan.v 38 [39, 40, 41, 42, 43, 44, 45, 46] (by kernel_rfl) (by kernel_rfl) (by kernel_rfl) (by kernel_rfl) rfl (fun _ _ h_ => TL.off rfl rfl rfl (TL.nil h_)) ?_
        refine Plan.v 39 [40, 41, 42, 43, 44, 45, 46] (by kernel_rfl) (by kernel_rfl) (by kernel_rfl) (by kernel_rfl) rfl (fun _ _ h_ => R.pkFE rfl rfl (by conv => lhs; whnf) (TL.nil h_)) ?_
        refine Plan.v 40 [41, 42, 43, 44, 45, 46] (by kernel_rfl) (by kernel_rfl) (by kernel_rfl) (by kernel_rfl) rfl (fun _ _ h_ => R.mvE rfl (by conv => lhs; whnf) (TL.nil h_)) ?_
        refine Plan.v 41 [42, 43, 44, 45, 46] (by kernel_rfl) (by kernel_rfl) (by kernel_rfl) (by kernel_rfl) rfl (fun _ _ h_ => TL.off rfl rfl rfl (TL.nil h_)) ?_
        refine Plan.v 42 [43, 44, 45, 46] (by kernel_rfl) (by kernel_rfl) (by kernel_rfl) (by kernel_rfl) rfl (fun _ _ h_ => TL.off rfl rfl rfl (TL.nil h_)) ?_
        refine Plan.v 43 [44, 45, 46] (by kernel_rfl) (by kernel_rfl) (by kernel_rfl) (by kernel_rfl) rfl (fun _ _ h_ => TL.off rfl rfl rfl (TL.nil h_)) ?_
        refine Plan.v 44 [45, 46] (by kernel_rfl) (by kernel_rfl) (by kernel_rfl) (by kernel_rfl) rfl (fun _ _ h_ => TL.off rfl rfl rfl (TL.nil h_)) ?_
        refine Plan.v 45 [46] (by kernel_rfl) (by kernel_rfl) (by kernel_rfl) (by kernel_rfl) rfl (fun _ _ h_ => R.pkFE rfl rfl (by conv => lhs; whnf) (TL.nil h_)) ?_
        refine Plan.v 46 [] (by kernel_rfl) (by kernel_rfl) (by kernel_rfl) (by kernel_rfl) rfl (fun _ _ h_ => R.asE rfl (by conv => lhs; whnf) (TL.nil h_)) ?_
        refine Plan.done (Post.thnN ?_)
        refine T.has Has.nil ?_
        refine T.ret ?_
        have hM : windroselaw20_wakes_m = false := by subst er38; subst er32; subst er26; subst er19; subst er12; rw [windroselaw20_wakes_m, LR.seq_go, LR.seq_go, LR.seq_go, LR.seq_go, LR.seq_go, if_pos g43, if_pos g47, if_neg g51]
        exact fin1L (v := .bool false) [] rfl rfl (List.Sublist.refl _) ⟨rfl, by first | rw [hM] | rfl⟩
    · refine Plan.v 7 [8, 9, 10, 11, 12, 13, 14, 15, 16, 17, 18, 19, 20, 21, 22, 23, 24, 25, 26, 27, 28, 29, 30, 31, 32, 33, 34, 35, 36, 37, 38, 39, 40, 41, 42, 43, 44, 45, 46] (by kernel_rfl) (by kernel_rfl) (by kernel_rfl) (by kernel_rfl) rfl (fun _ _ h_ => TL.off rfl rfl rfl (TL.nil h_)) ?_
      refine Plan.v 8 [9, 10, 11, 12, 13, 14, 15, 16, 17, 18, 19, 20, 21, 22, 23, 24, 25, 26, 27, 28, 29, 30, 31, 32, 33, 34, 35, 36, 37, 38, 39, 40, 41, 42, 43, 44, 45, 46] (by kernel_rfl) (by kernel_rfl) (by kernel_rfl) (by kernel_rfl) rfl (fun _ _ h_ => TL.off rfl rfl rfl (TL.nil h_)) ?_
      refine Plan.v 9 [10, 11, 12, 13, 14, 15, 16, 17, 18, 19, 20, 21, 22, 23, 24, 25, 26, 27, 28, 29, 30, 31, 32, 33, 34, 35, 36, 37, 38, 39, 40, 41, 42, 43, 44, 45, 46] (by kernel_rfl) (by kernel_rfl) (by kernel_rfl) (by kernel_rfl) rfl (fun _ _ h_ => R.pkFE rfl rfl (by conv => lhs; whnf) (TL.nil h_)) ?_
      refine Plan.v 10 [11, 12, 13, 14, 15, 16, 17, 18, 19, 20, 21, 22, 23, 24, 25, 26, 27, 28, 29, 30, 31, 32, 33, 34, 35, 36, 37, 38, 39, 40, 41, 42, 43, 44, 45, 46] (by kernel_rfl) (by kernel_rfl) (by kernel_rfl) (by kernel_rfl) rfl (fun _ _ h_ => R.mvE rfl (by conv => lhs; whnf) (TL.nil h_)) ?_
      refine Plan.v 11 [12, 13, 14, 15, 16, 17, 18, 19, 20, 21, 22, 23, 24, 25, 26, 27, 28, 29, 30, 31, 32, 33, 34, 35, 36, 37, 38, 39, 40, 41, 42, 43, 44, 45, 46] (by kernel_rfl) (by kernel_rfl) (by kernel_rfl) (by kernel_rfl) rfl (fun _ _ h_ => TL.off rfl rfl rfl (TL.nil h_)) ?_
      refine Plan.v 12 [13, 14, 15, 16, 17, 18, 19, 20, 21, 22, 23, 24, 25, 26, 27, 28, 29, 30, 31, 32, 33, 34, 35, 36, 37, 38, 39, 40, 41, 42, 43, 44, 45, 46] (by kernel_rfl) (by kernel_rfl) (by kernel_rfl) (by kernel_rfl) rfl (fun _ _ h_ => TL.off rfl rfl rfl (TL.nil h_)) ?_
      refine Plan.v 13 [14, 15, 16, 17, 18, 19, 20, 21, 22, 23, 24, 25, 26, 27, 28, 29, 30, 31, 32, 33, 34, 35, 36, 37, 38, 39, 40, 41, 42, 43, 44, 45, 46] (by kernel_rfl) (by kernel_rfl) (by kernel_rfl) (by kernel_rfl) rfl (fun _ _ h_ => R.pkFE rfl rfl (by conv => lhs; whnf) (TL.nil h_)) ?_
      refine Plan.v 14 [15, 16, 17, 18, 19, 20, 21, 22, 23, 24, 25, 26, 27, 28, 29, 30, 31, 32, 33, 34, 35, 36, 37, 38, 39, 40, 41, 42, 43, 44, 45, 46] (by kernel_rfl) (by kernel_rfl) (by kernel_rfl) (by kernel_rfl) rfl (fun _ _ h_ => R.mvE rfl (by conv => lhs; whnf) (TL.nil h_)) ?_
      refine Plan.v 15 [16, 17, 18, 19, 20, 21, 22, 23, 24, 25, 26, 27, 28, 29, 30, 31, 32, 33, 34, 35, 36, 37, 38, 39, 40, 41, 42, 43, 44, 45, 46] (by kernel_rfl) (by kernel_rfl) (by kernel_rfl) (by kernel_rfl) rfl (fun _ _ h_ => TL.off rfl rfl rfl (TL.nil h_)) ?_
      refine Plan.v 16 [17, 18, 19, 20, 21, 22, 23, 24, 25, 26, 27, 28, 29, 30, 31, 32, 33, 34, 35, 36, 37, 38, 39, 40, 41, 42, 43, 44, 45, 46] (by kernel_rfl) (by kernel_rfl) (by kernel_rfl) (by kernel_rfl) rfl (fun _ _ h_ => TL.off rfl rfl rfl (TL.nil h_)) ?_
      refine Plan.v 17 [18, 19, 20, 21, 22, 23, 24, 25, 26, 27, 28, 29, 30, 31, 32, 33, 34, 35, 36, 37, 38, 39, 40, 41, 42, 43, 44, 45, 46] (by kernel_rfl) (by kernel_rfl) (by kernel_rfl) (by kernel_rfl) rfl (fun _ _ h_ => TL.off rfl rfl rfl (TL.nil h_)) ?_
      refine Plan.v 18 [19, 20, 21, 22, 23, 24, 25, 26, 27, 28, 29, 30, 31, 32, 33, 34, 35, 36, 37, 38, 39, 40, 41, 42, 43, 44, 45, 46] (by kernel_rfl) (by kernel_rfl) (by kernel_rfl) (by kernel_rfl) rfl (fun _ _ h_ => TL.off rfl rfl rfl (TL.nil h_)) ?_
      refine Plan.v 19 [20, 21, 22, 23, 24, 25, 26, 27, 28, 29, 30, 31, 32, 33, 34, 35, 36, 37, 38, 39, 40, 41, 42, 43, 44, 45, 46] (by kernel_rfl) (by kernel_rfl) (by kernel_rfl) (by kernel_rfl) rfl (fun _ _ h_ => R.pkFE rfl rfl (by conv => lhs; whnf) (TL.nil h_)) ?_
      refine Plan.v 20 [21, 22, 23, 24, 25, 26, 27, 28, 29, 30, 31, 32, 33, 34, 35, 36, 37, 38, 39, 40, 41, 42, 43, 44, 45, 46] (by kernel_rfl) (by kernel_rfl) (by kernel_rfl) (by kernel_rfl) rfl (fun _ _ h_ => R.mvE rfl (by conv => lhs; whnf) (TL.nil h_)) ?_
      refine Plan.v 21 [22, 23, 24, 25, 26, 27, 28, 29, 30, 31, 32, 33, 34, 35, 36, 37, 38, 39, 40, 41, 42, 43, 44, 45, 46] (by kernel_rfl) (by kernel_rfl) (by kernel_rfl) (by kernel_rfl) rfl (fun _ _ h_ => TL.off rfl rfl rfl (TL.nil h_)) ?_
      refine Plan.v 22 [23, 24, 25, 26, 27, 28, 29, 30, 31, 32, 33, 34, 35, 36, 37, 38, 39, 40, 41, 42, 43, 44, 45, 46] (by kernel_rfl) (by kernel_rfl) (by kernel_rfl) (by kernel_rfl) rfl (fun _ _ h_ => TL.off rfl rfl rfl (TL.nil h_)) ?_
      refine Plan.v 23 [24, 25, 26, 27, 28, 29, 30, 31, 32, 33, 34, 35, 36, 37, 38, 39, 40, 41, 42, 43, 44, 45, 46] (by kernel_rfl) (by kernel_rfl) (by kernel_rfl) (by kernel_rfl) rfl (fun _ _ h_ => TL.off rfl rfl rfl (TL.nil h_)) ?_
      refine Plan.v 24 [25, 26, 27, 28, 29, 30, 31, 32, 33, 34, 35, 36, 37, 38, 39, 40, 41, 42, 43, 44, 45, 46] (by kernel_rfl) (by kernel_rfl) (by kernel_rfl) (by kernel_rfl) rfl (fun _ _ h_ => TL.off rfl rfl rfl (TL.nil h_)) ?_
      refine Plan.v 25 [26, 27, 28, 29, 30, 31, 32, 33, 34, 35, 36, 37, 38, 39, 40, 41, 42, 43, 44, 45, 46] (by kernel_rfl) (by kernel_rfl) (by kernel_rfl) (by kernel_rfl) rfl (fun _ _ h_ => TL.off rfl rfl rfl (TL.nil h_)) ?_
      refine Plan.v 26 [27, 28, 29, 30, 31, 32, 33, 34, 35, 36, 37, 38, 39, 40, 41, 42, 43, 44, 45, 46] (by kernel_rfl) (by kernel_rfl) (by kernel_rfl) (by kernel_rfl) rfl (fun _ _ h_ => R.pkFE rfl rfl (by conv => lhs; whnf) (TL.nil h_)) ?_
      refine Plan.v 27 [28, 29, 30, 31, 32, 33, 34, 35, 36, 37, 38, 39, 40, 41, 42, 43, 44, 45, 46] (by kernel_rfl) (by kernel_rfl) (by kernel_rfl) (by kernel_rfl) rfl (fun _ _ h_ => R.mvE rfl (by conv => lhs; whnf) (TL.nil h_)) ?_
      refine Plan.v 28 [29, 30, 31, 32, 33, 34, 35, 36, 37, 38, 39, 40, 41, 42, 43, 44, 45, 46] (by kernel_rfl) (by kernel_rfl) (by kernel_rfl) (by kernel_rfl) rfl (fun _ _ h_ => TL.off rfl rfl rfl (TL.nil h_)) ?_
      refine Plan.v 29 [30, 31, 32, 33, 34, 35, 36, 37, 38, 39, 40, 41, 42, 43, 44, 45, 46] (by kernel_rfl) (by kernel_rfl) (by kernel_rfl) (by kernel_rfl) rfl (fun _ _ h_ => TL.off rfl rfl rfl (TL.nil h_)) ?_
      refine Plan.v 30 [31, 32, 33, 34, 35, 36, 37, 38, 39, 40, 41, 42, 43, 44, 45, 46] (by kernel_rfl) (by kernel_rfl) (by kernel_rfl) (by kernel_rfl) rfl (fun _ _ h_ => TL.off rfl rfl rfl (TL.nil h_)) ?_
      refine Plan.v 31 [32, 33, 34, 35, 36, 37, 38, 39, 40, 41, 42, 43, 44, 45, 46] (by kernel_rfl) (by kernel_rfl) (by kernel_rfl) (by kernel_rfl) rfl (fun _ _ h_ => TL.off rfl rfl rfl (TL.nil h_)) ?_
      refine Plan.v 32 [33, 34, 35, 36, 37, 38, 39, 40, 41, 42, 43, 44, 45, 46] (by kernel_rfl) (by kernel_rfl) (by kernel_rfl) (by kernel_rfl) rfl (fun _ _ h_ => TL.off rfl rfl rfl (TL.nil h_)) ?_
      refine Plan.v 33 [34, 35, 36, 37, 38, 39, 40, 41, 42, 43, 44, 45, 46] (by kernel_rfl) (by kernel_rfl) (by kernel_rfl) (by kernel_rfl) rfl (fun _ _ h_ => R.pkFE rfl rfl (by conv => lhs; whnf) (TL.nil h_)) ?_
      refine Plan.v 34 [35, 36, 37, 38, 39, 40, 41, 42, 43, 44, 45, 46] (by kernel_rfl) (by kernel_rfl) (by kernel_rfl) (by kernel_rfl) rfl (fun _ _ h_ => R.mvE rfl (by conv => lhs; whnf) (TL.nil h_)) ?_
      refine Plan.v 35 [36, 37, 38, 39, 40, 41, 42, 43, 44, 45, 46] (by kernel_rfl) (by kernel_rfl) (by kernel_rfl) (by kernel_rfl) rfl (fun _ _ h_ => TL.off rfl rfl rfl (TL.nil h_)) ?_
      refine Plan.v 36 [37, 38, 39, 40, 41, 42, 43, 44, 45, 46] (by kernel_rfl) (by kernel_rfl) (by kernel_rfl) (by kernel_rfl) rfl (fun _ _ h_ => TL.off rfl rfl rfl (TL.nil h_)) ?_
      refine Plan.v 37 [38, 39, 40, 41, 42, 43, 44, 45, 46] (by kernel_rfl) (by kernel_rfl) (by kernel_rfl) (by kernel_rfl) rfl (fun _ _ h_ => TL.off rfl rfl rfl (TL.nil h_)) ?_
      refine Plan.v 38 [39, 40, 41, 42, 43, 44, 45, 46] (by kernel_rfl) (by kernel_rfl) (by kernel_rfl) (by kernel_rfl) rfl (fun _ _ h_ => TL.off rfl rfl rfl (TL.nil h_)) ?_
      refine Plan.v 39 [40, 41, 42, 43, 44, 45, 46] (by kernel_rfl) (by kernel_rfl) (by kernel_rfl) (by kernel_rfl) rfl (fun _ _ h_ => R.pkFE rfl rfl (by conv => lhs; whnf) (TL.nil h_)) ?_
      refine Plan.v 40 [41, 42, 43, 44, 45, 46] (by kernel_rfl) (by kernel_rfl) (by kernel_rfl) (by kernel_rfl) rfl (fun _ _ h_ => R.mvE rfl (by conv => lhs; whnf) (TL.nil h_)) ?_
      refine Plan.v 41 [42, 43, 44, 45, 46] (by kernel_rfl) (by kernel_rfl) (by kernel_rfl) (by kernel_rfl) rfl (fun _ _ h_ => TL.off rfl rfl rfl (TL.nil h_)) ?_
      refine Plan.v 42 [43, 44, 45, 46] (by kernel_rfl) (by kernel_rfl) (by kernel_rfl) (by kernel_rfl) rfl (fun _ _ h_ => TL.off rfl rfl rfl (TL.nil h_)) ?_
      refine Plan.v 43 [44, 45, 46] (by kernel_rfl) (by kernel_rfl) (by kernel_rfl) (by kernel_rfl) rfl (fun _ _ h_ => TL.off rfl rfl rfl (TL.nil h_)) ?_
      refine Plan.v 44 [45, 46] (by kernel_rfl) (by kernel_rfl) (by kernel_rfl) (by kernel_rfl) rfl (fun _ _ h_ => TL.off rfl rfl rfl (TL.nil h_)) ?_
      refine Plan.v 45 [46] (by kernel_rfl) (by kernel_rfl) (by kernel_rfl) (by kernel_rfl) rfl (fun _ _ h_ => R.pkFE rfl rfl (by conv => lhs; whnf) (TL.nil h_)) ?_
      refine Plan.v 46 [] (by kernel_rfl) (by kernel_rfl) (by kernel_rfl) (by kernel_rfl) rfl (fun _ _ h_ => R.asE rfl (by conv => lhs; whnf) (TL.nil h_)) ?_
      refine Plan.done (Post.thnN ?_)
      refine T.has Has.nil ?_
      refine T.ret ?_
      have hM : windroselaw20_wakes_m = false := by subst er38; subst er32; subst er26; subst er19; subst er12; rw [windroselaw20_wakes_m, LR.seq_go, LR.seq_go, LR.seq_go, LR.seq_go, LR.seq_go, if_pos g43, if_neg g47]
      exact fin1L (v := .bool false) [] rfl rfl (List.Sublist.refl _) ⟨rfl, by first | rw [hM] | rfl⟩
  · refine Plan.v 3 [4, 5, 6, 7, 8, 9, 10, 11, 12, 13, 14, 15, 16, 17, 18, 19, 20, 21, 22, 23, 24, 25, 26, 27, 28, 29, 30, 31, 32, 33, 34, 35, 36, 37, 38, 39, 40, 41, 42, 43, 44, 45, 46] (by kernel_rfl) (by kernel_rfl) (by kernel_rfl) (by kernel_rfl) rfl (fun _ _ h_ => TL.off rfl rfl rfl (TL.nil h_)) ?_
    refine Plan.v 4 [5, 6, 7, 8, 9, 10, 11, 12, 13, 14, 15, 16, 17, 18, 19, 20, 21, 22, 23, 24, 25, 26, 27, 28, 29, 30, 31, 32, 33, 34, 35, 36, 37, 38, 39, 40, 41, 42, 43, 44, 45, 46] (by kernel_rfl) (by kernel_rfl) (by kernel_rfl) (by kernel_rfl) rfl (fun _ _ h_ => TL.off rfl rfl rfl (TL.nil h_)) ?_
    refine Plan.v 5 [6, 7, 8, 9, 10, 11, 12, 13, 14, 15, 16, 17, 18, 19, 20, 21, 22, 23, 24, 25, 26, 27, 28, 29, 30, 31, 32, 33, 34, 35, 36, 37, 38, 39, 40, 41, 42, 43, 44, 45, 46] (by kernel_rfl) (by kernel_rfl) (by kernel_rfl) (by kernel_rfl) rfl (fun _ _ h_ => R.pkFE rfl rfl (by conv => lhs; whnf) (TL.nil h_)) ?_
    refine Plan.v 6 [7, 8, 9, 10, 11, 12, 13, 14, 15, 16, 17, 18, 19, 20, 21, 22, 23, 24, 25, 26, 27, 28, 29, 30, 31, 32, 33, 34, 35, 36, 37, 38, 39, 40, 41, 42, 43, 44, 45, 46] (by kernel_rfl) (by kernel_rfl) (by kernel_rfl) (by kernel_rfl) rfl (fun _ _ h_ => R.mvE rfl (by conv => lhs; whnf) (TL.nil h_)) ?_
    refine Plan.v 7 [8, 9, 10, 11, 12, 13, 14, 15, 16, 17, 18, 19, 20, 21, 22, 23, 24, 25, 26, 27, 28, 29, 30, 31, 32, 33, 34, 35, 36, 37, 38, 39, 40, 41, 42, 43, 44, 45, 46] (by kernel_rfl) (by kernel_rfl) (by kernel_rfl) (by kernel_rfl) rfl (fun _ _ h_ => TL.off rfl rfl rfl (TL.nil h_)) ?_
    refine Plan.v 8 [9, 10, 11, 12, 13, 14, 15, 16, 17, 18, 19, 20, 21, 22, 23, 24, 25, 26, 27, 28, 29, 30, 31, 32, 33, 34, 35, 36, 37, 38, 39, 40, 41, 42, 43, 44, 45, 46] (by kernel_rfl) (by kernel_rfl) (by kernel_rfl) (by kernel_rfl) rfl (fun _ _ h_ => TL.off rfl rfl rfl (TL.nil h_)) ?_
    refine Plan.v 9 [10, 11, 12, 13, 14, 15, 16, 17, 18, 19, 20, 21, 22, 23, 24, 25, 26, 27, 28, 29, 30, 31, 32, 33, 34, 35, 36, 37, 38, 39, 40, 41, 42, 43, 44, 45, 46] (by kernel_rfl) (by kernel_rfl) (by kernel_rfl) (by kernel_rfl) rfl (fun _ _ h_ => R.pkFE rfl rfl (by conv => lhs; whnf) (TL.nil h_)) ?_
    refine Plan.v 10 [11, 12, 13, 14, 15, 16, 17, 18, 19, 20, 21, 22, 23, 24, 25, 26, 27, 28, 29, 30, 31, 32, 33, 34, 35, 36, 37, 38, 39, 40, 41, 42, 43, 44, 45, 46] (by kernel_rfl) (by kernel_rfl) (by kernel_rfl) (by kernel_rfl) rfl (fun _ _ h_ => R.mvE rfl (by conv => lhs; whnf) (TL.nil h_)) ?_
    refine Plan.v 11 [12, 13, 14, 15, 16, 17, 18, 19, 20, 21, 22, 23, 24, 25, 26, 27, 28, 29, 30, 31, 32, 33, 34, 35, 36, 37, 38, 39, 40, 41, 42, 43, 44, 45, 46] (by kernel_rfl) (by kernel_rfl) (by kernel_rfl) (by kernel_rfl) rfl (fun _ _ h_ => TL.off rfl rfl rfl (TL.nil h_)) ?_
    refine Plan.v 12 [13, 14, 15, 16, 17, 18, 19, 20, 21, 22, 23, 24, 25, 26, 27, 28, 29, 30, 31, 32, 33, 34, 35, 36, 37, 38, 39, 40, 41, 42, 43, 44, 45, 46] (by kernel_rfl) (by kernel_rfl) (by kernel_rfl) (by kernel_rfl) rfl (fun _ _ h_ => TL.off rfl rfl rfl (TL.nil h_)) ?_
    refine Plan.v 13 [14, 15, 16, 17, 18, 19, 20, 21, 22, 23, 24, 25, 26, 27, 28, 29, 30, 31, 32, 33, 34, 35, 36, 37, 38, 39, 40, 41, 42, 43, 44, 45, 46] (by kernel_rfl) (by kernel_rfl) (by kernel_rfl) (by kernel_rfl) rfl (fun _ _ h_ => R.pkFE rfl rfl (by conv => lhs; whnf) (TL.nil h_)) ?_
    refine Plan.v 14 [15, 16, 17, 18, 19, 20, 21, 22, 23, 24, 25, 26, 27, 28, 29, 30, 31, 32, 33, 34, 35, 36, 37, 38, 39, 40, 41, 42, 43, 44, 45, 46] (by kernel_rfl) (by kernel_rfl) (by kernel_rfl) (by kernel_rfl) rfl (fun _ _ h_ => R.mvE rfl (by conv => lhs; whnf) (TL.nil h_)) ?_
    refine Plan.v 15 [16, 17, 18, 19, 20, 21, 22, 23, 24, 25, 26, 27, 28, 29, 30, 31, 32, 33, 34, 35, 36, 37, 38, 39, 40, 41, 42, 43, 44, 45, 46] (by kernel_rfl) (by kernel_rfl) (by kernel_rfl) (by kernel_rfl) rfl (fun _ _ h_ => TL.off rfl rfl rfl (TL.nil h_)) ?_
    refine Plan.v 16 [17, 18, 19, 20, 21, 22, 23, 24, 25, 26, 27, 28, 29, 30, 31, 32, 33, 34, 35, 36, 37, 38, 39, 40, 41, 42, 43, 44, 45, 46] (by kernel_rfl) (by kernel_rfl) (by kernel_rfl) (by kernel_rfl) rfl (fun _ _ h_ => TL.off rfl rfl rfl (TL.nil h_)) ?_
    refine Plan.v 17 [18, 19, 20, 21, 22, 23, 24, 25, 26, 27, 28, 29, 30, 31, 32, 33, 34, 35, 36, 37, 38, 39, 40, 41, 42, 43, 44, 45, 46] (by kernel_rfl) (by kernel_rfl) (by kernel_rfl) (by kernel_rfl) rfl (fun _ _ h_ => TL.off rfl rfl rfl (TL.nil h_)) ?_
    refine Plan.v 18 [19, 20, 21, 22, 23, 24, 25, 26, 27, 28, 29, 30, 31, 32, 33, 34, 35, 36, 37, 38, 39, 40, 41, 42, 43, 44, 45, 46] (by kernel_rfl) (by kernel_rfl) (by kernel_rfl) (by kernel_rfl) rfl (fun _ _ h_ => TL.off rfl rfl rfl (TL.nil h_)) ?_
    refine Plan.v 19 [20, 21, 22, 23, 24, 25, 26, 27, 28, 29, 30, 31, 32, 33, 34, 35, 36, 37, 38, 39, 40, 41, 42, 43, 44, 45, 46] (by kernel_rfl) (by kernel_rfl) (by kernel_rfl) (by kernel_rfl) rfl (fun _ _ h_ => R.pkFE rfl rfl (by conv => lhs; whnf) (TL.nil h_)) ?_
    refine Plan.v 20 [21, 22, 23, 24, 25, 26, 27, 28, 29, 30, 31, 32, 33, 34, 35, 36, 37, 38, 39, 40, 41, 42, 43, 44, 45, 46] (by kernel_rfl) (by kernel_rfl) (by kernel_rfl) (by kernel_rfl) rfl (fun _ _ h_ => R.mvE rfl (by conv => lhs; whnf) (TL.nil h_)) ?_
    refine Plan.v 21 [22, 23, 24, 25, 26, 27, 28, 29, 30, 31, 32, 33, 34, 35, 36, 37, 38, 39, 40, 41, 42, 43, 44, 45, 46] (by kernel_rfl) (by kernel_rfl) (by kernel_rfl) (by kernel_rfl) rfl (fun _ _ h_ => TL.off rfl rfl rfl (TL.nil h_)) ?_
    refine Plan.v 22 [23, 24, 25, 26, 27, 28, 29, 30, 31, 32, 33, 34, 35, 36, 37, 38, 39, 40, 41, 42, 43, 44, 45, 46] (by kernel_rfl) (by kernel_rfl) (by kernel_rfl) (by kernel_rfl) rfl (fun _ _ h_ => TL.off rfl rfl rfl (TL.nil h_)) ?_
    refine Plan.v 23 [24, 25, 26, 27, 28, 29, 30, 31, 32, 33, 34, 35, 36, 37, 38, 39, 40, 41, 42, 43, 44, 45, 46] (by kernel_rfl) (by kernel_rfl) (by kernel_rfl) (by kernel_rfl) rfl (fun _ _ h_ => TL.off rfl rfl rfl (TL.nil h_)) ?_
    refine Plan.v 24 [25, 26, 27, 28, 29, 30, 31, 32, 33, 34, 35, 36, 37, 38, 39, 40, 41, 42, 43, 44, 45, 46] (by kernel_rfl) (by kernel_rfl) (by kernel_rfl) (by kernel_rfl) rfl (fun _ _ h_ => TL.off rfl rfl rfl (TL.nil h_)) ?_
    refine Plan.v 25 [26, 27, 28, 29, 30, 31, 32, 33, 34, 35, 36, 37, 38, 39, 40, 41, 42, 43, 44, 45, 46] (by kernel_rfl) (by kernel_rfl) (by kernel_rfl) (by kernel_rfl) rfl (fun _ _ h_ => TL.off rfl rfl rfl (TL.nil h_)) ?_
    refine Plan.v 26 [27, 28, 29, 30, 31, 32, 33, 34, 35, 36, 37, 38, 39, 40, 41, 42, 43, 44, 45, 46] (by kernel_rfl) (by kernel_rfl) (by kernel_rfl) (by kernel_rfl) rfl (fun _ _ h_ => R.pkFE rfl rfl (by conv => lhs; whnf) (TL.nil h_)) ?_
    refine Plan.v 27 [28, 29, 30, 31, 32, 33, 34, 35, 36, 37, 38, 39, 40, 41, 42, 43, 44, 45, 46] (by kernel_rfl) (by kernel_rfl) (by kernel_rfl) (by kernel_rfl) rfl (fun _ _ h_ => R.mvE rfl (by conv => lhs; whnf) (TL.nil h_)) ?_
    refine Plan.v 28 [29, 30, 31, 32, 33, 34, 35, 36, 37, 38, 39, 40, 41, 42, 43, 44, 45, 46] (by kernel_rfl) (by kernel_rfl) (by kernel_rfl) (by kernel_rfl) rfl (fun _ _ h_ => TL.off rfl rfl rfl (TL.nil h_)) ?_
    refine Plan.v 29 [30, 31, 32, 33, 34, 35, 36, 37, 38, 39, 40, 41, 42, 43, 44, 45, 46] (by kernel_rfl) (by kernel_rfl) (by kernel_rfl) (by kernel_rfl) rfl (fun _ _ h_ => TL.off rfl rfl rfl (TL.nil h_)) ?_
    refine Plan.v 30 [31, 32, 33, 34, 35, 36, 37, 38, 39, 40, 41, 42, 43, 44, 45, 46] (by kernel_rfl) (by kernel_rfl) (by kernel_rfl) (by kernel_rfl) rfl (fun _ _ h_ => TL.off rfl rfl rfl (TL.nil h_)) ?_
    refine Plan.v 31 [32, 33, 34, 35, 36, 37, 38, 39, 40, 41, 42, 43, 44, 45, 46] (by kernel_rfl) (by kernel_rfl) (by kernel_rfl) (by kernel_rfl) rfl (fun _ _ h_ => TL.off rfl rfl rfl (TL.nil h_)) ?_
    refine Plan.v 32 [33, 34, 35, 36, 37, 38, 39, 40, 41, 42, 43, 44, 45, 46] (by kernel_rfl) (by kernel_rfl) (by kernel_rfl) (by kernel_rfl) rfl (fun _ _ h_ => TL.off rfl rfl rfl (TL.nil h_)) ?_
    refine Plan.v 33 [34, 35, 36, 37, 38, 39, 40, 41, 42, 43, 44, 45, 46] (by kernel_rfl) (by kernel_rfl) (by kernel_rfl) (by kernel_rfl) rfl (fun _ _ h_ => R.pkFE rfl rfl (by conv => lhs; whnf) (TL.nil h_)) ?_
    refine Plan.v 34 [35, 36, 37, 38, 39, 40, 41, 42, 43, 44, 45, 46] (by kernel_rfl) (by kernel_rfl) (by kernel_rfl) (by kernel_rfl) rfl (fun _ _ h_ => R.mvE rfl (by conv => lhs; whnf) (TL.nil h_)) ?_
    refine Plan.v 35 [36, 37, 38, 39, 40, 41, 42, 43, 44, 45, 46] (by kernel_rfl) (by kernel_rfl) (by kernel_rfl) (by kernel_rfl) rfl (fun _ _ h_ => TL.off rfl rfl rfl (TL.nil h_)) ?_
    refine Plan.v 36 [37, 38, 39, 40, 41, 42, 43, 44, 45, 46] (by kernel_rfl) (by kernel_rfl) (by kernel_rfl) (by kernel_rfl) rfl (fun _ _ h_ => TL.off rfl rfl rfl (TL.nil h_)) ?_
    refine Plan.v 37 [38, 39, 40, 41, 42, 43, 44, 45, 46] (by kernel_rfl) (by kernel_rfl) (by kernel_rfl) (by kernel_rfl) rfl (fun _ _ h_ => TL.off rfl rfl rfl (TL.nil h_)) ?_
    refine Plan.v 38 [39, 40, 41, 42, 43, 44, 45, 46] (by kernel_rfl) (by kernel_rfl) (by kernel_rfl) (by kernel_rfl) rfl (fun _ _ h_ => TL.off rfl rfl rfl (TL.nil h_)) ?_
    refine Plan.v 39 [40, 41, 42, 43, 44, 45, 46] (by kernel_rfl) (by kernel_rfl) (by kernel_rfl) (by kernel_rfl) rfl (fun _ _ h_ => R.pkFE rfl rfl (by conv => lhs; whnf) (TL.nil h_)) ?_
    refine Plan.v 40 [41, 42, 43, 44, 45, 46] (by kernel_rfl) (by kernel_rfl) (by kernel_rfl) (by kernel_rfl) rfl (fun _ _ h_ => R.mvE rfl (by conv => lhs; whnf) (TL.nil h_)) ?_
    refine Plan.v 41 [42, 43, 44, 45, 46] (by kernel_rfl) (by kernel_rfl) (by kernel_rfl) (by kernel_rfl) rfl (fun _ _ h_ => TL.off rfl rfl rfl (TL.nil h_)) ?_
    refine Plan.v 42 [43, 44, 45, 46] (by kernel_rfl) (by kernel_rfl) (by kernel_rfl) (by kernel_rfl) rfl (fun _ _ h_ => TL.off rfl rfl rfl (TL.nil h_)) ?_
    refine Plan.v 43 [44, 45, 46] (by kernel_rfl) (by kernel_rfl) (by kernel_rfl) (by kernel_rfl) rfl (fun _ _ h_ => TL.off rfl rfl rfl (TL.nil h_)) ?_
    refine Plan.v 44 [45, 46] (by kernel_rfl) (by kernel_rfl) (by kernel_rfl) (by kernel_rfl) rfl (fun _ _ h_ => TL.off rfl rfl rfl (TL.nil h_)) ?_
    refine Plan.v 45 [46] (by kernel_rfl) (by kernel_rfl) (by kernel_rfl) (by kernel_rfl) rfl (fun _ _ h_ => R.pkFE rfl rfl (by conv => lhs; whnf) (TL.nil h_)) ?_
    refine Plan.v 46 [] (by kernel_rfl) (by kernel_rfl) (by kernel_rfl) (by kernel_rfl) rfl (fun _ _ h_ => R.asE rfl (by conv => lhs; whnf) (TL.nil h_)) ?_
    refine Plan.done (Post.thnN ?_)
    refine T.has Has.nil ?_
    refine T.ret ?_
    have hM : windroselaw20_wakes_m = false := by subst er38; subst er32; subst er26; subst er19; subst er12; rw [windroselaw20_wakes_m, LR.seq_go, LR.seq_go, LR.seq_go, LR.seq_go, LR.seq_go, if_neg g43]
    exact fin1L (v := .bool false) [] rfl rfl (List.Sublist.refl _) ⟨rfl, by first | rw [hM] | rfl⟩

def windroselaw20_own_m (a0 : List (Int × (Bool × Bool × Int × Int × Int))) (a1 : List (Int × Int)) : (List (Int × (Bool × Bool × Int × Int × Int))) × (List (Int × Int)) :=
  ((a0.take ((min a0.length 12))), (a1.take ((min a1.length 16))))
set_option maxHeartbeats 3200000 in
theorem windroselaw20_own_c (H : Heap) (va0 : Value) (a0 : List (Int × (Bool × Bool × Int × Int × Int))) (ha0 : RdS relationE H va0 a0) (va1 : Value) (a1 : List (Int × Int)) (ha1 : RdS heldE H va1 a1) : Fc Tryd.prog (fnv 37) [va0, va1] H [] (fun v' H' L' => ∃ u0_0 u1_0 c0_0 c1_0, v' = .tuple #[u0_0, u1_0] ∧ L' = [c0_0, c1_0] ∧ OwnS relationE 78 H' u0_0 (windroselaw20_own_m a0 a1).1 c0_0 ∧ OwnS heldE 73 H' u1_0 (windroselaw20_own_m a0 a1).2 c1_0) := by
  refine Fc.of_body (N := 18) Tryd.func37 rfl (by kernel_rfl) rfl rfl ?_
  intro w0
  obtain ⟨Aa0, ca0, rfl, hca0, hda0, ha0⟩ := ha0.shape
  obtain ⟨Aa1, ca1, rfl, hca1, hda1, ha1⟩ := ha1.shape
  refine T.seq ?_
  refine T.region ?_
  refine R.asE rfl (by conv => lhs; whnf) ?_
  refine R.asE rfl (by conv => lhs; whnf) ?_
  refine TL.nil (Post.thnN ?_)
  refine T.seq ?_
  refine T.draw Tryd_mixed (by kernel_rfl) ?_
  refine Plan.v 0 [1, 2, 3, 4, 5, 6, 7, 8, 9, 10, 11, 12, 13] (by kernel_rfl) (by kernel_rfl) (by kernel_rfl) (by kernel_rfl) rfl (fun _ _ h_ => R.mvE rfl (by conv => lhs; whnf) (TL.nil h_)) ?_
  refine Plan.v 1 [2, 3, 4, 5, 6, 7, 8, 9, 10, 11, 12, 13] (by kernel_rfl) (by kernel_rfl) (by kernel_rfl) (by kernel_rfl) rfl (fun _ _ h_ => R.mvE rfl (by conv => lhs; whnf) (TL.nil h_)) ?_
  refine Plan.v 2 [3, 4, 5, 6, 7, 8, 9, 10, 11, 12, 13] (by kernel_rfl) (by kernel_rfl) (by kernel_rfl) (by kernel_rfl) rfl (fun _ _ h_ => R.len Tryd.underlying59 rfl rfl (TL.nil h_)) ?_
  refine Plan.v 3 [4, 5, 6, 7, 8, 9, 10, 11, 12, 13] (by kernel_rfl) (by kernel_rfl) (by kernel_rfl) (by kernel_rfl) rfl (fun _ _ h_ => R.min2 rfl rfl rfl (TL.nil h_)) ?_
  refine Plan.set 9 (.int .i64 ((min a0.length 12 : Nat) : Int)) (congrArg (Value.int .i64) (by split <;> omega)) ?_
  have z10 := RdS.takeC ha0 (i := (min a0.length 12)) (by omega) (by omega)
  obtain ⟨x10, e10⟩ : ∃ x, x = (a0.take ((min a0.length 12))) := ⟨_, rfl⟩
  rw [← e10] at z10
  obtain ⟨A10, p10, q10, m10, n10, r10⟩ := RdS.shape z10
  have t10 : x10.length ≤ a0.length := by rw [e10]; simp; try omega
  have t10_ : x10.length = min ((min a0.length 12)) a0.length := by rw [e10]; simp
  refine Plan.v 4 [5, 6, 7, 8, 9, 10, 11, 12, 13] (by kernel_rfl) (by kernel_rfl) (by kernel_rfl) (by kernel_rfl) rfl (fun _ _ h_ => R.sH Tryd.underlying59 Tryd.sizeOf78 rfl rfl rfl (by omega) (by omega)  (TL.nil h_)) ?_
  refine Plan.set 10 (.slice A10 x10.length p10) (by first | exact q10 | (rw [← q10]; simp; done) | (rw [← q10]; rfl)) ?_
  refine Plan.v 6 [5, 7, 8, 9, 10, 11, 12, 13] (by kernel_rfl) (by kernel_rfl) (by kernel_rfl) (by kernel_rfl) rfl (fun _ _ h_ => R.mvE rfl (by conv => lhs; whnf) (TL.nil h_)) ?_
  refine Plan.v 7 [5, 8, 9, 10, 11, 12, 13] (by kernel_rfl) (by kernel_rfl) (by kernel_rfl) (by kernel_rfl) rfl (fun _ _ h_ => R.mvE rfl (by conv => lhs; whnf) (TL.nil h_)) ?_
  refine Plan.v 8 [5, 9, 10, 11, 12, 13] (by kernel_rfl) (by kernel_rfl) (by kernel_rfl) (by kernel_rfl) rfl (fun _ _ h_ => R.len Tryd.underlying60 rfl rfl (TL.nil h_)) ?_
  refine Plan.v 9 [5, 10, 11, 12, 13] (by kernel_rfl) (by kernel_rfl) (by kernel_rfl) (by kernel_rfl) rfl (fun _ _ h_ => R.min2 rfl rfl rfl (TL.nil h_)) ?_
  refine Plan.set 15 (.int .i64 ((min a1.length 16 : Nat) : Int)) (congrArg (Value.int .i64) (by split <;> omega)) ?_
  have z16 := RdS.takeC ha1 (i := (min a1.length 16)) (by omega) (by omega)
  obtain ⟨x16, e16⟩ : ∃ x, x = (a1.take ((min a1.length 16))) := ⟨_, rfl⟩
  rw [← e16] at z16
  obtain ⟨A16, p16, q16, m16, n16, r16⟩ := RdS.shape z16
  have t16 : x16.length ≤ a1.length := by rw [e16]; simp; try omega
  have t16_ : x16.length = min ((min a1.length 16)) a1.length := by rw [e16]; simp
  refine Plan.v 10 [5, 11, 12, 13] (by kernel_rfl) (by kernel_rfl) (by kernel_rfl) (by kernel_rfl) rfl (fun _ _ h_ => R.sH Tryd.underlying60 Tryd.sizeOf73 rfl rfl rfl (by omega) (by omega)  (TL.nil h_)) ?_
  refine Plan.set 16 (.slice A16 x16.length p16) (by first | exact q16 | (rw [← q16]; simp; done) | (rw [← q16]; rfl)) ?_
  refine Plan.s1 5 [11, 12, 13] (by kernel_rfl) (by kernel_rfl) rfl ?_
  refine TL.call [] rfl rfl rfl (clone59_c _ _ x10 r10 (by first | omega | (simp; done) | (simp; omega) | (simp at *; omega))) ?_
  intro v11 H11 L11 s11 q11
  obtain ⟨c11, rfl, w11⟩ := q11
  obtain ⟨x11, e11⟩ : ∃ x, x = x10 := ⟨_, rfl⟩
  rw [← e11] at w11
  obtain ⟨A11, p11, rfl, m11, n11⟩ := OwnS.shape w11
  have t11 : x11.length = x10.length := by rw [e11]
  refine TL.nil (Plan.e1 (s11) ?_)
  refine Plan.s1 11 [12, 13] (by kernel_rfl) (by kernel_rfl) rfl ?_
  refine TL.call [] rfl rfl rfl (clone60_c _ _ x16 (r16.mono s11) (by first | omega | (simp; done) | (simp; omega) | (simp at *; omega))) ?_
  intro v17 H17 L17 s17 q17
  obtain ⟨c17, rfl, w17⟩ := q17
  obtain ⟨x17, e17⟩ : ∃ x, x = x16 := ⟨_, rfl⟩
  rw [← e17] at w17
  obtain ⟨A17, p17, rfl, m17, n17⟩ := OwnS.shape w17
  have t17 : x17.length = x16.length := by rw [e17]
  refine TL.nil (Plan.e1 (s17) ?_)
  refine Plan.v 12 [13] (by kernel_rfl) (by kernel_rfl) (by kernel_rfl) (by kernel_rfl) rfl (fun _ _ h_ => R.asE rfl (by conv => lhs; whnf) (TL.nil h_)) ?_
  refine Plan.v 13 [] (by kernel_rfl) (by kernel_rfl) (by kernel_rfl) (by kernel_rfl) rfl (fun _ _ h_ => R.asE rfl (by conv => lhs; whnf) (TL.nil h_)) ?_
  refine Plan.done (Post.thnN ?_)
  refine T.has (Has.cons (.tl .hd) (Has.cons .hd Has.nil)) ?_
  refine T.ret ?_
  have hM : windroselaw20_own_m a0 a1 = (x11, x17) := by subst e17; subst e11; subst e16; subst e10; rw [windroselaw20_own_m]
  exact fin2L (v := .slice A11 x11.length p11) (v' := .slice A17 x17.length p17) [c11, c17] rfl rfl rfl (List.Sublist.refl _) ⟨.slice A11 x11.length p11, .slice A17 x17.length p17, c11, c17, by first | rw [hM] | rfl, rfl, by rw [hM]; exact (OwnS.mono w11 s17), by rw [hM]; exact w17⟩

def windroselaw20_few_m (a0 : List Int) : (List Int) :=
  (a0.take ((min a0.length 6)))
set_option maxHeartbeats 3200000 in
theorem windroselaw20_few_c (H : Heap) (va0 : Value) (a0 : List Int) (ha0 : RdS (intE .i64) H va0 a0) : Fc Tryd.prog (fnv 45) [va0] H [] (fun v' H' L' => ∃ u0_0 c0_0, v' = u0_0 ∧ L' = [c0_0] ∧ OwnS (intE .i64) 3 H' u0_0 (windroselaw20_few_m a0) c0_0) := by
  refine Fc.of_body (N := 9) Tryd.func45 rfl (by kernel_rfl) rfl rfl ?_
  intro w0
  obtain ⟨Aa0, ca0, rfl, hca0, hda0, ha0⟩ := ha0.shape
  refine T.seq ?_
  refine T.region ?_
  refine R.asE rfl (by conv => lhs; whnf) ?_
  refine TL.nil (Post.thnN ?_)
  refine T.seq ?_
  refine T.region ?_
  refine R.mvE rfl (by conv => lhs; whnf) ?_
  refine R.mvE rfl (by conv => lhs; whnf) ?_
  refine R.len Tryd.underlying23 rfl rfl ?_
  refine R.min2 rfl rfl rfl ?_
  refine TL.set 6 (.int .i64 ((min a0.length 6 : Nat) : Int)) (congrArg (Value.int .i64) (by split <;> omega)) ?_
  have z7 := RdS.takeC ha0 (i := (min a0.length 6)) (by omega) (by omega)
  obtain ⟨x7, e7⟩ : ∃ x, x = (a0.take ((min a0.length 6))) := ⟨_, rfl⟩
  rw [← e7] at z7
  obtain ⟨A7, p7, q7, m7, n7, r7⟩ := RdS.shape z7
  have t7 : x7.length ≤ a0.length := by rw [e7]; simp; try omega
  have t7_ : x7.length = min ((min a0.length 6)) a0.length := by rw [e7]; simp
  refine R.sH Tryd.underlying23 Tryd.sizeOf3 rfl rfl rfl (by omega) (by omega)  ?_
  refine TL.set 7 (.slice A7 x7.length p7) (by first | exact q7 | (rw [← q7]; simp; done) | (rw [← q7]; rfl)) ?_
  refine TL.call [] rfl rfl rfl (clone23_c _ _ x7 r7 (by first | omega | (simp; done) | (simp; omega) | (simp at *; omega))) ?_
  intro v8 H8 L8 s8 q8
  obtain ⟨c8, rfl, w8⟩ := q8
  obtain ⟨x8, e8⟩ : ∃ x, x = x7 := ⟨_, rfl⟩
  rw [← e8] at w8
  obtain ⟨A8, p8, rfl, m8, n8⟩ := OwnS.shape w8
  have t8 : x8.length = x7.length := by rw [e8]
  refine R.asE rfl (by conv => lhs; whnf) ?_
  refine TL.nil (Post.thnN ?_)
  refine T.has (Has.cons .hd Has.nil) ?_
  refine T.ret ?_
  have hM : windroselaw20_few_m a0 = x8 := by subst e8; subst e7; rw [windroselaw20_few_m]
  exact fin1L (v := .slice A8 x8.length p8) [c8] rfl rfl (List.Sublist.refl _) ⟨.slice A8 x8.length p8, c8, by first | rw [hM] | rfl, rfl, by rw [hM]; exact w8⟩

def windroselaw20_mentions_m (a0 : Int × Int) (a1 : Int) : Bool :=
  LR.seq (ident_Parts_m a0.2) (fun r10 => if r10.1 = a1 then true else ((decide (r10.2 = a1))))
def windroselaw20_PlanTouches_l2 (r26 : (List (Int × (Bool × Bool × Int × Int × Int))) × (List (Int × Int))) (r34 : ((List Int) × (List (Int × Int)) × (List (Int × Int))) × Int) (yl1 : Int × Int) : List Int → Bool → LR (LR (Bool) (Unit)) (Bool)
  | [], sl2 => .go sl2
  | yl2 :: ysl2, sl2 => if (!(windroselaw20_mentions_m yl1 yl2)) = true then (windroselaw20_PlanTouches_l2 r26 r34 yl1 ysl2 sl2) else (LR.seq (trait_Policy_m r26.1 yl1.2 yl2) (fun r82 => LR.seq (if (!r82.2) = true then true else (if ¬ (yl1.1 ∈ r34.1.1) then (if r82.1 = 1 then true else (if ¬ (yl1.1 ∈ r34.1.1) then (if r82.1 = 2 then (if ¬ (yl1 ∈ r34.1.2.2) then true else (if ¬ (yl1.1 ∈ r34.1.1) then (if r82.1 = 0 then ((decide (¬ (yl1 ∈ r34.1.2.1)))) else false) else false)) else (if ¬ (yl1.1 ∈ r34.1.1) then (if r82.1 = 0 then ((decide (¬ (yl1 ∈ r34.1.2.1)))) else false) else false)) else (if ¬ (yl1.1 ∈ r34.1.1) then (if r82.1 = 0 then ((decide (¬ (yl1 ∈ r34.1.2.1)))) else false) else false))) else (if ¬ (yl1.1 ∈ r34.1.1) then (if r82.1 = 2 then (if ¬ (yl1 ∈ r34.1.2.2) then true else (if ¬ (yl1.1 ∈ r34.1.1) then (if r82.1 = 0 then ((decide (¬ (yl1 ∈ r34.1.2.1)))) else false) else false)) else (if ¬ (yl1.1 ∈ r34.1.1) then (if r82.1 = 0 then ((decide (¬ (yl1 ∈ r34.1.2.1)))) else false) else false)) else (if ¬ (yl1.1 ∈ r34.1.1) then (if r82.1 = 0 then ((decide (¬ (yl1 ∈ r34.1.2.1)))) else false) else false))) : Bool) (fun sc3 => if sc3 = true then (.ret (.ret false)) else (windroselaw20_PlanTouches_l2 r26 r34 yl1 ysl2 true))))
def windroselaw20_PlanTouches_l1 (r26 : (List (Int × (Bool × Bool × Int × Int × Int))) × (List (Int × Int))) (r34 : ((List Int) × (List (Int × Int)) × (List (Int × Int))) × Int) : List (Int × Int) → Unit → LR (Bool) (Unit)
  | [], sl1 => .go ()
  | yl1 :: ysl1, sl1 => LR.on (windroselaw20_PlanTouches_l2 r26 r34 yl1 r34.1.1 false) (fun r => r) (fun ol2 => LR.seq (if ol2 = true then (if ((decide (yl1 ∈ r34.1.2.1)) != (decide (¬ (yl1.1 ∈ r34.1.1)))) = true then true else (if yl1 ∈ r34.1.2.2 then ((decide (¬ (yl1 ∈ r34.1.2.1)))) else false)) else (if ((decide (yl1 ∈ r34.1.2.1)) != false) = true then true else (if yl1 ∈ r34.1.2.2 then ((decide (¬ (yl1 ∈ r34.1.2.1)))) else false)) : Bool) (fun sc4 => if sc4 = true then (.ret false) else (windroselaw20_PlanTouches_l1 r26 r34 ysl1 ())))
def windroselaw20_PlanTouches_m (a0 : List (Int × (Bool × Bool × Int × Int × Int))) (a1 : List (Int × Int)) (a2 : List Int) : Bool :=
  if (!windroselaw20_wakes_m) = true then false else (LR.seq (windroselaw20_own_m a0 a1) (fun r26 => LR.seq (windroselaw20_few_m a2) (fun r33 => LR.seq (plan_Of_m r26.1 r26.2 r33) (fun r34 => if r34.2 ≠ 0 then ((decide ((((r34.1.2.1.length : Int) + (r34.1.2.2.length : Int)) : Int) = 0))) else (LR.on (windroselaw20_PlanTouches_l1 r26 r34 r26.2 ()) (fun r => r) (fun ol1 => (decide ((r34.1.2.2.length : Int) ≤ (r34.1.2.1.length : Int)))))))))
def windroselaw20_PlanCloses_1_m (q0 : List (Int × (Bool × Bool × Int × Int × Int))) (q1 : List (Int × Int)) (q2 : Int) (a0 : Int) : Bool :=
  LR.seq (plan_Why_m q0 q1 a0 q2) (fun r13 => if r13.2 = 0 then (if a0 = q2 then true else (if (0 : Int) < (r13.1.length : Int) then ((decide ((r13.1.getD ((((r13.1.length : Int) - 1)).toNat) (((0, 0) : Int × Int) : Int × Int)).1 = q2))) else false)) else false)
set_option maxHeartbeats 3200000 in
theorem windroselaw20_PlanCloses_1_c (H : Heap) {tG1 : TypeId} (hG1 : H 1 = some (.cells #[.int .i64 1, .bool true, .bool true, .int .i64 0, .int .i64 1, .int .i64 2, .int .i64 2, .bool true, .bool false, .int .i64 0, .int .i64 0, .int .i64 2] tG1)) (b1000 : Nat) (vq0 : Value) (q0 : List (Int × (Bool × Bool × Int × Int × Int))) (hq0 : RdS relationE H vq0 q0) (hb0 : H b1000 = some (.cells #[vq0] 59)) (b1001 : Nat) (vq1 : Value) (q1 : List (Int × Int)) (hq1 : RdS heldE H vq1 q1) (hb1 : H b1001 = some (.cells #[vq1] 60)) (b1002 : Nat) (q2 : Int) (hb2 : H b1002 = some (.cells #[.int .i64 q2] 3)) (a0 : Int) (hl : q0.length ≤ 2000000) (hh : q1.length ≤ 100) : Fv Tryd.prog (.func (.func 53) #[] ([.pointer (some ⟨b1000, 0, none⟩), .pointer (some ⟨b1001, 0, none⟩), .pointer (some ⟨b1002, 0, none⟩)] : List Value).toArray) [.int .i64 a0] H (.bool (windroselaw20_PlanCloses_1_m q0 q1 q2 a0)) := by
  refine Fc.of_body (N := 39) Tryd.func53 rfl (by kernel_rfl) rfl rfl ?_
  intro w0
  obtain ⟨Aq0, cq0, rfl, hcq0, hdq0, hq0⟩ := hq0.shape
  obtain ⟨Aq1, cq1, rfl, hcq1, hdq1, hq1⟩ := hq1.shape
  refine T.seq ?_
  refine T.region ?_
  refine R.asE rfl (by conv => lhs; whnf) ?_
  refine TL.nil (Post.thnN ?_)
  refine T.seq ?_
  refine T.region ?_
  refine R.ldH Tryd.isAgg59 rfl rfl hb0 rfl ?_
  refine R.ldH Tryd.isAgg60 rfl rfl hb1 rfl ?_
  refine R.mvE rfl (by conv => lhs; whnf) ?_
  refine R.ldH Tryd.isAgg3 rfl rfl hb2 rfl ?_
  obtain ⟨r13, er13⟩ : ∃ r, r = (plan_Why_m q0 q1 a0 q2) := ⟨_, rfl⟩
  refine TL.call [] rfl rfl rfl (plan_Why_c _ hG1 _ q0 hq0 _ q1 hq1 (a0) (q2) (by first | omega | (simp; done) | (simp; omega) | (simp at *; omega)) (by first | omega | (simp; done) | (simp; omega) | (simp at *; omega))) ?_
  intro v13 H13 L13 s13 q13
  rw [← er13] at q13
  obtain ⟨u13_0_0, c13_0_0, rfl, rfl, w13_0_0⟩ := q13
  obtain ⟨A13_0_0, p13_0_0, rfl, m13_0_0, n13_0_0⟩ := OwnS.shape w13_0_0
  refine R.mvE rfl (by conv => lhs; whnf) ?_
  refine R.ext rfl rfl rfl ?_
  refine R.ext rfl rfl rfl ?_
  refine R.asE rfl (by conv => lhs; whnf) ?_
  refine R.asE rfl (by conv => lhs; whnf) ?_
  refine TL.nil (Post.thnN ?_)
  refine T.seq ?_
  refine T.draw Tryd_mixed (by kernel_rfl) ?_
  refine Plan.v 0 [1, 2, 3, 4, 5, 6, 7, 8, 9, 10, 11, 12, 13, 14, 15, 16, 17, 18, 19, 20, 21, 22, 23] (by kernel_rfl) (by kernel_rfl) (by kernel_rfl) (by kernel_rfl) rfl (fun _ _ h_ => R.mvE rfl (by conv => lhs; whnf) (TL.nil h_)) ?_
  refine Plan.v 1 [2, 3, 4, 5, 6, 7, 8, 9, 10, 11, 12, 13, 14, 15, 16, 17, 18, 19, 20, 21, 22, 23] (by kernel_rfl) (by kernel_rfl) (by kernel_rfl) (by kernel_rfl) rfl (fun _ _ h_ => R.eql rfl rfl rfl (TL.nil h_)) ?_
  refine Plan.v 2 [3, 4, 5, 6, 7, 8, 9, 10, 11, 12, 13, 14, 15, 16, 17, 18, 19, 20, 21, 22, 23] (by kernel_rfl) (by kernel_rfl) (by kernel_rfl) (by kernel_rfl) rfl (fun _ _ h_ => R.mvE rfl (by conv => lhs; whnf) (TL.nil h_)) ?_
  refine Plan.gsplitD 18 rfl (fun g18 => ?_) (fun g18 => ?_)
  · refine Plan.v 3 [4, 5, 6, 7, 8, 9, 10, 11, 12, 13, 14, 15, 16, 17, 18, 19, 20, 21, 22, 23] (by kernel_rfl) (by kernel_rfl) (by kernel_rfl) (by kernel_rfl) rfl (fun _ _ h_ => R.mvE rfl (by conv => lhs; whnf) (TL.nil h_)) ?_
    refine Plan.v 4 [5, 6, 7, 8, 9, 10, 11, 12, 13, 14, 15, 16, 17, 18, 19, 20, 21, 22, 23] (by kernel_rfl) (by kernel_rfl) (by kernel_rfl) (by kernel_rfl) rfl (fun _ _ h_ => R.ldH Tryd.isAgg3 rfl rfl (s13 _ _ hb2) rfl (TL.nil h_)) ?_
    refine Plan.v 5 [6, 7, 8, 9, 10, 11, 12, 13, 14, 15, 16, 17, 18, 19, 20, 21, 22, 23] (by kernel_rfl) (by kernel_rfl) (by kernel_rfl) (by kernel_rfl) rfl (fun _ _ h_ => R.eql rfl rfl rfl (TL.nil h_)) ?_
    refine Plan.v 6 [7, 8, 9, 10, 11, 12, 13, 14, 15, 16, 17, 18, 19, 20, 21, 22, 23] (by kernel_rfl) (by kernel_rfl) (by kernel_rfl) (by kernel_rfl) rfl (fun _ _ h_ => R.mvE rfl (by conv => lhs; whnf) (TL.nil h_)) ?_
    refine Plan.gsplitD 22 rfl (fun g22 => ?_) (fun g22 => ?_)
    · refine Plan.v 7 [8, 9, 10, 11, 12, 13, 14, 15, 16, 17, 18, 19, 20, 21, 22, 23] (by kernel_rfl) (by kernel_rfl) (by kernel_rfl) (by kernel_rfl) rfl (fun _ _ h_ => TL.off rfl rfl rfl (TL.nil h_)) ?_
      refine Plan.v 8 [9, 10, 11, 12, 13, 14, 15, 16, 17, 18, 19, 20, 21, 22, 23] (by kernel_rfl) (by kernel_rfl) (by kernel_rfl) (by kernel_rfl) rfl (fun _ _ h_ => TL.off rfl rfl rfl (TL.nil h_)) ?_
      refine Plan.v 9 [10, 11, 12, 13, 14, 15, 16, 17, 18, 19, 20, 21, 22, 23] (by kernel_rfl) (by kernel_rfl) (by kernel_rfl) (by kernel_rfl) rfl (fun _ _ h_ => TL.off rfl rfl rfl (TL.nil h_)) ?_
      refine Plan.v 10 [11, 12, 13, 14, 15, 16, 17, 18, 19, 20, 21, 22, 23] (by kernel_rfl) (by kernel_rfl) (by kernel_rfl) (by kernel_rfl) rfl (fun _ _ h_ => TL.off rfl rfl rfl (TL.nil h_)) ?_
      refine Plan.v 11 [12, 13, 14, 15, 16, 17, 18, 19, 20, 21, 22, 23] (by kernel_rfl) (by kernel_rfl) (by kernel_rfl) (by kernel_rfl) rfl (fun _ _ h_ => TL.offU rfl rfl (TL.nil h_)) ?_
      refine Plan.v 12 [13, 14, 15, 16, 17, 18, 19, 20, 21, 22, 23] (by kernel_rfl) (by kernel_rfl) (by kernel_rfl) (by kernel_rfl) rfl (fun _ _ h_ => TL.offU rfl rfl (TL.nil h_)) ?_
      refine Plan.v 13 [14, 15, 16, 17, 18, 19, 20, 21, 22, 23] (by kernel_rfl) (by kernel_rfl) (by kernel_rfl) (by kernel_rfl) rfl (fun _ _ h_ => TL.offU rfl rfl (TL.nil h_)) ?_
      refine Plan.v 14 [15, 16, 17, 18, 19, 20, 21, 22, 23] (by kernel_rfl) (by kernel_rfl) (by kernel_rfl) (by kernel_rfl) rfl (fun _ _ h_ => TL.offU rfl rfl (TL.nil h_)) ?_
      refine Plan.v 15 [16, 17, 18, 19, 20, 21, 22, 23] (by kernel_rfl) (by kernel_rfl) (by kernel_rfl) (by kernel_rfl) rfl (fun _ _ h_ => TL.offU rfl rfl (TL.nil h_)) ?_
      refine Plan.v 16 [17, 18, 19, 20, 21, 22, 23] (by kernel_rfl) (by kernel_rfl) (by kernel_rfl) (by kernel_rfl) rfl (fun _ _ h_ => TL.offU rfl rfl (TL.nil h_)) ?_
      refine Plan.v 17 [18, 19, 20, 21, 22, 23] (by kernel_rfl) (by kernel_rfl) (by kernel_rfl) (by kernel_rfl) rfl (fun _ _ h_ => TL.offU rfl rfl (TL.nil h_)) ?_
      refine Plan.v 18 [19, 20, 21, 22, 23] (by kernel_rfl) (by kernel_rfl) (by kernel_rfl) (by kernel_rfl) rfl (fun _ _ h_ => TL.offU rfl rfl (TL.nil h_)) ?_
      refine Plan.v 19 [20, 21, 22, 23] (by kernel_rfl) (by kernel_rfl) (by kernel_rfl) (by kernel_rfl) rfl (fun _ _ h_ => TL.offU rfl rfl (TL.nil h_)) ?_
      refine Plan.v 20 [21, 22, 23] (by kernel_rfl) (by kernel_rfl) (by kernel_rfl) (by kernel_rfl) rfl (fun _ _ h_ => TL.off rfl rfl rfl (TL.nil h_)) ?_
      refine Plan.v 21 [22, 23] (by kernel_rfl) (by kernel_rfl) (by kernel_rfl) (by kernel_rfl) rfl (fun _ _ h_ => R.pkTE rfl rfl (by conv => lhs; whnf) (TL.nil h_)) ?_
      refine Plan.v 22 [23] (by kernel_rfl) (by kernel_rfl) (by kernel_rfl) (by kernel_rfl) rfl (fun _ _ h_ => R.pkTE rfl rfl (by conv => lhs; whnf) (TL.nil h_)) ?_
      refine Plan.v 23 [] (by kernel_rfl) (by kernel_rfl) (by kernel_rfl) (by kernel_rfl) rfl (fun _ _ h_ => R.asE rfl (by conv => lhs; whnf) (TL.nil h_)) ?_
      refine Plan.done (Post.thnN ?_)
      refine T.has Has.nil ?_
      refine T.ret ?_
      have hM : windroselaw20_PlanCloses_1_m q0 q1 q2 a0 = true := by subst er13; rw [windroselaw20_PlanCloses_1_m, LR.seq_go, if_pos g18, if_pos g22]
      exact fin1L (v := .bool true) [] rfl rfl (List.Sublist.refl _) ⟨rfl, by first | rw [hM] | rfl⟩
    · refine Plan.v 7 [8, 9, 10, 11, 12, 13, 14, 15, 16, 17, 18, 19, 20, 21, 22, 23] (by kernel_rfl) (by kernel_rfl) (by kernel_rfl) (by kernel_rfl) rfl (fun _ _ h_ => R.mvE rfl (by conv => lhs; whnf) (TL.nil h_)) ?_
      refine Plan.v 8 [9, 10, 11, 12, 13, 14, 15, 16, 17, 18, 19, 20, 21, 22, 23] (by kernel_rfl) (by kernel_rfl) (by kernel_rfl) (by kernel_rfl) rfl (fun _ _ h_ => R.len Tryd.underlying60 rfl rfl (TL.nil h_)) ?_
      refine Plan.v 9 [10, 11, 12, 13, 14, 15, 16, 17, 18, 19, 20, 21, 22, 23] (by kernel_rfl) (by kernel_rfl) (by kernel_rfl) (by kernel_rfl) rfl (fun _ _ h_ => R.gtr rfl rfl rfl (TL.nil h_)) ?_
      refine Plan.v 10 [11, 12, 13, 14, 15, 16, 17, 18, 19, 20, 21, 22, 23] (by kernel_rfl) (by kernel_rfl) (by kernel_rfl) (by kernel_rfl) rfl (fun _ _ h_ => R.mvE rfl (by conv => lhs; whnf) (TL.nil h_)) ?_
      refine Plan.gsplitD 26 rfl (fun g26 => ?_) (fun g26 => ?_)
      · refine Plan.v 11 [12, 13, 14, 15, 16, 17, 18, 19, 20, 21, 22, 23] (by kernel_rfl) (by kernel_rfl) (by kernel_rfl) (by kernel_rfl) rfl (fun _ _ h_ => R.mvE rfl (by conv => lhs; whnf) (TL.nil h_)) ?_
        refine Plan.v 12 [13, 14, 15, 16, 17, 18, 19, 20, 21, 22, 23] (by kernel_rfl) (by kernel_rfl) (by kernel_rfl) (by kernel_rfl) rfl (fun _ _ h_ => R.mvE rfl (by conv => lhs; whnf) (TL.nil h_)) ?_
        refine Plan.v 13 [14, 15, 16, 17, 18, 19, 20, 21, 22, 23] (by kernel_rfl) (by kernel_rfl) (by kernel_rfl) (by kernel_rfl) rfl (fun _ _ h_ => R.len Tryd.underlying60 rfl rfl (TL.nil h_)) ?_
        refine Plan.v 14 [15, 16, 17, 18, 19, 20, 21, 22, 23] (by kernel_rfl) (by kernel_rfl) (by kernel_rfl) (by kernel_rfl) rfl (fun _ _ h_ => R.subI rfl rfl rfl (by omega) (TL.nil h_)) ?_
        refine Plan.v 18 [15, 16, 17, 19, 20, 21, 22, 23] (by kernel_rfl) (by kernel_rfl) (by kernel_rfl) (by kernel_rfl) rfl (fun _ _ h_ => R.ldH Tryd.isAgg3 rfl rfl (s13 _ _ hb2) rfl (TL.nil h_)) ?_
        refine Plan.s1 15 [16, 17, 19, 20, 21, 22, 23] (by kernel_rfl) (by kernel_rfl) rfl ?_
        refine TL.shut .hd ?_
        intro HF13_0_0_3 sF13_0_0_3 qF13_0_0_3
        have fF13_0_0_3 := OwnS.read w13_0_0 sF13_0_0_3 qF13_0_0_3
        have hl31 : (((r13.1.length : Int) - 1)).toNat < r13.1.length := by first | omega | (simp; done) | (simp; omega) | (simp at *; omega)
        obtain ⟨y31, e31, h31⟩ : ∃ y, y = (r13.1.getD ((((r13.1.length : Int) - 1)).toNat) (((0, 0) : Int × Int) : Int × Int)) ∧ r13.1[(((r13.1.length : Int) - 1)).toNat]? = some y := ⟨_, rfl, getD_get (by first | exact hl31 | simpa using hl31 | (rw [(sortI_perm _).length_eq]; exact hl31))⟩
        obtain ⟨b31, o31, i31, k31⟩ := RdS.elem fF13_0_0_3 h31
        obtain ⟨l31, g31, k31⟩ := k31
        obtain rfl : l31 = [.int .i64 (y31.1), .int .u64 (y31.2)] := g31
        refine R.ixp Tryd.underlying60 Tryd.sizeOf73 rfl rfl rfl (by first | omega | (simp; done) | (simp; omega) | (simp at *; omega)) i31 ?_
        refine TL.nil (Plan.e1 (sF13_0_0_3) ?_)
        refine Plan.v 16 [17, 19, 20, 21, 22, 23] (by kernel_rfl) (by kernel_rfl) (by kernel_rfl) (by kernel_rfl) rfl (fun _ _ h_ => R.fldA Tryd.underlying73 rfl Tryd.sizeOf3 (by decide) rfl rfl (TL.nil h_)) ?_
        refine Plan.v 17 [19, 20, 21, 22, 23] (by kernel_rfl) (by kernel_rfl) (by kernel_rfl) (by kernel_rfl) rfl (fun _ _ h_ => R.ldC Tryd.isAgg3 rfl rfl (k31 0 _ rfl) (TL.nil h_)) ?_
        refine Plan.v 19 [20, 21, 22, 23] (by kernel_rfl) (by kernel_rfl) (by kernel_rfl) (by kernel_rfl) rfl (fun _ _ h_ => R.eql rfl rfl rfl (TL.nil h_)) ?_
        refine Plan.v 20 [21, 22, 23] (by kernel_rfl) (by kernel_rfl) (by kernel_rfl) (by kernel_rfl) rfl (fun _ _ h_ => R.pkTE rfl rfl (by conv => lhs; whnf) (TL.nil h_)) ?_
        refine Plan.v 21 [22, 23] (by kernel_rfl) (by kernel_rfl) (by kernel_rfl) (by kernel_rfl) rfl (fun _ _ h_ => R.pkFE rfl rfl (by conv => lhs; whnf) (TL.nil h_)) ?_
        refine Plan.v 22 [23] (by kernel_rfl) (by kernel_rfl) (by kernel_rfl) (by kernel_rfl) rfl (fun _ _ h_ => R.pkTE rfl rfl (by conv => lhs; whnf) (TL.nil h_)) ?_
        refine Plan.v 23 [] (by kernel_rfl) (by kernel_rfl) (by kernel_rfl) (by kernel_rfl) rfl (fun _ _ h_ => R.asE rfl (by conv => lhs; whnf) (TL.nil h_)) ?_
        refine Plan.done (Post.thnN ?_)
        refine T.has Has.nil ?_
        refine T.ret ?_
        have hM : windroselaw20_PlanCloses_1_m q0 q1 q2 a0 = (decide (y31.1 = q2)) := by subst e31; subst er13; rw [windroselaw20_PlanCloses_1_m, LR.seq_go, if_pos g18, if_neg g22, if_pos g26]
        exact fin1L (v := .bool (decide (y31.1 = q2))) [] rfl rfl (List.Sublist.refl _) ⟨rfl, by first | rw [hM] | rfl⟩
      · refine Plan.v 11 [12, 13, 14, 15, 16, 17, 18, 19, 20, 21, 22, 23] (by kernel_rfl) (by kernel_rfl) (by kernel_rfl) (by kernel_rfl) rfl (fun _ _ h_ => TL.off rfl rfl rfl (TL.nil h_)) ?_
        refine Plan.v 12 [13, 14, 15, 16, 17, 18, 19, 20, 21, 22, 23] (by kernel_rfl) (by kernel_rfl) (by kernel_rfl) (by kernel_rfl) rfl (fun _ _ h_ => TL.off rfl rfl rfl (TL.nil h_)) ?_
        refine Plan.v 13 [14, 15, 16, 17, 18, 19, 20, 21, 22, 23] (by kernel_rfl) (by kernel_rfl) (by kernel_rfl) (by kernel_rfl) rfl (fun _ _ h_ => TL.off rfl rfl rfl (TL.nil h_)) ?_
        refine Plan.v 14 [15, 16, 17, 18, 19, 20, 21, 22, 23] (by kernel_rfl) (by kernel_rfl) (by kernel_rfl) (by kernel_rfl) rfl (fun _ _ h_ => TL.off rfl rfl rfl (TL.nil h_)) ?_
        refine Plan.v 15 [16, 17, 18, 19, 20, 21, 22, 23] (by kernel_rfl) (by kernel_rfl) (by kernel_rfl) (by kernel_rfl) rfl (fun _ _ h_ => TL.off rfl rfl rfl (TL.nil h_)) ?_
        refine Plan.v 16 [17, 18, 19, 20, 21, 22, 23] (by kernel_rfl) (by kernel_rfl) (by kernel_rfl) (by kernel_rfl) rfl (fun _ _ h_ => TL.off rfl rfl rfl (TL.nil h_)) ?_
        refine Plan.v 17 [18, 19, 20, 21, 22, 23] (by kernel_rfl) (by kernel_rfl) (by kernel_rfl) (by kernel_rfl) rfl (fun _ _ h_ => TL.off rfl rfl rfl (TL.nil h_)) ?_
        refine Plan.v 18 [19, 20, 21, 22, 23] (by kernel_rfl) (by kernel_rfl) (by kernel_rfl) (by kernel_rfl) rfl (fun _ _ h_ => TL.off rfl rfl rfl (TL.nil h_)) ?_
        refine Plan.v 19 [20, 21, 22, 23] (by kernel_rfl) (by kernel_rfl) (by kernel_rfl) (by kernel_rfl) rfl (fun _ _ h_ => TL.off rfl rfl rfl (TL.nil h_)) ?_
        refine Plan.v 20 [21, 22, 23] (by kernel_rfl) (by kernel_rfl) (by kernel_rfl) (by kernel_rfl) rfl (fun _ _ h_ => R.pkFE rfl rfl (by conv => lhs; whnf) (TL.nil h_)) ?_
        refine Plan.v 21 [22, 23] (by kernel_rfl) (by kernel_rfl) (by kernel_rfl) (by kernel_rfl) rfl (fun _ _ h_ => R.pkFE rfl rfl (by conv => lhs; whnf) (TL.nil h_)) ?_
        refine Plan.v 22 [23] (by kernel_rfl) (by kernel_rfl) (by kernel_rfl) (by kernel_rfl) rfl (fun _ _ h_ => R.pkTE rfl rfl (by conv => lhs; whnf) (TL.nil h_)) ?_
        refine Plan.v 23 [] (by kernel_rfl) (by kernel_rfl) (by kernel_rfl) (by kernel_rfl) rfl (fun _ _ h_ => R.asE rfl (by conv => lhs; whnf) (TL.nil h_)) ?_
        refine Plan.done (Post.thnN ?_)
        refine T.has Has.nil ?_
        refine T.ret ?_
        have hM : windroselaw20_PlanCloses_1_m q0 q1 q2 a0 = false := by subst er13; rw [windroselaw20_PlanCloses_1_m, LR.seq_go, if_pos g18, if_neg g22, if_neg g26]
        exact fin1L (v := .bool false) [] rfl rfl (List.Sublist.refl _) ⟨rfl, by first | rw [hM] | rfl⟩
  · refine Plan.v 3 [4, 5, 6, 7, 8, 9, 10, 11, 12, 13, 14, 15, 16, 17, 18, 19, 20, 21, 22, 23] (by kernel_rfl) (by kernel_rfl) (by kernel_rfl) (by kernel_rfl) rfl (fun _ _ h_ => TL.off rfl rfl rfl (TL.nil h_)) ?_
    refine Plan.v 4 [5, 6, 7, 8, 9, 10, 11, 12, 13, 14, 15, 16, 17, 18, 19, 20, 21, 22, 23] (by kernel_rfl) (by kernel_rfl) (by kernel_rfl) (by kernel_rfl) rfl (fun _ _ h_ => TL.off rfl rfl rfl (TL.nil h_)) ?_
    refine Plan.v 5 [6, 7, 8, 9, 10, 11, 12, 13, 14, 15, 16, 17, 18, 19, 20, 21, 22, 23] (by kernel_rfl) (by kernel_rfl) (by kernel_rfl) (by kernel_rfl) rfl (fun _ _ h_ => TL.off rfl rfl rfl (TL.nil h_)) ?_
    refine Plan.v 6 [7, 8, 9, 10, 11, 12, 13, 14, 15, 16, 17, 18, 19, 20, 21, 22, 23] (by kernel_rfl) (by kernel_rfl) (by kernel_rfl) (by kernel_rfl) rfl (fun _ _ h_ => TL.off rfl rfl rfl (TL.nil h_)) ?_
    refine Plan.v 7 [8, 9, 10, 11, 12, 13, 14, 15, 16, 17, 18, 19, 20, 21, 22, 23] (by kernel_rfl) (by kernel_rfl) (by kernel_rfl) (by kernel_rfl) rfl (fun _ _ h_ => TL.offU rfl rfl (TL.nil h_)) ?_
    refine Plan.v 8 [9, 10, 11, 12, 13, 14, 15, 16, 17, 18, 19, 20, 21, 22, 23] (by kernel_rfl) (by kernel_rfl) (by kernel_rfl) (by kernel_rfl) rfl (fun _ _ h_ => TL.offU rfl rfl (TL.nil h_)) ?_
    refine Plan.v 9 [10, 11, 12, 13, 14, 15, 16, 17, 18, 19, 20, 21, 22, 23] (by kernel_rfl) (by kernel_rfl) (by kernel_rfl) (by kernel_rfl) rfl (fun _ _ h_ => TL.offU rfl rfl (TL.nil h_)) ?_
    refine Plan.v 10 [11, 12, 13, 14, 15, 16, 17, 18, 19, 20, 21, 22, 23] (by kernel_rfl) (by kernel_rfl) (by kernel_rfl) (by kernel_rfl) rfl (fun _ _ h_ => TL.offU rfl rfl (TL.nil h_)) ?_
    refine Plan.v 11 [12, 13, 14, 15, 16, 17, 18, 19, 20, 21, 22, 23] (by kernel_rfl) (by kernel_rfl) (by kernel_rfl) (by kernel_rfl) rfl (fun _ _ h_ => TL.offU rfl rfl (TL.nil h_)) ?_
    refine Plan.v 12 [13, 14, 15, 16, 17, 18, 19, 20, 21, 22, 23] (by kernel_rfl) (by kernel_rfl) (by kernel_rfl) (by kernel_rfl) rfl (fun _ _ h_ => TL.offU rfl rfl (TL.nil h_)) ?_
    refine Plan.v 13 [14, 15, 16, 17, 18, 19, 20, 21, 22, 23] (by kernel_rfl) (by kernel_rfl) (by kernel_rfl) (by kernel_rfl) rfl (fun _ _ h_ => TL.offU rfl rfl (TL.nil h_)) ?_
    refine Plan.v 14 [15, 16, 17, 18, 19, 20, 21, 22, 23] (by kernel_rfl) (by kernel_rfl) (by kernel_rfl) (by kernel_rfl) rfl (fun _ _ h_ => TL.offU rfl rfl (TL.nil h_)) ?_
    refine Plan.v 15 [16, 17, 18, 19, 20, 21, 22, 23] (by kernel_rfl) (by kernel_rfl) (by kernel_rfl) (by kernel_rfl) rfl (fun _ _ h_ => TL.offU rfl rfl (TL.nil h_)) ?_
    refine Plan.v 16 [17, 18, 19, 20, 21, 22, 23] (by kernel_rfl) (by kernel_rfl) (by kernel_rfl) (by kernel_rfl) rfl (fun _ _ h_ => TL.offU rfl rfl (TL.nil h_)) ?_
    refine Plan.v 17 [18, 19, 20, 21, 22, 23] (by kernel_rfl) (by kernel_rfl) (by kernel_rfl) (by kernel_rfl) rfl (fun _ _ h_ => TL.offU rfl rfl (TL.nil h_)) ?_
    refine Plan.v 18 [19, 20, 21, 22, 23] (by kernel_rfl) (by kernel_rfl) (by kernel_rfl) (by kernel_rfl) rfl (fun _ _ h_ => TL.offU rfl rfl (TL.nil h_)) ?_
    refine Plan.v 19 [20, 21, 22, 23] (by kernel_rfl) (by kernel_rfl) (by kernel_rfl) (by kernel_rfl) rfl (fun _ _ h_ => TL.offU rfl rfl (TL.nil h_)) ?_
    refine Plan.v 20 [21, 22, 23] (by kernel_rfl) (by kernel_rfl) (by kernel_rfl) (by kernel_rfl) rfl (fun _ _ h_ => TL.offU rfl rfl (TL.nil h_)) ?_
    refine Plan.v 21 [22, 23] (by kernel_rfl) (by kernel_rfl) (by kernel_rfl) (by kernel_rfl) rfl (fun _ _ h_ => TL.off rfl rfl rfl (TL.nil h_)) ?_
    refine Plan.v 22 [23] (by kernel_rfl) (by kernel_rfl) (by kernel_rfl) (by kernel_rfl) rfl (fun _ _ h_ => R.pkFE rfl rfl (by conv => lhs; whnf) (TL.nil h_)) ?_
    refine Plan.v 23 [] (by kernel_rfl) (by kernel_rfl) (by kernel_rfl) (by kernel_rfl) rfl (fun _ _ h_ => R.asE rfl (by conv => lhs; whnf) (TL.nil h_)) ?_
    refine Plan.done (Post.thnN ?_)
    refine T.has Has.nil ?_
    refine T.ret ?_
    have hM : windroselaw20_PlanCloses_1_m q0 q1 q2 a0 = false := by subst er13; rw [windroselaw20_PlanCloses_1_m, LR.seq_go, if_neg g18]
    exact fin1L (v := .bool false) [] rfl rfl (List.Sublist.refl _) ⟨rfl, by first | rw [hM] | rfl⟩

def windroselaw20_PlanCloses_l3 (r24 : (List (Int × (Bool × Bool × Int × Int × Int))) × (List (Int × Int))) (r28 : (List Int)) : List Int → Unit → LR (Bool) (Unit)
  | [], sl3 => .go ()
  | yl3 :: ysl3, sl3 => LR.seq (slices_ContainsFunc_int_m r28 ((fun z0 => windroselaw20_PlanCloses_1_m r24.1 r24.2 yl3 z0))) (fun r83 => if (!r83) = true then (.ret false) else (windroselaw20_PlanCloses_l3 r24 r28 ysl3 ()))
def windroselaw20_PlanCloses_l2 (r33 : ((List Int) × (List (Int × Int)) × (List (Int × Int))) × Int) : List Int → Unit → LR (Bool) (Unit)
  | [], sl2 => .go ()
  | yl2 :: ysl2, sl2 => if ¬ (yl2 ∈ r33.1.1) then (.ret false) else (windroselaw20_PlanCloses_l2 r33 ysl2 ())
def windroselaw20_PlanCloses_m (a0 : List (Int × (Bool × Bool × Int × Int × Int))) (a1 : List (Int × Int)) (a2 : List Int) : Bool :=
  if (!windroselaw20_wakes_m) = true then false else (LR.seq (windroselaw20_own_m a0 a1) (fun r24 => LR.seq (windroselaw20_few_m a2) (fun r28 => LR.seq (plan_Of_m r24.1 r24.2 r28) (fun r33 => if r33.2 ≠ 0 then ((decide ((r33.1.1.length : Int) = 0))) else (LR.seq (plan_Closed_m r24.1 r24.2 r33.1.1) (fun r47 => LR.seq (if r47.2 ≠ 0 then true else (if (!r47.1) = true then true else ((!(slices_IsSorted_int_m r33.1.1)))) : Bool) (fun sc1 => if sc1 = true then false else (LR.on (windroselaw20_PlanCloses_l2 r33 r28 ()) (fun r => r) (fun ol2 => LR.on (windroselaw20_PlanCloses_l3 r24 r28 r33.1.1 ()) (fun r => r) (fun ol3 => LR.seq (plan_Of_m r24.1 r24.2 []) (fun r90 => if r90.2 = 0 then (LR.seq (plan_Same_m r90.1 ((([], [], []) : (List Int) × (List (Int × Int)) × (List (Int × Int))))) (fun r98 => r98)) else false)))))))))))
set_option maxHeartbeats 3200000 in
theorem windroselaw20_PlanCloses_c (H : Heap) {tG1 : TypeId} (hG1 : H 1 = some (.cells #[.int .i64 1, .bool true, .bool true, .int .i64 0, .int .i64 1, .int .i64 2, .int .i64 2, .bool true, .bool false, .int .i64 0, .int .i64 0, .int .i64 2] tG1)) (va0 : Value) (a0 : List (Int × (Bool × Bool × Int × Int × Int))) (ha0 : RdS relationE H va0 a0) (va1 : Value) (a1 : List (Int × Int)) (ha1 : RdS heldE H va1 a1) (va2 : Value) (a2 : List Int) (ha2 : RdS (intE .i64) H va2 a2) : Fv Tryd.prog (fnv 11) [va0, va1, va2] H (.bool (windroselaw20_PlanCloses_m a0 a1 a2)) := by
  refine Fc.of_body (N := 100) Tryd.func11 rfl (by kernel_rfl) rfl rfl ?_
  intro w0
  obtain ⟨Aa0, ca0, rfl, hca0, hda0, ha0⟩ := ha0.shape
  obtain ⟨Aa1, ca1, rfl, hca1, hda1, ha1⟩ := ha1.shape
  obtain ⟨Aa2, ca2, rfl, hca2, hda2, ha2⟩ := ha2.shape
  refine T.seq ?_
  refine T.region ?_
  refine R.asE rfl (by conv => lhs; whnf) ?_
  refine TL.nil (Post.thnN ?_)
  refine T.seq ?_
  refine T.seq ?_
  refine T.region ?_
  refine R.callv rfl rfl rfl (windroselaw20_wakes_c _ hG1) ?_
  refine R.not rfl rfl ?_
  refine TL.nil (Post.thnN ?_)
  refine T.cond rfl (fun c20 => ?_) (fun c20 => ?_)
  · refine T.set 20 (.bool true) (congrArg Value.bool c20) ?_
    refine T.seq ?_
    refine T.region ?_
    refine R.asE rfl (by conv => lhs; whnf) ?_
    refine TL.nil (Post.thnN ?_)
    refine T.has Has.nil ?_
    refine T.ret (Post.thnR ?_)
    have hM : windroselaw20_PlanCloses_m a0 a1 a2 = false := by rw [windroselaw20_PlanCloses_m, if_t c20]
    exact fin1L (v := .bool false) [] rfl rfl (List.Sublist.refl _) ⟨rfl, by first | rw [hM] | rfl⟩
  · refine T.set 20 (.bool false) (congrArg Value.bool c20) ?_
    refine T.skip (Post.thnN ?_)
    refine T.seq ?_
    refine T.region ?_
    refine R.mvE rfl (by conv => lhs; whnf) ?_
    refine R.mvE rfl (by conv => lhs; whnf) ?_
    obtain ⟨r24, er24⟩ : ∃ r, r = (windroselaw20_own_m a0 a1) := ⟨_, rfl⟩
    refine TL.call [] rfl rfl rfl (windroselaw20_own_c _ _ a0 ha0 _ a1 ha1) ?_
    intro v24 H24 L24 s24 q24
    rw [← er24] at q24
    obtain ⟨u24_0_0, u24_1_0, c24_0_0, c24_1_0, rfl, rfl, w24_0_0, w24_1_0⟩ := q24
    obtain ⟨A24_0_0, p24_0_0, rfl, m24_0_0, n24_0_0⟩ := OwnS.shape w24_0_0
    obtain ⟨A24_1_0, p24_1_0, rfl, m24_1_0, n24_1_0⟩ := OwnS.shape w24_1_0
    have tq24 : r24.1.length ≤ 12 ∧ r24.2.length ≤ 16 := by rw [er24]; simp only [windroselaw20_own_m, List.length_take]; omega
    refine R.mvE rfl (by conv => lhs; whnf) ?_
    refine R.ext rfl rfl rfl ?_
    refine R.ext rfl rfl rfl ?_
    refine R.alloc Tryd.zeroValue59 rfl ?_
    intro b7
    refine R.alloc Tryd.zeroValue60 rfl ?_
    intro b8
    refine R.stX (old := [.slice none 0 0]) (l := [.slice A24_0_0 r24.1.length p24_0_0]) (new := [.slice A24_0_0 r24.1.length p24_0_0]) (et := 59) Tryd.sizeOf59 rfl rfl rfl (cells1 rfl) rfl (by show 0 + 1 ≤ 1; decide) rfl (all_one rfl) (.tl .hd) ?_
    refine R.stX (old := [.slice none 0 0]) (l := [.slice A24_1_0 r24.2.length p24_1_0]) (new := [.slice A24_1_0 r24.2.length p24_1_0]) (et := 60) Tryd.sizeOf60 rfl rfl rfl (cells1 rfl) rfl (by show 0 + 1 ≤ 1; decide) rfl (all_one rfl) .hd ?_
    refine TL.shut (.tl (.tl (.tl .hd))) ?_
    intro HF24_1_0_1 sF24_1_0_1 qF24_1_0_1
    have fF24_1_0_1 := OwnS.read w24_1_0 sF24_1_0_1 qF24_1_0_1
    refine TL.shut .hd ?_
    intro Hb8_2 sb8_2 qb8_2
    have hb8_2 : Hb8_2 b8 = some (.cells #[.slice A24_1_0 r24.2.length p24_1_0] 60) := shut1 qb8_2
    refine TL.shut (.tl .hd) ?_
    intro HF24_0_0_3 sF24_0_0_3 qF24_0_0_3
    have fF24_0_0_3 := OwnS.read (OwnS.mono w24_0_0 (sF24_1_0_1.trans sb8_2)) sF24_0_0_3 qF24_0_0_3
    refine TL.shut .hd ?_
    intro Hb7_4 sb7_4 qb7_4
    have hb7_4 : Hb7_4 b7 = some (.cells #[.slice A24_0_0 r24.1.length p24_0_0] 59) := shut1 qb7_4
    refine TL.nil (Post.thnN ?_)
    refine T.seq ?_
    refine T.region ?_
    refine R.mvE rfl (by conv => lhs; whnf) ?_
    obtain ⟨r28, er28⟩ : ∃ r, r = (windroselaw20_few_m a2) := ⟨_, rfl⟩
    refine TL.call [] rfl rfl rfl (windroselaw20_few_c _ _ a2 (ha2.mono (s24.trans (sF24_1_0_1.trans (sb8_2.trans (sF24_0_0_3.trans sb7_4)))))) ?_
    intro v28 H28 L28 s28 q28
    rw [← er28] at q28
    obtain ⟨u28_0_0, c28_0_0, rfl, rfl, w28_0_0⟩ := q28
    obtain ⟨A28_0_0, p28_0_0, rfl, m28_0_0, n28_0_0⟩ := OwnS.shape w28_0_0
    have tq28 : r28.length ≤ 6 := by rw [er28]; simp only [windroselaw20_few_m, List.length_take]; omega
    refine R.asE rfl (by conv => lhs; whnf) ?_
    refine TL.nil (Post.thnN ?_)
    refine T.seq ?_
    refine T.region ?_
    refine R.ldH Tryd.isAgg59 rfl rfl (s28 _ _ hb7_4) rfl ?_
    refine R.ldH Tryd.isAgg60 rfl rfl ((sF24_0_0_3.trans (sb7_4.trans s28)) _ _ hb8_2) rfl ?_
    refine R.mvE rfl (by conv => lhs; whnf) ?_
    refine TL.shut .hd ?_
    intro HF28_0_0_5 sF28_0_0_5 qF28_0_0_5
    have fF28_0_0_5 := OwnS.read w28_0_0 sF28_0_0_5 qF28_0_0_5
    obtain ⟨r33, er33⟩ : ∃ r, r = (plan_Of_m r24.1 r24.2 r28) := ⟨_, rfl⟩
    refine TL.call [] rfl rfl rfl (plan_Of_c _ ((s24.trans (sF24_1_0_1.trans (sb8_2.trans (sF24_0_0_3.trans (sb7_4.trans (s28.trans sF28_0_0_5)))))) _ _ hG1) _ r24.1 (fF24_0_0_3.mono (sb7_4.trans (s28.trans sF28_0_0_5))) _ r24.2 (fF24_1_0_1.mono (sb8_2.trans (sF24_0_0_3.trans (sb7_4.trans (s28.trans sF28_0_0_5))))) _ r28 fF28_0_0_5 (by first | omega | (simp; done) | (simp; omega) | (simp at *; omega)) (by first | omega | (simp; done) | (simp; omega) | (simp at *; omega)) (by first | omega | (simp; done) | (simp; omega) | (simp at *; omega))) ?_
    intro v33 H33 L33 s33 q33
    rw [← er33] at q33
    obtain ⟨u33_0_0, u33_0_1, u33_0_2, c33_0_0, c33_0_1, c33_0_2, rfl, rfl, w33_0_0, w33_0_1, w33_0_2⟩ := q33
    obtain ⟨A33_0_0, p33_0_0, rfl, m33_0_0, n33_0_0⟩ := OwnS.shape w33_0_0
    obtain ⟨A33_0_1, p33_0_1, rfl, m33_0_1, n33_0_1⟩ := OwnS.shape w33_0_1
    obtain ⟨A33_0_2, p33_0_2, rfl, m33_0_2, n33_0_2⟩ := OwnS.shape w33_0_2
    have to33 := of_len _ _ _ _ er33 (by first | omega | (simp; done) | (simp; omega) | (simp at *; omega)) (by first | omega | (simp; done) | (simp; omega) | (simp at *; omega))
    refine R.mvE rfl (by conv => lhs; whnf) ?_
    refine R.ext rfl rfl rfl ?_
    refine R.ext rfl rfl rfl ?_
    refine R.alloc Tryd.zeroValue81 rfl ?_
    intro b9
    refine R.stX (old := [.slice none 0 0, .slice none 0 0, .slice none 0 0]) (l := [.slice A33_0_0 r33.1.1.length p33_0_0, .slice A33_0_1 r33.1.2.1.length p33_0_1, .slice A33_0_2 r33.1.2.2.length p33_0_2]) (new := [.slice A33_0_0 r33.1.1.length p33_0_0, .slice A33_0_1 r33.1.2.1.length p33_0_1, .slice A33_0_2 r33.1.2.2.length p33_0_2]) (et := 81) Tryd.sizeOf81 rfl rfl rfl rfl rfl (by show 0 + 3 ≤ 3; decide) rfl (all_one rfl) .hd ?_
    refine R.asE rfl (by conv => lhs; whnf) ?_
    refine TL.shut (.tl .hd) ?_
    intro HF33_0_0_6 sF33_0_0_6 qF33_0_0_6
    have fF33_0_0_6 := OwnS.read w33_0_0 sF33_0_0_6 qF33_0_0_6
    refine TL.shut (.tl .hd) ?_
    intro HF33_0_1_7 sF33_0_1_7 qF33_0_1_7
    have fF33_0_1_7 := OwnS.read (OwnS.mono w33_0_1 sF33_0_0_6) sF33_0_1_7 qF33_0_1_7
    refine TL.shut (.tl .hd) ?_
    intro HF33_0_2_8 sF33_0_2_8 qF33_0_2_8
    have fF33_0_2_8 := OwnS.read (OwnS.mono w33_0_2 (sF33_0_0_6.trans sF33_0_1_7)) sF33_0_2_8 qF33_0_2_8
    refine TL.shut .hd ?_
    intro Hb9_9 sb9_9 qb9_9
    have hb9_9 : Hb9_9 b9 = some (.cells #[.slice A33_0_0 r33.1.1.length p33_0_0, .slice A33_0_1 r33.1.2.1.length p33_0_1, .slice A33_0_2 r33.1.2.2.length p33_0_2] 81) := shut1 qb9_9
    refine TL.nil (Post.thnN ?_)
    refine T.seq ?_
    refine T.seq ?_
    refine T.region ?_
    refine R.mvE rfl (by conv => lhs; whnf) ?_
    refine R.neq rfl rfl rfl ?_
    refine TL.nil (Post.thnN ?_)
    refine T.condD rfl (fun c37 => ?_) (fun c37 => ?_)
    · refine T.set 37 (.bool true) (congrArg Value.bool (decide_eq_true c37)) ?_
      refine T.seq ?_
      refine T.region ?_
      refine R.fldA Tryd.underlying81 rfl Tryd.sizeOf23 (by decide) rfl rfl ?_
      refine R.ldH Tryd.isAgg23 rfl rfl hb9_9 rfl ?_
      refine R.len Tryd.underlying23 rfl rfl ?_
      refine R.eql rfl rfl rfl ?_
      refine R.asE rfl (by conv => lhs; whnf) ?_
      refine TL.nil (Post.thnN ?_)
      refine T.has Has.nil ?_
      refine T.ret (Post.thnR ?_)
      have hM : windroselaw20_PlanCloses_m a0 a1 a2 = (decide ((r33.1.1.length : Int) = 0)) := by subst er33; subst er28; subst er24; rw [windroselaw20_PlanCloses_m, if_f c20, LR.seq_go, LR.seq_go, LR.seq_go, if_pos c37]
      exact fin1L (v := .bool (decide ((r33.1.1.length : Int) = 0))) [] rfl rfl (List.Sublist.refl _) ⟨rfl, by first | rw [hM] | rfl⟩
    · refine T.set 37 (.bool false) (congrArg Value.bool (decide_eq_false c37)) ?_
      refine T.skip (Post.thnN ?_)
      refine T.seq ?_
      refine T.region ?_
      refine R.ldH Tryd.isAgg59 rfl rfl ((s28.trans (sF28_0_0_5.trans (s33.trans (sF33_0_0_6.trans (sF33_0_1_7.trans (sF33_0_2_8.trans sb9_9)))))) _ _ hb7_4) rfl ?_
      refine R.ldH Tryd.isAgg60 rfl rfl ((sF24_0_0_3.trans (sb7_4.trans (s28.trans (sF28_0_0_5.trans (s33.trans (sF33_0_0_6.trans (sF33_0_1_7.trans (sF33_0_2_8.trans sb9_9)))))))) _ _ hb8_2) rfl ?_
      refine R.fldA Tryd.underlying81 rfl Tryd.sizeOf23 (by decide) rfl rfl ?_
      refine R.ldH Tryd.isAgg23 rfl rfl hb9_9 rfl ?_
      obtain ⟨r47, er47⟩ : ∃ r, r = (plan_Closed_m r24.1 r24.2 r33.1.1) := ⟨_, rfl⟩
      refine R.callv (v := .tuple #[.bool r47.1, .int .i64 r47.2]) rfl rfl rfl (by rw [er47]; exact plan_Closed_c _ ((s24.trans (sF24_1_0_1.trans (sb8_2.trans (sF24_0_0_3.trans (sb7_4.trans (s28.trans (sF28_0_0_5.trans (s33.trans (sF33_0_0_6.trans (sF33_0_1_7.trans (sF33_0_2_8.trans sb9_9))))))))))) _ _ hG1) _ r24.1 (fF24_0_0_3.mono (sb7_4.trans (s28.trans (sF28_0_0_5.trans (s33.trans (sF33_0_0_6.trans (sF33_0_1_7.trans (sF33_0_2_8.trans sb9_9)))))))) _ r24.2 (fF24_1_0_1.mono (sb8_2.trans (sF24_0_0_3.trans (sb7_4.trans (s28.trans (sF28_0_0_5.trans (s33.trans (sF33_0_0_6.trans (sF33_0_1_7.trans (sF33_0_2_8.trans sb9_9)))))))))) _ r33.1.1 (fF33_0_0_6.mono (sF33_0_1_7.trans (sF33_0_2_8.trans sb9_9))) (by first | omega | (simp; done) | (simp; omega) | (simp at *; omega)) (by first | omega | (simp; done) | (simp; omega) | (simp at *; omega))) ?_
      refine R.mvE rfl (by conv => lhs; whnf) ?_
      refine R.ext rfl rfl rfl ?_
      refine R.ext rfl rfl rfl ?_
      refine R.asE rfl (by conv => lhs; whnf) ?_
      refine R.asE rfl (by conv => lhs; whnf) ?_
      refine TL.nil (Post.thnN ?_)
      refine T.seq ?_
      refine T.seq ?_
      refine T.cutK (ι := Bool) (fun b61c1 H' L' ds' => Has L' [] ∧ (if r47.2 ≠ 0 then true else (if (!r47.1) = true then true else ((!(slices_IsSorted_int_m r33.1.1)))) : Bool) = b61c1) (fun b61c1 => [(2, .slice A28_0_0 r28.length p28_0_0), (7, .pointer (some ⟨b7, 0, none⟩)), (8, .pointer (some ⟨b8, 0, none⟩)), (9, .pointer (some ⟨b9, 0, none⟩)), (61, .bool (b61c1))]) ?_ ?_
      · refine T.region ?_
        refine R.mvE rfl (by conv => lhs; whnf) ?_
        refine R.neq rfl rfl rfl ?_
        refine R.mvE rfl (by conv => lhs; whnf) ?_
        refine TL.gsplitD 52 rfl (fun g52 => ?_) (fun g52 => ?_)
        · refine TL.off rfl rfl rfl ?_
          refine TL.off rfl rfl rfl ?_
          refine R.pkTE rfl rfl (by conv => lhs; whnf) ?_
          refine R.mvE rfl (by conv => lhs; whnf) ?_
          refine TL.off rfl rfl rfl ?_
          refine TL.off rfl rfl rfl ?_
          refine TL.off rfl rfl rfl ?_
          refine TL.off rfl rfl rfl ?_
          refine R.pkTE rfl rfl (by conv => lhs; whnf) ?_
          refine TL.nil (Post.thnN ?_)
          exact ⟨true, HLe.refl _, ⟨Has.nil, (by rw [if_pos g52])⟩, rfl, rfl, rfl, rfl, rfl, trivial⟩
        · refine R.mvE rfl (by conv => lhs; whnf) ?_
          refine R.not rfl rfl ?_
          refine R.pkFE rfl rfl (by conv => lhs; whnf) ?_
          refine R.mvE rfl (by conv => lhs; whnf) ?_
          refine TL.gsplit 56 rfl (fun g56 => ?_) (fun g56 => ?_)
          · refine TL.off rfl rfl rfl ?_
            refine TL.off rfl rfl rfl ?_
            refine TL.off rfl rfl rfl ?_
            refine TL.off rfl rfl rfl ?_
            refine R.pkTE rfl rfl (by conv => lhs; whnf) ?_
            refine TL.nil (Post.thnN ?_)
            exact ⟨true, HLe.refl _, ⟨Has.nil, (by rw [if_neg g52, if_t g56])⟩, rfl, rfl, rfl, rfl, rfl, trivial⟩
          · refine R.fldA Tryd.underlying81 rfl Tryd.sizeOf23 (by decide) rfl rfl ?_
            refine R.ldH Tryd.isAgg23 rfl rfl hb9_9 rfl ?_
            refine R.callv rfl rfl rfl (slices_IsSorted_int_c _ _ r33.1.1 (fF33_0_0_6.mono (sF33_0_1_7.trans (sF33_0_2_8.trans sb9_9)))) ?_
            refine R.not rfl rfl ?_
            refine R.pkFE rfl rfl (by conv => lhs; whnf) ?_
            refine TL.nil (Post.thnN ?_)
            exact ⟨(!(slices_IsSorted_int_m r33.1.1)), HLe.refl _, ⟨Has.nil, (by rw [if_neg g52, if_f g56])⟩, rfl, rfl, rfl, rfl, rfl, trivial⟩
      · intro b61c1 σ_c1 H_c1 L_c1 ds_c1 s_c1 hI_c1
        obtain ⟨hLc1, hTc1⟩ := hI_c1
        refine T.has hLc1 ?_
        refine T.cond rfl (fun c61 => ?_) (fun c61 => ?_)
        · refine T.set 61 (.bool true) (congrArg Value.bool c61) ?_
          have hZ61 := hTc1.trans c61
          try simp only [or_f, or_t, and_f, and_t, decide_eq_true_eq, decide_eq_false_iff_not, Bool.not_eq_true'] at hZ61
          refine T.seq ?_
          refine T.region ?_
          refine R.asE rfl (by conv => lhs; whnf) ?_
          refine TL.nil (Post.thnN ?_)
          refine T.has Has.nil ?_
          refine T.ret (Post.thnR ?_)
          have hM : windroselaw20_PlanCloses_m a0 a1 a2 = false := by subst er47; subst er33; subst er28; subst er24; rw [windroselaw20_PlanCloses_m, if_f c20, LR.seq_go, LR.seq_go, LR.seq_go, if_neg c37, LR.seq_go, hTc1, LR.seq_go, if_t c61]
          exact fin1L (v := .bool false) [] rfl rfl (List.Sublist.refl _) ⟨rfl, by first | rw [hM] | rfl⟩
        · refine T.set 61 (.bool false) (congrArg Value.bool c61) ?_
          have hZ61 := hTc1.trans c61
          try simp only [or_f, or_t, and_f, and_t, decide_eq_true_eq, decide_eq_false_iff_not, Bool.not_eq_true'] at hZ61
          refine T.skip (Post.thnN ?_)
          refine T.seq ?_
          refine T.seq ?_
          refine T.region ?_
          refine R.mvE rfl (by conv => lhs; whnf) ?_
          refine R.len Tryd.underlying23 rfl rfl ?_
          refine R.mvE rfl (by conv => lhs; whnf) ?_
          refine TL.nil (Post.thnN ?_)
          refine T.block ?_
          refine T.loop (ι := Nat) (fun kl2 H' L' ds' => kl2 ≤ r28.length ∧ Has L' [] ∧ windroselaw20_PlanCloses_l2 r33 (r28.drop kl2) () = windroselaw20_PlanCloses_l2 r33 r28 ()) (fun kl2 => [(64, .int .i64 (kl2 : Int)), (2, .slice A28_0_0 r28.length p28_0_0), (7, .pointer (some ⟨b7, 0, none⟩)), (8, .pointer (some ⟨b8, 0, none⟩)), (9, .pointer (some ⟨b9, 0, none⟩)), (62, .slice A28_0_0 r28.length p28_0_0), (63, .int .i64 (r28.length : Int))]) (fun kl2 => r28.length - kl2) 0 ?_ ?_ ?_
          · exact ⟨(by omega), Has.nil, (by rfl)⟩
          · exact ⟨rfl, rfl, rfl, rfl, rfl, rfl, rfl, trivial⟩
          · intro kl2 σ_l2 H_l2 L_l2 ds_l2 s_l2 hI_l2
            obtain ⟨hkl2, hI_l2⟩ := hI_l2
            obtain ⟨hLl2, hQl2⟩ := hI_l2
            refine T.has hLl2 ?_
            refine T.seq ?_
            refine T.region ?_
            refine R.lss rfl rfl rfl ?_
            refine TL.nil (Post.thnN ?_)
            refine T.seq ?_
            refine T.condD rfl (fun c65 => ?_) (fun c65 => ?_)
            · have hltl2 : kl2 < r28.length := by omega
              obtain ⟨yl2, hyl2⟩ := getk (xs := r28) (k := kl2) (by omega)
              refine T.skip (Post.thnN ?_)
              refine T.seq ?_
              refine T.block ?_
              refine T.seq ?_
              refine T.region ?_
              obtain ⟨b66, o66, i66, k66⟩ := RdS.elem (fF28_0_0_5.mono (s33.trans (sF33_0_0_6.trans (sF33_0_1_7.trans (sF33_0_2_8.trans (sb9_9.trans (s_c1.trans s_l2))))))) hyl2
              obtain ⟨l66, g66, k66⟩ := k66
              obtain rfl : l66 = [.int .i64 yl2] := g66
              refine R.ixp Tryd.underlying23 Tryd.sizeOf3 rfl rfl rfl (by omega) i66 ?_
              refine R.ldC Tryd.isAgg3 rfl rfl (k66 0 _ rfl) ?_
              refine R.asE rfl (by conv => lhs; whnf) ?_
              refine TL.nil (Post.thnN ?_)
              refine T.seq ?_
              refine T.region ?_
              refine R.fldA Tryd.underlying81 rfl Tryd.sizeOf23 (by decide) rfl rfl ?_
              refine R.ldH Tryd.isAgg23 rfl rfl ((s_c1.trans s_l2) _ _ hb9_9) rfl ?_
              refine R.mvE rfl (by conv => lhs; whnf) ?_
              refine R.callv rfl rfl rfl (slices_Contains_int_d _ _ r33.1.1 (fF33_0_0_6.mono (sF33_0_1_7.trans (sF33_0_2_8.trans (sb9_9.trans (s_c1.trans s_l2))))) yl2) ?_
              refine R.notD rfl rfl ?_
              refine TL.nil (Post.thnN ?_)
              refine T.condD rfl (fun c72 => ?_) (fun c72 => ?_)
              · refine T.set 72 (.bool true) (congrArg Value.bool (decide_eq_true c72)) ?_
                refine T.seq ?_
                refine T.region ?_
                refine R.asE rfl (by conv => lhs; whnf) ?_
                refine TL.nil (Post.thnN ?_)
                refine T.has Has.nil ?_
                refine T.ret (Post.blkR (Post.thnR (Post.thnR (Post.blkR (Post.thnR ?_)))))
                have hXl2 : windroselaw20_PlanCloses_l2 r33 r28 () = .ret false := by rw [← hQl2, drop_cons hyl2, windroselaw20_PlanCloses_l2]; rw [if_pos c72]
                have hM : windroselaw20_PlanCloses_m a0 a1 a2 = false := by subst er47; subst er33; subst er28; subst er24; rw [windroselaw20_PlanCloses_m, if_f c20, LR.seq_go, LR.seq_go, LR.seq_go, if_neg c37, LR.seq_go, hTc1, LR.seq_go, if_f c61, hXl2, LR.on_ret]
                exact fin1L (v := .bool false) [] rfl rfl (List.Sublist.refl _) ⟨rfl, by first | rw [hM] | rfl⟩
              · refine T.set 72 (.bool false) (congrArg Value.bool (decide_eq_false c72)) ?_
                refine T.skip (Post.blkN ?_)
                refine id (Post.thnN ?_)
                refine T.region ?_
                refine R.addI rfl rfl rfl (by omega) ?_
                refine R.mvE rfl (by conv => lhs; whnf) ?_
                refine TL.nil (Post.thnN ?_)
                exact ⟨kl2 + 1, s_l2, ⟨(by omega), Has.nil, (by rw [← hQl2, drop_cons hyl2, windroselaw20_PlanCloses_l2]; rw [if_neg c72])⟩, by show r28.length - (kl2 + 1) < r28.length - kl2; omega, rfl, rfl, rfl, rfl, rfl, rfl, rfl, trivial⟩
            · refine T.exit (Post.thnE (Post.thnE (Post.blkX ?_)))
              have hEl2 : windroselaw20_PlanCloses_l2 r33 r28 () = .go () := (hQl2.symm.trans (by rw [show kl2 = r28.length by omega, List.drop_length, windroselaw20_PlanCloses_l2]))
              refine id (Post.thnN ?_)
              refine T.seq ?_
              refine T.seq ?_
              refine T.region ?_
              refine R.fldA Tryd.underlying81 rfl Tryd.sizeOf23 (by decide) rfl rfl ?_
              refine R.ldH Tryd.isAgg23 rfl rfl ((s_c1.trans s_l2) _ _ hb9_9) rfl ?_
              refine R.len Tryd.underlying23 rfl rfl ?_
              refine R.mvE rfl (by conv => lhs; whnf) ?_
              refine TL.nil (Post.thnN ?_)
              refine T.block ?_
              refine T.loop (ι := Nat) (fun kl3 H' L' ds' => kl3 ≤ r33.1.1.length ∧ Has L' [] ∧ windroselaw20_PlanCloses_l3 r24 r28 (r33.1.1.drop kl3) () = windroselaw20_PlanCloses_l3 r24 r28 r33.1.1 ()) (fun kl3 => [(77, .int .i64 (kl3 : Int)), (2, .slice A28_0_0 r28.length p28_0_0), (7, .pointer (some ⟨b7, 0, none⟩)), (8, .pointer (some ⟨b8, 0, none⟩)), (75, .slice A33_0_0 r33.1.1.length p33_0_0), (76, .int .i64 (r33.1.1.length : Int))]) (fun kl3 => r33.1.1.length - kl3) 0 ?_ ?_ ?_
              · exact ⟨(by omega), Has.nil, (by rfl)⟩
              · exact ⟨rfl, rfl, rfl, rfl, rfl, rfl, trivial⟩
              · intro kl3 σ_l3 H_l3 L_l3 ds_l3 s_l3 hI_l3
                obtain ⟨hkl3, hI_l3⟩ := hI_l3
                obtain ⟨hLl3, hQl3⟩ := hI_l3
                refine T.has hLl3 ?_
                refine T.seq ?_
                refine T.region ?_
                refine R.lss rfl rfl rfl ?_
                refine TL.nil (Post.thnN ?_)
                refine T.seq ?_
                refine T.condD rfl (fun c78 => ?_) (fun c78 => ?_)
                · have hltl3 : kl3 < r33.1.1.length := by omega
                  obtain ⟨yl3, hyl3⟩ := getk (xs := r33.1.1) (k := kl3) (by omega)
                  refine T.skip (Post.thnN ?_)
                  refine T.seq ?_
                  refine T.block ?_
                  refine T.seq ?_
                  refine T.region ?_
                  obtain ⟨b79, o79, i79, k79⟩ := RdS.elem (fF33_0_0_6.mono (sF33_0_1_7.trans (sF33_0_2_8.trans (sb9_9.trans (s_c1.trans (s_l2.trans s_l3)))))) hyl3
                  obtain ⟨l79, g79, k79⟩ := k79
                  obtain rfl : l79 = [.int .i64 yl3] := g79
                  refine R.ixp Tryd.underlying23 Tryd.sizeOf3 rfl rfl rfl (by omega) i79 ?_
                  refine R.ldC Tryd.isAgg3 rfl rfl (k79 0 _ rfl) ?_
                  refine R.alloc Tryd.zeroValue3 rfl ?_
                  intro b16
                  refine R.stX (old := [.int .i64 0]) (l := [.int .i64 yl3]) (new := [.int .i64 yl3]) (et := 3) Tryd.sizeOf3 rfl rfl rfl (cells1 rfl) rfl (by show 0 + 1 ≤ 1; decide) rfl (all_one rfl) .hd ?_
                  refine TL.shut .hd ?_
                  intro Hb16_10 sb16_10 qb16_10
                  have hb16_10 : Hb16_10 b16 = some (.cells #[.int .i64 yl3] 3) := shut1 qb16_10
                  refine TL.nil (Post.thnN ?_)
                  refine T.seq ?_
                  refine T.region ?_
                  refine R.mvE rfl (by conv => lhs; whnf) ?_
                  refine R.mkf (cs := [_, _, _]) rfl rfl ?_
                  obtain ⟨r83, er83⟩ : ∃ r, r = (slices_ContainsFunc_int_m r28 ((fun z0 => windroselaw20_PlanCloses_1_m r24.1 r24.2 yl3 z0))) := ⟨_, rfl⟩
                  refine R.callv (v := .bool r83) rfl rfl rfl (by rw [er83]; exact slices_ContainsFunc_int_c _ _ r28 (fF28_0_0_5.mono (s33.trans (sF33_0_0_6.trans (sF33_0_1_7.trans (sF33_0_2_8.trans (sb9_9.trans (s_c1.trans (s_l2.trans (s_l3.trans sb16_10))))))))) _ (fun z0 => windroselaw20_PlanCloses_1_m r24.1 r24.2 yl3 z0) (fun H2 h2 z0 => windroselaw20_PlanCloses_1_c H2 (h2 _ _ ((s24.trans (sF24_1_0_1.trans (sb8_2.trans (sF24_0_0_3.trans (sb7_4.trans (s28.trans (sF28_0_0_5.trans (s33.trans (sF33_0_0_6.trans (sF33_0_1_7.trans (sF33_0_2_8.trans (sb9_9.trans (s_c1.trans (s_l2.trans (s_l3.trans sb16_10))))))))))))))) _ _ hG1)) b7 _ r24.1 ((fF24_0_0_3.mono (sb7_4.trans (s28.trans (sF28_0_0_5.trans (s33.trans (sF33_0_0_6.trans (sF33_0_1_7.trans (sF33_0_2_8.trans (sb9_9.trans (s_c1.trans (s_l2.trans (s_l3.trans sb16_10)))))))))))).mono h2) (h2 _ _ ((s28.trans (sF28_0_0_5.trans (s33.trans (sF33_0_0_6.trans (sF33_0_1_7.trans (sF33_0_2_8.trans (sb9_9.trans (s_c1.trans (s_l2.trans (s_l3.trans sb16_10)))))))))) _ _ hb7_4)) b8 _ r24.2 ((fF24_1_0_1.mono (sb8_2.trans (sF24_0_0_3.trans (sb7_4.trans (s28.trans (sF28_0_0_5.trans (s33.trans (sF33_0_0_6.trans (sF33_0_1_7.trans (sF33_0_2_8.trans (sb9_9.trans (s_c1.trans (s_l2.trans (s_l3.trans sb16_10)))))))))))))).mono h2) (h2 _ _ ((sF24_0_0_3.trans (sb7_4.trans (s28.trans (sF28_0_0_5.trans (s33.trans (sF33_0_0_6.trans (sF33_0_1_7.trans (sF33_0_2_8.trans (sb9_9.trans (s_c1.trans (s_l2.trans (s_l3.trans sb16_10)))))))))))) _ _ hb8_2)) b16 (yl3) (h2 _ _ hb16_10) z0 (by first | omega | (simp; done) | (simp; omega) | (simp at *; omega)) (by first | omega | (simp; done) | (simp; omega) | (simp at *; omega)))) ?_
                  refine R.asE rfl (by conv => lhs; whnf) ?_
                  refine TL.nil (Post.thnN ?_)
                  refine T.seq ?_
                  refine T.region ?_
                  refine R.mvE rfl (by conv => lhs; whnf) ?_
                  refine R.not rfl rfl ?_
                  refine TL.nil (Post.thnN ?_)
                  refine T.cond rfl (fun c85 => ?_) (fun c85 => ?_)
                  · refine T.set 85 (.bool true) (congrArg Value.bool c85) ?_
                    refine T.seq ?_
                    refine T.region ?_
                    refine R.asE rfl (by conv => lhs; whnf) ?_
                    refine TL.nil (Post.thnN ?_)
                    refine T.has Has.nil ?_
                    refine T.ret (Post.blkR (Post.thnR (Post.thnR (Post.blkR (Post.thnR ?_)))))
                    have hXl3 : windroselaw20_PlanCloses_l3 r24 r28 r33.1.1 () = .ret false := by subst er83; rw [← hQl3, drop_cons hyl3, windroselaw20_PlanCloses_l3]; rw [LR.seq_go, if_t c85]
                    have hM : windroselaw20_PlanCloses_m a0 a1 a2 = false := by subst er47; subst er33; subst er28; subst er24; rw [windroselaw20_PlanCloses_m, if_f c20, LR.seq_go, LR.seq_go, LR.seq_go, if_neg c37, LR.seq_go, hTc1, LR.seq_go, if_f c61, hEl2, LR.on_go, hXl3, LR.on_ret]
                    exact fin1L (v := .bool false) [] rfl rfl (List.Sublist.refl _) ⟨rfl, by first | rw [hM] | rfl⟩
                  · refine T.set 85 (.bool false) (congrArg Value.bool c85) ?_
                    refine T.skip (Post.blkN ?_)
                    refine id (Post.thnN ?_)
                    refine T.region ?_
                    refine R.addI rfl rfl rfl (by omega) ?_
                    refine R.mvE rfl (by conv => lhs; whnf) ?_
                    refine TL.nil (Post.thnN ?_)
                    exact ⟨kl3 + 1, (s_l3.trans sb16_10), ⟨(by omega), Has.nil, (by subst er83; rw [← hQl3, drop_cons hyl3, windroselaw20_PlanCloses_l3]; rw [LR.seq_go, if_f c85])⟩, by show r33.1.1.length - (kl3 + 1) < r33.1.1.length - kl3; omega, rfl, rfl, rfl, rfl, rfl, rfl, trivial⟩
                · refine T.exit (Post.thnE (Post.thnE (Post.blkX ?_)))
                  have hEl3 : windroselaw20_PlanCloses_l3 r24 r28 r33.1.1 () = .go () := (hQl3.symm.trans (by rw [show kl3 = r33.1.1.length by omega, List.drop_length, windroselaw20_PlanCloses_l3]))
                  refine id (Post.thnN ?_)
                  refine T.seq ?_
                  refine T.region ?_
                  refine R.ldH Tryd.isAgg59 rfl rfl ((s28.trans (sF28_0_0_5.trans (s33.trans (sF33_0_0_6.trans (sF33_0_1_7.trans (sF33_0_2_8.trans (sb9_9.trans (s_c1.trans (s_l2.trans s_l3))))))))) _ _ hb7_4) rfl ?_
                  refine R.ldH Tryd.isAgg60 rfl rfl ((sF24_0_0_3.trans (sb7_4.trans (s28.trans (sF28_0_0_5.trans (s33.trans (sF33_0_0_6.trans (sF33_0_1_7.trans (sF33_0_2_8.trans (sb9_9.trans (s_c1.trans (s_l2.trans s_l3))))))))))) _ _ hb8_2) rfl ?_
                  obtain ⟨r90, er90⟩ : ∃ r, r = (plan_Of_m r24.1 r24.2 []) := ⟨_, rfl⟩
                  refine TL.call [] rfl rfl rfl (plan_Of_c _ ((s24.trans (sF24_1_0_1.trans (sb8_2.trans (sF24_0_0_3.trans (sb7_4.trans (s28.trans (sF28_0_0_5.trans (s33.trans (sF33_0_0_6.trans (sF33_0_1_7.trans (sF33_0_2_8.trans (sb9_9.trans (s_c1.trans (s_l2.trans s_l3)))))))))))))) _ _ hG1) _ r24.1 (fF24_0_0_3.mono (sb7_4.trans (s28.trans (sF28_0_0_5.trans (s33.trans (sF33_0_0_6.trans (sF33_0_1_7.trans (sF33_0_2_8.trans (sb9_9.trans (s_c1.trans (s_l2.trans s_l3))))))))))) _ r24.2 (fF24_1_0_1.mono (sb8_2.trans (sF24_0_0_3.trans (sb7_4.trans (s28.trans (sF28_0_0_5.trans (s33.trans (sF33_0_0_6.trans (sF33_0_1_7.trans (sF33_0_2_8.trans (sb9_9.trans (s_c1.trans (s_l2.trans s_l3))))))))))))) _ [] RdS.nil (by first | omega | (simp; done) | (simp; omega) | (simp at *; omega)) (by first | omega | (simp; done) | (simp; omega) | (simp at *; omega)) (by first | omega | (simp; done) | (simp; omega) | (simp at *; omega))) ?_
                  intro v90 H90 L90 s90 q90
                  rw [← er90] at q90
                  obtain ⟨u90_0_0, u90_0_1, u90_0_2, c90_0_0, c90_0_1, c90_0_2, rfl, rfl, w90_0_0, w90_0_1, w90_0_2⟩ := q90
                  obtain ⟨A90_0_0, p90_0_0, rfl, m90_0_0, n90_0_0⟩ := OwnS.shape w90_0_0
                  obtain ⟨A90_0_1, p90_0_1, rfl, m90_0_1, n90_0_1⟩ := OwnS.shape w90_0_1
                  obtain ⟨A90_0_2, p90_0_2, rfl, m90_0_2, n90_0_2⟩ := OwnS.shape w90_0_2
                  have to90 := of_len _ _ _ _ er90 (by first | omega | (simp; done) | (simp; omega) | (simp at *; omega)) (by first | omega | (simp; done) | (simp; omega) | (simp at *; omega))
                  refine R.mvE rfl (by conv => lhs; whnf) ?_
                  refine R.ext rfl rfl rfl ?_
                  refine R.ext rfl rfl rfl ?_
                  refine R.alloc Tryd.zeroValue81 rfl ?_
                  intro b18
                  refine R.stX (old := [.slice none 0 0, .slice none 0 0, .slice none 0 0]) (l := [.slice A90_0_0 r90.1.1.length p90_0_0, .slice A90_0_1 r90.1.2.1.length p90_0_1, .slice A90_0_2 r90.1.2.2.length p90_0_2]) (new := [.slice A90_0_0 r90.1.1.length p90_0_0, .slice A90_0_1 r90.1.2.1.length p90_0_1, .slice A90_0_2 r90.1.2.2.length p90_0_2]) (et := 81) Tryd.sizeOf81 rfl rfl rfl rfl rfl (by show 0 + 3 ≤ 3; decide) rfl (all_one rfl) .hd ?_
                  refine R.asE rfl (by conv => lhs; whnf) ?_
                  refine TL.shut (.tl .hd) ?_
                  intro HF90_0_0_11 sF90_0_0_11 qF90_0_0_11
                  have fF90_0_0_11 := OwnS.read w90_0_0 sF90_0_0_11 qF90_0_0_11
                  refine TL.shut (.tl .hd) ?_
                  intro HF90_0_1_12 sF90_0_1_12 qF90_0_1_12
                  have fF90_0_1_12 := OwnS.read (OwnS.mono w90_0_1 sF90_0_0_11) sF90_0_1_12 qF90_0_1_12
                  refine TL.shut (.tl .hd) ?_
                  intro HF90_0_2_13 sF90_0_2_13 qF90_0_2_13
                  have fF90_0_2_13 := OwnS.read (OwnS.mono w90_0_2 (sF90_0_0_11.trans sF90_0_1_12)) sF90_0_2_13 qF90_0_2_13
                  refine TL.shut .hd ?_
                  intro Hb18_14 sb18_14 qb18_14
                  have hb18_14 : Hb18_14 b18 = some (.cells #[.slice A90_0_0 r90.1.1.length p90_0_0, .slice A90_0_1 r90.1.2.1.length p90_0_1, .slice A90_0_2 r90.1.2.2.length p90_0_2] 81) := shut1 qb18_14
                  refine TL.nil (Post.thnN ?_)
                  refine T.seq ?_
                  refine T.region ?_
                  refine R.mvE rfl (by conv => lhs; whnf) ?_
                  refine R.eql rfl rfl rfl ?_
                  refine R.mvE rfl (by conv => lhs; whnf) ?_
                  refine TL.gsplitD 95 rfl (fun g95 => ?_) (fun g95 => ?_)
                  · refine R.ldXH (cs := [.slice A90_0_0 r90.1.1.length p90_0_0, .slice A90_0_1 r90.1.2.1.length p90_0_1, .slice A90_0_2 r90.1.2.2.length p90_0_2]) (l := [.slice A90_0_0 r90.1.1.length p90_0_0, .slice A90_0_1 r90.1.2.1.length p90_0_1, .slice A90_0_2 r90.1.2.2.length p90_0_2]) Tryd.isAgg81 Tryd.sizeOf81 rfl rfl hb18_14 rfl rfl ?_
                    refine R.bld (cs := [.slice none 0 0, .slice none 0 0, .slice none 0 0]) rfl (fun _ => by kernel_rfl) ?_
                    obtain ⟨r98, er98⟩ : ∃ r, r = (plan_Same_m r90.1 ((([], [], []) : (List Int) × (List (Int × Int)) × (List (Int × Int))))) := ⟨_, rfl⟩
                    refine R.callv (v := .bool r98) rfl rfl rfl (by rw [er98]; exact plan_Same_c _ r90.1 _ (fF90_0_0_11.mono (sF90_0_1_12.trans (sF90_0_2_13.trans sb18_14))) _ (fF90_0_1_12.mono (sF90_0_2_13.trans sb18_14)) _ (fF90_0_2_13.mono sb18_14) ((([], [], []) : (List Int) × (List (Int × Int)) × (List (Int × Int)))) _ RdS.nil _ RdS.nil _ RdS.nil) ?_
                    refine R.pkTE rfl rfl (by conv => lhs; whnf) ?_
                    refine R.asE rfl (by conv => lhs; whnf) ?_
                    refine TL.nil (Post.thnN ?_)
                    refine T.has Has.nil ?_
                    refine T.ret ?_
                    have hM : windroselaw20_PlanCloses_m a0 a1 a2 = r98 := by subst er98; subst er90; subst er47; subst er33; subst er28; subst er24; rw [windroselaw20_PlanCloses_m, if_f c20, LR.seq_go, LR.seq_go, LR.seq_go, if_neg c37, LR.seq_go, hTc1, LR.seq_go, if_f c61, hEl2, LR.on_go, hEl3, LR.on_go, LR.seq_go, if_pos g95, LR.seq_go]
                    exact fin1L (v := .bool (r98)) [] rfl rfl (List.Sublist.refl _) ⟨rfl, by first | rw [hM] | rfl⟩
                  · refine TL.off rfl rfl rfl ?_
                    refine TL.off rfl rfl rfl ?_
                    refine TL.off rfl rfl rfl ?_
                    refine R.pkFE rfl rfl (by conv => lhs; whnf) ?_
                    refine R.asE rfl (by conv => lhs; whnf) ?_
                    refine TL.nil (Post.thnN ?_)
                    refine T.has Has.nil ?_
                    refine T.ret ?_
                    have hM : windroselaw20_PlanCloses_m a0 a1 a2 = false := by subst er90; subst er47; subst er33; subst er28; subst er24; rw [windroselaw20_PlanCloses_m, if_f c20, LR.seq_go, LR.seq_go, LR.seq_go, if_neg c37, LR.seq_go, hTc1, LR.seq_go, if_f c61, hEl2, LR.on_go, hEl3, LR.on_go, LR.seq_go, if_neg g95]
                    exact fin1L (v := .bool false) [] rfl rfl (List.Sublist.refl _) ⟨rfl, by first | rw [hM] | rfl⟩

end Go.SX

set_option linter.unusedVariables false
set_option linter.unusedSimpArgs false
namespace Go.SX
open Go
abbrev smL : List Rl := [(1, (true, true, 0, 1, 2)), (2, (true, false, 0, 0, 2)), (3, (false, false, 0, 2, 1))]
theorem small_1 : windroselaw20_small_m.1 = smL := by unfold windroselaw20_small_m; simp [LR.seq]
def pairI (r t : Int) : Int := (ident_Pair_m r t).1
abbrev smH : List Hd := [(5, pairI 1 4), (6, pairI 1 5), (7, pairI 2 5), (8, pairI 3 6)]
theorem small_2 : windroselaw20_small_m.2 = smH := by unfold windroselaw20_small_m; simp [LR.seq, windroselaw20_small_l1, pairI]; try decide
theorem sm_check : plan_Check_m smL smH = 0 := by kernel_rfl
theorem sm_dies : diesD smL smH [4] = [(4, []), (5, [(5, pairI 1 4)]), (6, [(5, pairI 1 4), (6, pairI 1 5)])] := by kernel_rfl
theorem sm_dies3 : diesD smL smH [3] = [(3, []), (8, [(8, pairI 3 6)])] := by kernel_rfl
end Go.SX

set_option linter.unusedVariables false
set_option linter.unusedSimpArgs false
namespace Go.SX
open Go
/-- What may be held of relations. -/
def HeldOk (l : List Rl) (h : Hd) : Prop := (trait_Find_m l (ident_Parts_m h.2).1).2 = true ∧ idxOk h.1 ∧ kindG h.2 = 3
def stepOk (held : List Hd) (k : Nat) (h : Hd) : Prop := (0 : Int) < (k : Int) → plan_compare_m (held.getD (((k : Int) - 1)).toNat (((0, 0) : Int × Int) : Int × Int)) h < 0
theorem check_l1 (l : List Rl) (held : List Hd) : ∀ (xs : List Hd) (k : Nat), (plan_Check_l1 l held xs k () = .go () ∧ ∀ (i : Nat) (h : Hd), xs[i]? = some h → HeldOk l h ∧ stepOk held (k + i) h) ∨ (plan_Check_l1 l held xs k () = .ret 300 ∧ ∃ (i : Nat) (h : Hd), xs[i]? = some h ∧ ¬ (HeldOk l h ∧ stepOk held (k + i) h))
  | [], k => .inl ⟨rfl, fun i h hi => by simp at hi⟩
  | y :: ys, k => by
    rw [plan_Check_l1, LR.seq_go, LR.seq_go]
    have hiff : (if (!(trait_Find_m l (ident_Parts_m y.2).1).2) = true then true else (if (!(plan_index_m y.1)) = true then true else (if ((kindG y.2) : Int) ≠ 3 then true else (if (0 : Int) < (k : Int) then ((decide ((0 : Int) ≤ (plan_compare_m (held.getD ((((k : Int) - 1)).toNat) (((0, 0) : Int × Int) : Int × Int)) y)))) else false)))) = false ↔ HeldOk l y ∧ stepOk held k y := by
      unfold HeldOk stepOk idxOk
      rw [or_f, or_f, or_f, and_f, Bool.not_eq_true', Bool.not_eq_true', decide_eq_false_iff_not, ← pindex_iff]
      constructor
      · rintro ⟨h1, h2, h3, h4⟩
        refine ⟨⟨by simpa using h1, by simpa using h2, by omega⟩, fun h5 => ?_⟩
        rcases h4 with h4 | h4
        · exact absurd h5 h4
        · omega
      · rintro ⟨⟨h1, h2, h3⟩, h4⟩
        refine ⟨by simpa using h1, by simpa using h2, by omega, ?_⟩
        by_cases h5 : (0 : Int) < (k : Int)
        · have := h4 h5; exact .inr (by omega)
        · exact .inl h5
    rw [LR.seq_go]
    cases hb : (if (!(trait_Find_m l (ident_Parts_m y.2).1).2) = true then true else (if (!(plan_index_m y.1)) = true then true else (if ((kindG y.2) : Int) ≠ 3 then true else (if (0 : Int) < (k : Int) then ((decide ((0 : Int) ≤ (plan_compare_m (held.getD ((((k : Int) - 1)).toNat) (((0, 0) : Int × Int) : Int × Int)) y)))) else false)))) with
    | true =>
      rw [if_pos rfl]
      refine .inr ⟨rfl, 0, y, rfl, fun h => ?_⟩
      have := hiff.2 (by simpa using h)
      rw [hb] at this; cases this
    | false =>
      rw [if_neg Bool.false_ne_true]
      have hy := hiff.1 hb
      rcases check_l1 l held ys (k + 1) with ⟨h1, h2⟩ | ⟨h1, i, h, h2, h3⟩
      · refine .inl ⟨h1, fun i h hi => ?_⟩
        cases i with
        | zero => simp at hi; subst hi; simpa using hy
        | succ i => have := h2 i h (by simpa using hi); rwa [show k + 1 + i = k + (i + 1) by omega] at this
      · exact .inr ⟨h1, i + 1, h, by simpa using h2, by rwa [show k + (i + 1) = k + 1 + i by omega]⟩
theorem pcheck_iff (l : List Rl) (held : List Hd) : (plan_Check_m l held = 0 ↔ RelOk l ∧ ∀ (i : Nat) (h : Hd), held[i]? = some h → HeldOk l h ∧ stepOk held i h) ∧ (RelOk l → plan_Check_m l held = 0 ∨ plan_Check_m l held = 300) ∧ (¬ RelOk l → plan_Check_m l held = 230) := by
  unfold plan_Check_m
  have ht := tcheck_iff l
  by_cases hr : RelOk l
  · rw [ht.1.2 hr, if_neg (fun k => k rfl)]
    rcases check_l1 l held held 0 with ⟨h1, h2⟩ | ⟨h1, i, h, h2, h3⟩
    · rw [h1, LR.on_go]
      exact ⟨⟨fun _ => ⟨hr, fun i h hi => by simpa using h2 i h hi⟩, fun _ => rfl⟩, fun _ => .inl rfl, fun k => absurd hr k⟩
    · rw [h1, LR.on_ret]
      exact ⟨⟨fun k => (by cases k), fun k => absurd (k.2 i h h2) (by simpa using h3)⟩, fun _ => .inr rfl, fun k => absurd hr k⟩
  · have h1 : trait_Check_m l ≠ 0 := fun k => hr (ht.1.1 k)
    rw [if_pos h1]
    exact ⟨⟨fun k => (by cases k), fun k => absurd k.1 hr⟩, fun k => absurd k hr, fun _ => rfl⟩
theorem pcheck_held {l : List Rl} {held : List Hd} (h : plan_Check_m l held = 0) {x : Hd} (hx : x ∈ held) : HeldOk l x := by
  obtain ⟨i, hi⟩ := List.mem_iff_getElem?.1 hx
  exact (((pcheck_iff l held).1.1 h).2 i x hi).1
theorem says_iff (l : List Rl) (D : List Dh) (h : Hd) (p : Int) : saysB l D h p = true ↔ ∃ n, (n, p) ∈ mentL l h ∧ n ∈ D.map Prod.fst := by
  unfold saysB deadB
  rw [List.any_eq_true]
  constructor
  · rintro ⟨m, h1, h2⟩
    rw [Bool.and_eq_true, decide_eq_true_eq, decide_eq_true_eq] at h2
    exact ⟨m.1, by rw [← h2.2]; exact h1, h2.1⟩
  · rintro ⟨n, h1, h2⟩
    exact ⟨(n, p), h1, by rw [Bool.and_eq_true, decide_eq_true_eq, decide_eq_true_eq]; exact ⟨h2, rfl⟩⟩
/-- Whoever holds what kills dies too. -/
theorem dies_closed {l : List Rl} {held : List Hd} {first : List Int} (hh : held.length ≤ 100) (hf : first.length ≤ 100) {n : Int} (hn : n ∈ (diesD l held first).map Prod.fst) {h : Hd} (hm : h ∈ held) (hk : (n, 1) ∈ mentL l h) : h.1 ∈ (diesD l held first).map Prod.fst := by
  obtain ⟨met, h1, h2⟩ := dies_law (l := l) hh hf
  obtain ⟨d, hd, rfl⟩ := List.mem_map.1 hn
  obtain ⟨j, hj⟩ := List.mem_iff_getElem?.1 hd
  refine h2.cl j d (List.getElem?_eq_some_iff.1 hj).1 hj h ?_
  rw [kill_eq, List.mem_filter]
  exact ⟨hm, decide_eq_true hk⟩
theorem dies_first {l : List Rl} {held : List Hd} {first : List Int} (hh : held.length ≤ 100) (hf : first.length ≤ 100) {n : Int} (hn : n ∈ first) : n ∈ (diesD l held first).map Prod.fst := by
  obtain ⟨met, h1, h2⟩ := dies_law (l := l) hh hf
  exact h2.all n hn
/-- Nobody else dies. -/
theorem dies_least {l : List Rl} {held : List Hd} {first : List Int} (hh : held.length ≤ 100) (hf : first.length ≤ 100) {P : Int → Prop} (h0 : ∀ n ∈ first, P n) (hs : ∀ n h, P n → h ∈ held → (n, 1) ∈ mentL l h → P h.1) : ∀ n ∈ (diesD l held first).map Prod.fst, P n := by
  obtain ⟨met, h1, h2⟩ := dies_law (l := l) hh hf
  have key : ∀ (k n : Nat) (d : Dh), n < k → (diesD l held first)[n]? = some d → P d.1 := by
    intro k
    induction k with
    | zero => intro n d hn; omega
    | succ k ih =>
      intro n d hn hd
      rcases h2.par n d hd with ⟨h3, _⟩ | ⟨m, p, h, h3, _, h4, h5, rfl⟩
      · exact h0 _ h3
      · rw [kill_eq, List.mem_filter] at h5
        exact hs p.1 h (ih m p (by omega) h4) h5.1 (of_decide_eq_true h5.2)
  intro n hn
  obtain ⟨d, hd, rfl⟩ := List.mem_map.1 hn
  obtain ⟨j, hj⟩ := List.mem_iff_getElem?.1 hd
  exact key (j + 1) j d (by omega) hj
theorem dies_idx {l : List Rl} {held : List Hd} {first : List Int} (hc : plan_Check_m l held = 0) (hh : held.length ≤ 100) (hf : first.length ≤ 100) (hi : ∀ n ∈ first, idxOk n) : ∀ n ∈ (diesD l held first).map Prod.fst, idxOk n :=
  dies_least hh hf hi (fun n h _ hm _ => (pcheck_held hc hm).2.1)
theorem less_int (x y : Int) : cmp_Less_int_m x y = decide (x < y) := by
  unfold cmp_Less_int_m cmp_isNaN_int_m
  simp
theorem isSorted_l1 {a : List Int} (hs : a.Pairwise (· ≤ ·)) : ∀ (m : Nat) (i : Int), i < (a.length : Int) → ∃ r, slices_IsSorted_int_l1 a m i = .go r
  | 0, i, h => ⟨_, rfl⟩
  | m + 1, i, h => by
    rw [slices_IsSorted_int_l1]
    by_cases c : (0 : Int) < i
    · rw [if_pos c, less_int, if_neg]
      · exact isSorted_l1 hs m (i - 1) (by omega)
      · rw [decide_eq_true_eq]
        have h1 : i.toNat < a.length := by omega
        have h2 : (i - 1).toNat < a.length := by omega
        rw [List.getD_eq_getElem?_getD, List.getD_eq_getElem?_getD, List.getElem?_eq_getElem h1, List.getElem?_eq_getElem h2]
        have := (List.pairwise_iff_getElem.1 hs) (i - 1).toNat i.toNat h2 h1 (by omega)
        simp only [Option.getD_some]; omega
    · rw [if_neg c]; exact ⟨i, rfl⟩
theorem isSorted_true {a : List Int} (hs : a.Pairwise (· ≤ ·)) : slices_IsSorted_int_m a = true := by
  unfold slices_IsSorted_int_m
  obtain ⟨r, e⟩ := isSorted_l1 hs (((a.length : Int) - 1).toNat + 1) ((a.length : Int) - 1) (by omega)
  rw [e, LR.on_go]
theorem sortI_self {a : List Int} (h : a.Pairwise (· ≤ ·)) : sortI a = a :=
  List.Perm.eq_of_pairwise (le := (· ≤ ·)) (fun x y _ _ h1 h2 => by omega) (sortI_sorted _) h (sortI_perm a)
theorem mem_sortI {a : List Int} {x : Int} : x ∈ sortI a ↔ x ∈ a := (sortI_perm a).mem_iff
theorem sm_why : plan_Why_m smL smH 4 6 = ([(5, pairI 1 4), (6, pairI 1 5)], 0) := by kernel_rfl
theorem sm_why7 : plan_Why_m smL smH 4 7 = ([], 4) := by kernel_rfl
theorem wakes20_true : windroselaw20_wakes_m = true := by
  have e0 : windroselaw20_small_m = (smL, smH) := Prod.ext small_1 small_2
  have e1 : plan_Of_m smL smH [4] = (([4, 5, 6], smH.drop 2, smH.drop 3), 0) := by
    rw [of_eq sm_check (fun n hn => by rw [List.mem_singleton.1 hn]; unfold idxOk; omega), sm_dies]
    have e2 : sortI (([(4, []), (5, [(5, pairI 1 4)]), (6, [(5, pairI 1 4), (6, pairI 1 5)])] : List Dh).map Prod.fst) = [4, 5, 6] := sortI_self (by simp)
    rw [e2]
    have e3 : smH.filter (goneB smL ([(4, []), (5, [(5, pairI 1 4)]), (6, [(5, pairI 1 4), (6, pairI 1 5)])] : List Dh)) = smH.drop 2 := by kernel_rfl
    have e4 : smH.filter (refB smL ([(4, []), (5, [(5, pairI 1 4)]), (6, [(5, pairI 1 4), (6, pairI 1 5)])] : List Dh)) = smH.drop 3 := by kernel_rfl
    rw [e3, e4]
  have e5 : (plan_Of_m smL smH [3]).1.1 = [3, 8] ∧ (plan_Of_m smL smH [3]).2 = 0 := by
    rw [of_eq sm_check (fun n hn => by rw [List.mem_singleton.1 hn]; unfold idxOk; omega), sm_dies3]
    exact ⟨sortI_self (by simp), rfl⟩
  unfold windroselaw20_wakes_m
  simp only [LR.seq]
  rw [e0, e1, e5.1, e5.2, sm_why, sm_why7]
  simp
end Go.SX

set_option linter.unusedVariables false
set_option linter.unusedSimpArgs false
namespace Go.SX
open Go
/-- what is wrong with a pair that mentions one who dies -/
def wrongB (is : Bool) (p : Int) (A F G : Prop) [Decidable A] [Decidable F] [Decidable G] : Bool := !is || (!decide A && (decide (p = 1) || decide (p = 2) && !decide F || decide (p = 0) && !decide G))
end Go.SX

set_option linter.unusedVariables false
set_option linter.unusedSimpArgs false
namespace Go.SX
open Go
theorem why_r3 (k : Int) : ∀ (D : List Dh) (s : List Hd × Int), (∃ d ∈ D, d.1 = k ∧ plan_Why_r3 k D s = .ret (d.2, 0)) ∨ ((∀ d ∈ D, d.1 ≠ k) ∧ plan_Why_r3 k D s = .go s)
  | [], s => .inr ⟨fun d h => (by cases h), rfl⟩
  | d :: D, s => by
    rw [plan_Why_r3]
    by_cases e : d.1 = k
    · rw [if_pos e]; exact .inl ⟨d, List.mem_cons_self .., e, rfl⟩
    · rw [if_neg e]
      rcases why_r3 k D s with ⟨d', h1, h2, h3⟩ | ⟨h1, h2⟩
      · exact .inl ⟨d', List.mem_cons_of_mem _ h1, h2, h3⟩
      · refine .inr ⟨fun x hx => ?_, h2⟩
        rcases List.mem_cons.1 hx with rfl | hx
        · exact e
        · exact h1 x hx
theorem why_ok {l : List Rl} {held : List Hd} {a b : Int} (hc : plan_Check_m l held = 0) (ha : idxOk a) (hb : idxOk b) : (∃ d ∈ diesD l held [a], d.1 = b ∧ plan_Why_m l held a b = (d.2, 0)) ∨ ((∀ d ∈ diesD l held [a], d.1 ≠ b) ∧ plan_Why_m l held a b = ([], 4)) := by
  unfold plan_Why_m
  rw [hc, if_neg (fun k => k rfl), (pindex_iff a).2 ha, (pindex_iff b).2 hb, Bool.not_true, if_neg Bool.false_ne_true, LR.seq_go, if_neg Bool.false_ne_true, LR.seq_go, LR.seq_go]
  rw [show plan_deaths_m (plan_killers_m l held) [a] = diesD l held [a] from rfl]
  rcases why_r3 b (diesD l held [a]) ([], 4) with ⟨d, h1, h2, h3⟩ | ⟨h1, h2⟩
  · exact .inl ⟨d, h1, h2, by rw [h3]; rfl⟩
  · exact .inr ⟨h1, by rw [h2]; rfl⟩
theorem dies_one {l : List Rl} {held : List Hd} {first : List Int} (hh : held.length ≤ 100) (hf : first.length ≤ 100) {n : Int} (hn : n ∈ (diesD l held first).map Prod.fst) : ∃ v ∈ first, n ∈ (diesD l held [v]).map Prod.fst :=
  dies_least (P := fun n => ∃ v ∈ first, n ∈ (diesD l held [v]).map Prod.fst) hh hf (fun n hn => ⟨n, hn, dies_first hh (by simp) (by simp)⟩) (fun n h ⟨v, h1, h2⟩ hm hk => ⟨v, h1, dies_closed hh (by simp) h2 hm hk⟩) n hn
theorem closes_1 {l : List Rl} {held : List Hd} (hc : plan_Check_m l held = 0) (hh : held.length ≤ 100) {v n : Int} (hv : idxOk v) (hn : idxOk n) (h : n ∈ (diesD l held [v]).map Prod.fst) : windroselaw20_PlanCloses_1_m l held n v = true := by
  unfold windroselaw20_PlanCloses_1_m
  obtain ⟨met, k1, k2⟩ := dies_law (l := l) (first := [v]) hh (by simp)
  rcases why_ok hc hv hn with ⟨d, h1, h2, h3⟩ | ⟨h1, h2⟩
  · rw [h3, LR.seq_go, if_pos rfl]
    by_cases e : v = n
    · rw [if_pos e]
    rw [if_neg e]
    obtain ⟨j, hj⟩ := List.mem_iff_getElem?.1 h1
    rcases k2.par j d hj with ⟨h4, h5⟩ | ⟨m, p, x, _, _, h4, h5, rfl⟩
    · rw [List.mem_singleton] at h4; exact absurd (h4.symm.trans h2) e
    · show (if (0 : Int) < ((p.2 ++ [x]).length : Int) then decide (((p.2 ++ [x]).getD (((p.2 ++ [x]).length : Int) - 1).toNat (((0, 0) : Int × Int) : Int × Int)).1 = n) else false) = true
      have hl : (p.2 ++ [x]).length = p.2.length + 1 := by simp
      rw [if_pos (by rw [hl]; omega), hl, show (((p.2.length + 1 : Nat) : Int) - 1).toNat = p.2.length by omega, List.getD_eq_getElem?_getD, List.getElem?_append_right (Nat.le_refl _), Nat.sub_self]
      exact decide_eq_true h2
  · obtain ⟨d, hd, e⟩ := List.mem_map.1 h
    exact absurd e (h1 d hd)
theorem closed_l1 (ds : List Int) (by_ : Int → List Hd) : ∀ (xs : List Int), ((∀ n ∈ xs, ∀ h ∈ by_ n, h.1 ∈ ds) ∧ plan_Closed_l1 ds by_ xs () = .go ()) ∨ ((∃ n ∈ xs, ∃ h ∈ by_ n, h.1 ∉ ds) ∧ plan_Closed_l1 ds by_ xs () = .ret (false, 0))
  | [] => .inl ⟨fun n h => (by cases h), rfl⟩
  | n :: xs => by
    rw [plan_Closed_l1, LR.seq_go, cf_Held]
    cases h : (by_ n).any (fun z0 => plan_Closed_1_m ds z0) with
    | true =>
      rw [if_pos rfl]
      obtain ⟨x, h1, h2⟩ := List.any_eq_true.1 h
      exact .inr ⟨⟨n, List.mem_cons_self .., x, h1, of_decide_eq_true h2⟩, rfl⟩
    | false =>
      rw [if_neg Bool.false_ne_true]
      rw [List.any_eq_false] at h
      have hn : ∀ x ∈ by_ n, x.1 ∈ ds := fun x hx => Classical.byContradiction (fun k => h x hx (decide_eq_true k))
      rcases closed_l1 ds by_ xs with ⟨h1, h2⟩ | ⟨⟨m, h1, h3⟩, h2⟩
      · refine .inl ⟨fun m hm => ?_, h2⟩
        rcases List.mem_cons.1 hm with rfl | hm
        · exact hn
        · exact h1 m hm
      · exact .inr ⟨⟨m, List.mem_cons_of_mem _ h1, h3⟩, h2⟩
theorem closed_dies {l : List Rl} {held : List Hd} {first : List Int} (hc : plan_Check_m l held = 0) (hh : held.length ≤ 100) (hf : first.length ≤ 100) : plan_Closed_m l held (sortI ((diesD l held first).map Prod.fst)) = (true, 0) := by
  unfold plan_Closed_m
  rw [hc, if_neg (fun k => k rfl), LR.seq_go]
  rcases closed_l1 (sortI ((diesD l held first).map Prod.fst)) (plan_killers_m l held) (sortI ((diesD l held first).map Prod.fst)) with ⟨_, h⟩ | ⟨⟨n, h1, x, h2, h3⟩, h⟩
  · rw [h, LR.on_go]
  · exfalso
    rw [kill_eq, List.mem_filter] at h2
    rw [mem_sortI] at h1 h3
    exact h3 (dies_closed hh hf h1 h2.1 (of_decide_eq_true h2.2))
theorem dies_nil (l : List Rl) (held : List Hd) (hh : held.length ≤ 100) : diesD l held [] = [] := by
  have h := dies_least (l := l) (held := held) (first := []) (P := fun _ => False) hh (by simp) (fun n hn => by cases hn) (fun n h k => k.elim)
  cases e : diesD l held [] with
  | nil => rfl
  | cons d D => exact (h d.1 (by rw [e]; simp)).elim
theorem gone_nil (l : List Rl) (h : Hd) : goneB l [] h = false ∧ refB l [] h = false := by
  have e : ∀ p, saysB l [] h p = false := fun p => by
    cases k : saysB l [] h p with
    | false => rfl
    | true => obtain ⟨n, _, h2⟩ := (says_iff l [] h p).1 k; simp at h2
  unfold goneB refB
  rw [e 2, e 0]; simp
theorem closes_l2 (r : ((List Int) × (List Hd) × (List Hd)) × Int) : ∀ (xs : List Int), (∀ n ∈ xs, n ∈ r.1.1) → windroselaw20_PlanCloses_l2 r xs () = .go ()
  | [], _ => rfl
  | n :: xs, h => by rw [windroselaw20_PlanCloses_l2, if_neg (fun k => k (h n (List.mem_cons_self ..)))]; exact closes_l2 r xs (fun m hm => h m (List.mem_cons_of_mem _ hm))
theorem closes_l3 (o : List Rl × List Hd) (first : List Int) : ∀ (xs : List Int), (∀ n ∈ xs, ∃ v ∈ first, windroselaw20_PlanCloses_1_m o.1 o.2 n v = true) → windroselaw20_PlanCloses_l3 o first xs () = .go ()
  | [], _ => rfl
  | n :: xs, h => by
    obtain ⟨v, h1, h2⟩ := h n (List.mem_cons_self ..)
    have e : first.any (fun z0 => windroselaw20_PlanCloses_1_m o.1 o.2 n z0) = true := List.any_eq_true.2 ⟨v, h1, h2⟩
    rw [windroselaw20_PlanCloses_l3, LR.seq_go, cf_int, e, Bool.not_true, if_neg Bool.false_ne_true]
    exact closes_l3 o first xs (fun m hm => h m (List.mem_cons_of_mem _ hm))
theorem same20 (a b : (List Int) × (List Hd) × (List Hd)) : plan_Same_m a b = decide (a = b) := by
  obtain ⟨a1, a2, a3⟩ := a
  obtain ⟨b1, b2, b3⟩ := b
  unfold plan_Same_m
  simp only [Prod.mk.injEq]
  by_cases h1 : a1 = b1
  · rw [if_pos h1]
    by_cases h2 : a2 = b2
    · rw [if_pos h2]; simp [h1, h2]
    · rw [if_neg h2]; simp [h2]
  · rw [if_neg h1]; simp [h1]
theorem planCloses_true (a0 : List Rl) (a1 : List Hd) (a2 : List Int) : windroselaw20_PlanCloses_m a0 a1 a2 = true := by
  unfold windroselaw20_PlanCloses_m
  rw [wakes20_true, Bool.not_true, if_neg Bool.false_ne_true, LR.seq_go, LR.seq_go, LR.seq_go]
  have ho : (windroselaw20_own_m a0 a1).2.length ≤ 16 := by simp only [windroselaw20_own_m, List.length_take]; omega
  have hw : (windroselaw20_few_m a2).length ≤ 6 := by simp only [windroselaw20_few_m, List.length_take]; omega
  generalize windroselaw20_own_m a0 a1 = o at *
  generalize windroselaw20_few_m a2 = first at *
  by_cases hc : plan_Check_m o.1 o.2 = 0
  rotate_left
  · rw [of_bad hc, if_pos hc]; rfl
  by_cases hi : ∀ n ∈ first, idxOk n
  rotate_left
  · rw [of_arg hc hi, if_pos (by decide)]; rfl
  have hidx := dies_idx hc (first := first) (by omega) (by omega) hi
  rw [of_eq hc hi]
  simp only
  rw [if_neg (fun k => k rfl), closed_dies hc (by omega) (by omega), LR.seq_go, isSorted_true (sortI_sorted _)]
  rw [show (if ((true, (0 : Int)) : Bool × Int).2 ≠ 0 then true else if (!((true, (0 : Int)) : Bool × Int).1) = true then true else !true) = false by decide, LR.seq_go, if_neg Bool.false_ne_true]
  rw [closes_l2 _ _ (fun n hn => mem_sortI.2 (dies_first (by omega) (by omega) hn)), LR.on_go]
  rw [closes_l3 _ _ _ (fun n hn => ?_), LR.on_go, of_eq hc (fun n hn => by cases hn), dies_nil _ _ (by omega), LR.seq_go, if_pos rfl, same20, LR.seq_go]
  · refine decide_eq_true ?_
    refine Prod.ext (by simp [sortI]) (Prod.ext ?_ ?_)
    · exact List.filter_eq_nil_iff.2 (fun h _ => by rw [(gone_nil o.1 h).1]; exact Bool.false_ne_true)
    · exact List.filter_eq_nil_iff.2 (fun h _ => by rw [(gone_nil o.1 h).2]; exact Bool.false_ne_true)
  · have hn' := mem_sortI.1 hn
    obtain ⟨v, h1, h2⟩ := dies_one (by omega) (by omega) hn'
    exact ⟨v, h1, closes_1 hc (by omega) (hi v h1) (hidx n hn') h2⟩
end Go.SX
