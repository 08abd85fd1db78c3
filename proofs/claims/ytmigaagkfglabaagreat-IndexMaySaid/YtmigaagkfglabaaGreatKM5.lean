/- 'IndexMay' answers true, whatever it is handed, and what it is handed reads behind it as it did. -/
import Derived.RangeFuncNested
import Derived.RangeFuncBound
import Derived.RangeFuncCalls
import Derived.RangeFuncLeaves
import Derived.Shelf.Abstract
import Derived.Laws.AppendOwn
import Derived.Laws.OwnMore
import Derived.KernelRfl
import Derived.IntWalk
import Derived.Laws.Append
import Derived.WideLaws
import Derived.Laws.Slices
import Derived.Laws.MakeOwn
import Derived.OrdersIn
import Derived.Laws.Cover3
import Derived.Test.YtmigaagkfglabaaGreatProg
import Derived.Laws.StructEq
import Derived.Shelf.Sort.Plain
import Derived.Sort.OwnSortedInts
import Derived.Shelf.Slices.In.SortNone
import Derived.Maps.RangeRun
import Derived.Lib.AppendZeros
import Derived.Sort.AssemblyPlain
import Derived.Shelf.Small.Bits
import Derived.Sort.Walk7a
import Derived.Laws.Bits64
import Derived.Laws.Bits64b
import Derived.Shelf.Spec.SlicesInsert
import Derived.Shelf.Spec.SlicesInsertGrow
import Derived.ProofKit
import Derived.ChangeSlices
import Derived.Carry
import Derived.Deep.Slices
import Derived.OpenShut
import Derived.Test.YtmigaagkfglabaaGreatRows
import Derived.Test.YtmigaagkfglabaaGreatKM4
set_option linter.unusedVariables false
set_option linter.unusedSimpArgs false
namespace Go.SX
open Go Go.Proofs

theorem getD_mem_or {α : Type} (l : List α) (i : Nat) (d : α) : l.getD i d ∈ l ∨ l.getD i d = d := by
  rw [List.getD_eq_getElem?_getD]
  cases h : l[i]? with
  | none => exact .inr rfl
  | some y => exact .inl (List.mem_of_getElem? h)
theorem bf_l1 (a : List (Int × List Int)) (x : Int × List Int) (c : Int × List Int → Int × List Int → Int) (hl : a.length ≤ 2000000) : ∀ (k m : Nat) (i j : Int), (j - i).toNat ≤ k → k < m → 0 ≤ i → i ≤ j → j ≤ (a.length : Int) → 0 ≤ (slices_BinarySearchFunc_Listed_l1 a x c m (i, j)).1 ∧ (slices_BinarySearchFunc_Listed_l1 a x c m (i, j)).1 ≤ (a.length : Int)
  | k, 0, i, j, _, h, _, _, _ => by omega
  | k, m + 1, i, j, h1, h2, h3, h4, h5 => by
    simp only [slices_BinarySearchFunc_Listed_l1]
    by_cases h : i < j
    · rw [if_pos h, midI h3 h (by omega)]
      cases k with
      | zero => omega
      | succ k =>
        split
        · exact bf_l1 a x c hl k m ((i + j) / 2 + 1) j (by omega) (by omega) (by omega) (by omega) h5
        · exact bf_l1 a x c hl k m i ((i + j) / 2) (by omega) (by omega) h3 (by omega) (by omega)
    · rw [if_neg h]; exact ⟨h3, by simp only; omega⟩
theorem bf_rng (a : List (Int × List Int)) (x : Int × List Int) (c : Int × List Int → Int × List Int → Int) (r : Int × Bool) (e : r = slices_BinarySearchFunc_Listed_m a x c) (hl : a.length ≤ 2000000) : 0 ≤ r.1 ∧ r.1 ≤ (a.length : Int) ∧ (r.2 = true → r.1 < (a.length : Int)) := by
  have h := bf_l1 a x c hl a.length (((a.length : Int) - 0).toNat + 1) 0 a.length (by omega) (by omega) (by omega) (by omega) (by omega)
  unfold slices_BinarySearchFunc_Listed_m at e
  simp only [LR.seq_go] at e
  rw [e]
  generalize slices_BinarySearchFunc_Listed_l1 a x c (((a.length : Int) - 0).toNat + 1) (0, (a.length : Int)) = q at h ⊢
  by_cases hq : q.1 < (a.length : Int)
  · rw [if_pos hq]
    exact ⟨h.1, h.2, fun _ => hq⟩
  · rw [if_neg hq]
    exact ⟨h.1, h.2, fun k => by cases k⟩
def cmp_Less_int_m (a0 : Int) (a1 : Int) : Bool :=
  if (cmp_isNaN_int_m a0) = true then (if (!(cmp_isNaN_int_m a1)) = true then true else ((decide (a0 < a1)))) else ((decide (a0 < a1)))
set_option maxHeartbeats 3200000 in
theorem cmp_Less_int_c (H : Heap) (a0 : Int) (a1 : Int) : Fv Tryz.prog (fnv 67) [.int .i64 a0, .int .i64 a1] H (.bool (cmp_Less_int_m a0 a1)) := by
  refine Fc.of_body (N := 17) Tryz.func67 rfl kA rfl rfl ?_
  intro w0
  refine T.seq ?_
  refine T.region ?_
  refine R.asE rfl cA ?_
  refine TL.nil (Post.thnN ?_)
  refine T.seq ?_
  refine T.region ?_
  refine R.mvE rfl cA ?_
  refine R.callv rfl rfl rfl (cmp_isNaN_int_c _ (a0)) ?_
  refine R.mvE rfl cA ?_
  refine TL.gsplit 7 rfl (fun g7 => ?_) (fun g7 => ?_)
  · refine R.mvE rfl cA ?_
    refine R.callv rfl rfl rfl (cmp_isNaN_int_c _ (a1)) ?_
    refine R.not rfl rfl ?_
    refine R.pkTE rfl rfl cA ?_
    refine R.mvE rfl cA ?_
    refine TL.gsplit 12 rfl (fun g12 => ?_) (fun g12 => ?_)
    · refine TL.off rfl rfl rfl ?_
      refine TL.off rfl rfl rfl ?_
      refine TL.off rfl rfl rfl ?_
      refine R.pkTE rfl rfl cA ?_
      refine R.asE rfl cA ?_
      refine TL.nil (Post.thnN ?_)
      refine T.has Has.nil ?_
      refine T.ret ?_
      have hM : cmp_Less_int_m a0 a1 = true := by rw [cmp_Less_int_m, if_t g7, if_t g12]
      exact fin1L (v := .bool true) [] rfl rfl (List.Sublist.refl _) ⟨rfl, by first | rw [hM] | rfl⟩
    refine R.mvE rfl cA ?_
    refine R.mvE rfl cA ?_
    refine R.lss rfl rfl rfl ?_
    refine R.pkFE rfl rfl cA ?_
    refine R.asE rfl cA ?_
    refine TL.nil (Post.thnN ?_)
    refine T.has Has.nil ?_
    refine T.ret ?_
    have hM : cmp_Less_int_m a0 a1 = (decide (a0 < a1)) := by rw [cmp_Less_int_m, if_t g7, if_f g12]
    exact fin1L (v := .bool (decide (a0 < a1))) [] rfl rfl (List.Sublist.refl _) ⟨rfl, by first | rw [hM] | rfl⟩
  refine TL.off rfl rfl rfl ?_
  refine TL.off rfl rfl rfl ?_
  refine TL.off rfl rfl rfl ?_
  refine R.pkFE rfl rfl cA ?_
  refine R.mvE rfl cA ?_
  refine R.mvE rfl cA ?_
  refine R.mvE rfl cA ?_
  refine R.lss rfl rfl rfl ?_
  refine R.pkFE rfl rfl cA ?_
  refine R.asE rfl cA ?_
  refine TL.nil (Post.thnN ?_)
  refine T.has Has.nil ?_
  refine T.ret ?_
  have hM : cmp_Less_int_m a0 a1 = (decide (a0 < a1)) := by rw [cmp_Less_int_m, if_f g7]
  exact fin1L (v := .bool (decide (a0 < a1))) [] rfl rfl (List.Sublist.refl _) ⟨rfl, by first | rw [hM] | rfl⟩
def slices_isNaN_int_m (a0 : Int) : Bool :=
  (decide (a0 ≠ a0))
set_option maxHeartbeats 3200000 in
theorem slices_isNaN_int_c (H : Heap) (a0 : Int) : Fv Tryz.prog (fnv 68) [.int .i64 a0] H (.bool (slices_isNaN_int_m a0)) := by
  refine Fc.of_body (N := 6) Tryz.func68 rfl kA rfl rfl ?_
  intro w0
  refine T.seq ?_
  refine T.region ?_
  refine R.asE rfl cA ?_
  refine TL.nil (Post.thnN ?_)
  refine T.seq ?_
  refine T.region ?_
  refine R.mvE rfl cA ?_
  refine R.mvE rfl cA ?_
  refine R.neq rfl rfl rfl ?_
  refine R.asE rfl cA ?_
  refine TL.nil (Post.thnN ?_)
  refine T.has Has.nil ?_
  refine T.ret ?_
  have hM : slices_isNaN_int_m a0 = (decide (a0 ≠ a0)) := by rw [slices_isNaN_int_m]
  exact fin1L (v := .bool (decide (a0 ≠ a0))) [] rfl rfl (List.Sublist.refl _) ⟨rfl, by first | rw [hM] | rfl⟩
def slices_BinarySearch_int_l1 (a0 : List Int) (a1 : Int) : Nat → (Int × Int) → Int × Int
  | 0, _ => default
  | ml1 + 1, sl1 => if sl1.1 < sl1.2 then (if (cmp_Less_int_m (a0.getD (((IntKind.i64.wrap (bshr .u64 (IntKind.u64.wrap (sl1.1 + sl1.2)) 1))).toNat) (0 : Int)) a1) = true then (slices_BinarySearch_int_l1 a0 a1 ml1 ((((IntKind.i64.wrap (bshr .u64 (IntKind.u64.wrap (sl1.1 + sl1.2)) 1)) + 1), sl1.2))) else (slices_BinarySearch_int_l1 a0 a1 ml1 ((sl1.1, (IntKind.i64.wrap (bshr .u64 (IntKind.u64.wrap (sl1.1 + sl1.2)) 1)))))) else ((sl1.1, sl1.2))
def slices_BinarySearch_int_m (a0 : List Int) (a1 : Int) : Int × Bool :=
  LR.seq (slices_BinarySearch_int_l1 a0 a1 ((((a0.length : Int)) - 0).toNat + 1) ((0, (a0.length : Int)))) (fun ol1 => if ol1.1 < (a0.length : Int) then (if (a0.getD ol1.1.toNat (0 : Int)) = a1 then ((ol1.1, true)) else (if (slices_isNaN_int_m (a0.getD ol1.1.toNat (0 : Int))) = true then ((ol1.1, (slices_isNaN_int_m a1))) else ((ol1.1, false)))) else ((ol1.1, false)))
set_option maxHeartbeats 3200000 in
theorem slices_BinarySearch_int_c (H : Heap) (va0 : Value) (a0 : List Int) (ha0 : RdS (intE .i64) H va0 a0) (a1 : Int) (hl : a0.length ≤ 2000000) : Fv Tryz.prog (fnv 37) [va0, .int .i64 a1] H (.tuple #[.int .i64 (slices_BinarySearch_int_m a0 a1).1, .bool (slices_BinarySearch_int_m a0 a1).2]) := by
  refine Fc.of_body (N := 54) Tryz.func37 rfl kA rfl rfl ?_
  intro w0
  obtain ⟨Aa0, ca0, rfl, hca0, hda0, ha0⟩ := ha0.shape
  refine T.seq ?_
  refine T.region ?_
  refine R.asE rfl cA ?_
  refine R.asE rfl cA ?_
  refine TL.nil (Post.thnN ?_)
  refine T.seq ?_
  refine T.region ?_
  refine R.mvE rfl cA ?_
  refine R.len Tryz.underlying25 rfl rfl ?_
  refine R.asE rfl cA ?_
  refine TL.nil (Post.thnN ?_)
  refine T.seq ?_
  refine T.region ?_
  refine R.mvE rfl cA ?_
  refine R.asE rfl cA ?_
  refine R.asE rfl cA ?_
  refine TL.nil (Post.thnN ?_)
  refine T.seq ?_
  refine T.block ?_
  refine T.loop (ι := Nat × Int × Int) (fun ⟨kl1, n7l1, n8l1⟩ H' L' ds' => (n8l1 - n7l1).toNat < kl1 ∧ Has L' [] ∧ 0 ≤ n7l1 ∧ n7l1 ≤ n8l1 ∧ n8l1 ≤ (a0.length : Int) ∧ slices_BinarySearch_int_l1 a0 a1 kl1 ((n7l1, n8l1)) = slices_BinarySearch_int_l1 a0 a1 ((((a0.length : Int)) - 0).toNat + 1) ((0, (a0.length : Int)))) (fun ⟨kl1, n7l1, n8l1⟩ => [(0, .slice Aa0 a0.length ca0), (1, .int .i64 a1), (6, .int .i64 (a0.length : Int)), (7, .int .i64 n7l1), (8, .int .i64 n8l1)]) (fun ⟨kl1, n7l1, n8l1⟩ => kl1) (((((a0.length : Int)) - 0).toNat + 1), 0, (a0.length : Int)) ?_ ?_ ?_
  · exact ⟨oA, Has.nil, bA, bA, bA, (by rfl)⟩
  · exact ⟨rfl, rfl, rfl, rfl, rfl, trivial⟩
  intro ⟨kl1, n7l1, n8l1⟩ σ_l1 H_l1 L_l1 ds_l1 s_l1 hI_l1
  obtain ⟨hkl1, hI_l1⟩ := hI_l1
  obtain ⟨ml1, rfl⟩ : ∃ m, kl1 = m + 1 := ⟨kl1 - 1, by omega⟩
  obtain ⟨hLl1, hBl1_0, hBl1_1, hBl1_2, hQl1⟩ := hI_l1
  refine T.has hLl1 ?_
  refine T.seq ?_
  refine T.seq ?_
  refine T.region ?_
  refine R.mvE rfl cA ?_
  refine R.mvE rfl cA ?_
  refine R.lss rfl rfl rfl ?_
  refine TL.nil (Post.thnN ?_)
  refine T.condD rfl (fun c15 => ?_) (fun c15 => ?_)
  · refine T.set 15 (.bool true) (congrArg Value.bool (decide_eq_true c15)) ?_
    refine T.skip (Post.thnN ?_)
    refine T.block ?_
    refine T.seq ?_
    refine T.region ?_
    refine R.mvE rfl cA ?_
    refine R.mvE rfl cA ?_
    refine R.addI rfl rfl rfl oA ?_
    refine R.conv Tryz.underlying3 Tryz.underlying86 rfl rfl ?_
    refine R.shr rfl rfl rfl oA ?_
    refine R.conv Tryz.underlying86 Tryz.underlying3 rfl rfl ?_
    refine R.asE rfl cA ?_
    refine TL.nil (Post.thnN ?_)
    refine T.seq ?_
    have hmid := midI (i := n7l1) (j := n8l1) oA oA oA
    refine T.region ?_
    refine R.mvE rfl cA ?_
    refine R.mvE rfl cA ?_
    have hl24 : ((IntKind.i64.wrap (bshr .u64 (IntKind.u64.wrap (n7l1 + n8l1)) 1))).toNat < a0.length := bA
    obtain ⟨y24, e24, h24⟩ : ∃ y, y = (a0.getD (((IntKind.i64.wrap (bshr .u64 (IntKind.u64.wrap (n7l1 + n8l1)) 1))).toNat) (0 : Int)) ∧ a0[((IntKind.i64.wrap (bshr .u64 (IntKind.u64.wrap (n7l1 + n8l1)) 1))).toNat]? = some y := ⟨_, rfl, getD_get (by first | exact hl24 | simpa using hl24 | (simp only [List.length_set]; omega) | omega | (rw [(sortI_perm _).length_eq]; exact hl24))⟩
    obtain ⟨b24, o24, i24, k24⟩ := RdS.elem (ha0.mono s_l1) h24
    obtain ⟨l24, g24, k24⟩ := k24
    obtain rfl : l24 = [.int .i64 y24] := g24
    refine R.ixp Tryz.underlying25 Tryz.sizeOf3 rfl rfl rfl bA i24 ?_
    refine R.ldC Tryz.isAgg3 rfl rfl (k24 0 _ rfl) ?_
    refine R.mvE rfl cA ?_
    refine R.callv rfl rfl rfl (cmp_Less_int_c _ (y24) (a1)) ?_
    refine TL.nil (Post.thnN ?_)
    refine T.cond rfl (fun c27 => ?_) (fun c27 => ?_)
    · refine T.set 27 (.bool true) (congrArg Value.bool c27) ?_
      refine T.region ?_
      refine R.mvE rfl cA ?_
      refine R.addI rfl rfl rfl oA ?_
      refine R.asE rfl cA ?_
      refine TL.nil (Post.blkN ?_)
      refine id (Post.thnN ?_)
      exact ⟨(ml1, ((IntKind.i64.wrap (bshr .u64 (IntKind.u64.wrap (n7l1 + n8l1)) 1)) + 1), n8l1), s_l1, ⟨(by first | omega | (simp; omega) | (simp at *; omega)), Has.nil, bA, bA, bA, (by subst e24; rw [← hQl1, slices_BinarySearch_int_l1]; rw [if_pos c15, if_t c27])⟩, by show ml1 < ml1 + 1; omega, rfl, rfl, rfl, rfl, rfl, trivial⟩
    refine T.set 27 (.bool false) (congrArg Value.bool c27) ?_
    refine T.region ?_
    refine R.mvE rfl cA ?_
    refine R.asE rfl cA ?_
    refine TL.nil (Post.blkN ?_)
    refine id (Post.thnN ?_)
    exact ⟨(ml1, n7l1, (IntKind.i64.wrap (bshr .u64 (IntKind.u64.wrap (n7l1 + n8l1)) 1))), s_l1, ⟨(by first | omega | (simp; omega) | (simp at *; omega)), Has.nil, bA, bA, bA, (by subst e24; rw [← hQl1, slices_BinarySearch_int_l1]; rw [if_pos c15, if_f c27])⟩, by show ml1 < ml1 + 1; omega, rfl, rfl, rfl, rfl, rfl, trivial⟩
  refine T.set 15 (.bool false) (congrArg Value.bool (decide_eq_false c15)) ?_
  refine T.exit (Post.thnE (Post.thnE (Post.blkX ?_)))
  have hEl1 : slices_BinarySearch_int_l1 a0 a1 ((((a0.length : Int)) - 0).toNat + 1) ((0, (a0.length : Int))) = (n7l1, n8l1) := (by rw [← hQl1, slices_BinarySearch_int_l1]; rw [if_neg c15])
  refine id (Post.thnN ?_)
  refine T.seq ?_
  refine T.region ?_
  refine R.mvE rfl cA ?_
  refine R.mvE rfl cA ?_
  refine R.mvE rfl cA ?_
  refine R.lss rfl rfl rfl ?_
  refine R.mvE rfl cA ?_
  refine TL.gsplitD 35 rfl (fun g35 => ?_) (fun g35 => ?_)
  · refine R.mvE rfl cA ?_
    refine R.mvE rfl cA ?_
    have hl38 : n7l1.toNat < a0.length := bA
    obtain ⟨y38, e38, h38⟩ : ∃ y, y = (a0.getD n7l1.toNat (0 : Int)) ∧ a0[n7l1.toNat]? = some y := ⟨_, rfl, getD_get (by first | exact hl38 | simpa using hl38 | (simp only [List.length_set]; omega) | omega | (rw [(sortI_perm _).length_eq]; exact hl38))⟩
    obtain ⟨b38, o38, i38, k38⟩ := RdS.elem (ha0.mono s_l1) h38
    obtain ⟨l38, g38, k38⟩ := k38
    obtain rfl : l38 = [.int .i64 y38] := g38
    refine R.ixp Tryz.underlying25 Tryz.sizeOf3 rfl rfl rfl bA i38 ?_
    refine R.ldC Tryz.isAgg3 rfl rfl (k38 0 _ rfl) ?_
    refine R.mvE rfl cA ?_
    refine R.eql rfl rfl rfl ?_
    refine R.mvE rfl cA ?_
    refine TL.gsplitD 42 rfl (fun g42 => ?_) (fun g42 => ?_)
    · refine TL.off rfl rfl rfl ?_
      refine TL.off rfl rfl rfl ?_
      refine TL.off rfl rfl rfl ?_
      refine TL.off rfl rfl rfl ?_
      refine TL.off rfl rfl rfl ?_
      refine TL.off rfl rfl rfl ?_
      refine TL.offU rfl rfl ?_
      refine TL.offU rfl rfl ?_
      refine TL.off rfl rfl rfl ?_
      refine R.pkTE rfl rfl cA ?_
      refine R.pkTE rfl rfl cA ?_
      refine R.asE rfl cA ?_
      refine R.asE rfl cA ?_
      refine TL.nil (Post.thnN ?_)
      refine T.has Has.nil ?_
      refine T.ret ?_
      have hM : slices_BinarySearch_int_m a0 a1 = (n7l1, true) := by subst e38; rw [slices_BinarySearch_int_m, hEl1, LR.seq_go, if_pos g35, if_pos g42]
      exact fin2L (v := .int .i64 n7l1) (v' := .bool true) [] rfl rfl rfl (List.Sublist.refl _) ⟨rfl, by first | rw [hM] | rfl⟩
    refine R.mvE rfl cA ?_
    refine R.mvE rfl cA ?_
    have hl45 : n7l1.toNat < a0.length := bA
    obtain ⟨y45, e45, h45⟩ : ∃ y, y = (a0.getD n7l1.toNat (0 : Int)) ∧ a0[n7l1.toNat]? = some y := ⟨_, rfl, getD_get (by first | exact hl45 | simpa using hl45 | (simp only [List.length_set]; omega) | omega | (rw [(sortI_perm _).length_eq]; exact hl45))⟩
    obtain ⟨b45, o45, i45, k45⟩ := RdS.elem (ha0.mono s_l1) h45
    obtain ⟨l45, g45, k45⟩ := k45
    obtain rfl : l45 = [.int .i64 y45] := g45
    refine R.ixp Tryz.underlying25 Tryz.sizeOf3 rfl rfl rfl bA i45 ?_
    refine R.ldC Tryz.isAgg3 rfl rfl (k45 0 _ rfl) ?_
    refine R.callv rfl rfl rfl (slices_isNaN_int_c _ (y45)) ?_
    refine R.mvE rfl cA ?_
    refine TL.gsplit 48 rfl (fun g48 => ?_) (fun g48 => ?_)
    · refine R.mvE rfl cA ?_
      refine R.callv rfl rfl rfl (slices_isNaN_int_c _ (a1)) ?_
      refine R.pkTE rfl rfl cA ?_
      refine R.pkFE rfl rfl cA ?_
      refine R.pkTE rfl rfl cA ?_
      refine R.asE rfl cA ?_
      refine R.asE rfl cA ?_
      refine TL.nil (Post.thnN ?_)
      refine T.has Has.nil ?_
      refine T.ret ?_
      have hM : slices_BinarySearch_int_m a0 a1 = (n7l1, (slices_isNaN_int_m a1)) := by subst e45; subst e38; rw [slices_BinarySearch_int_m, hEl1, LR.seq_go, if_pos g35, if_neg g42, if_t g48]
      exact fin2L (v := .int .i64 n7l1) (v' := .bool ((slices_isNaN_int_m a1))) [] rfl rfl rfl (List.Sublist.refl _) ⟨rfl, by first | rw [hM] | rfl⟩
    refine TL.off rfl rfl rfl ?_
    refine TL.off rfl rfl rfl ?_
    refine R.pkFE rfl rfl cA ?_
    refine R.pkFE rfl rfl cA ?_
    refine R.pkTE rfl rfl cA ?_
    refine R.asE rfl cA ?_
    refine R.asE rfl cA ?_
    refine TL.nil (Post.thnN ?_)
    refine T.has Has.nil ?_
    refine T.ret ?_
    have hM : slices_BinarySearch_int_m a0 a1 = (n7l1, false) := by subst e45; subst e38; rw [slices_BinarySearch_int_m, hEl1, LR.seq_go, if_pos g35, if_neg g42, if_f g48]
    exact fin2L (v := .int .i64 n7l1) (v' := .bool false) [] rfl rfl rfl (List.Sublist.refl _) ⟨rfl, by first | rw [hM] | rfl⟩
  refine TL.off rfl rfl rfl ?_
  refine TL.off rfl rfl rfl ?_
  refine TL.off rfl rfl rfl ?_
  refine TL.off rfl rfl rfl ?_
  refine TL.off rfl rfl rfl ?_
  refine TL.off rfl rfl rfl ?_
  refine TL.off rfl rfl rfl ?_
  refine TL.offU rfl rfl ?_
  refine TL.offU rfl rfl ?_
  refine TL.offU rfl rfl ?_
  refine TL.offU rfl rfl ?_
  refine TL.offU rfl rfl ?_
  refine TL.offU rfl rfl ?_
  refine TL.offU rfl rfl ?_
  refine TL.offU rfl rfl ?_
  refine TL.offU rfl rfl ?_
  refine TL.off rfl rfl rfl ?_
  refine R.pkFE rfl rfl cA ?_
  refine R.asE rfl cA ?_
  refine R.asE rfl cA ?_
  refine TL.nil (Post.thnN ?_)
  refine T.has Has.nil ?_
  refine T.ret ?_
  have hM : slices_BinarySearch_int_m a0 a1 = (n7l1, false) := by rw [slices_BinarySearch_int_m, hEl1, LR.seq_go, if_neg g35]
  exact fin2L (v := .int .i64 n7l1) (v' := .bool false) [] rfl rfl rfl (List.Sublist.refl _) ⟨rfl, by first | rw [hM] | rfl⟩
theorem bsi_l1 (a : List Int) (x : Int) (hl : a.length ≤ 2000000) : ∀ (k m : Nat) (i j : Int), (j - i).toNat ≤ k → k < m → 0 ≤ i → i ≤ j → j ≤ (a.length : Int) → 0 ≤ (slices_BinarySearch_int_l1 a x m (i, j)).1 ∧ (slices_BinarySearch_int_l1 a x m (i, j)).1 ≤ (a.length : Int)
  | k, 0, i, j, _, h, _, _, _ => by omega
  | k, m + 1, i, j, h1, h2, h3, h4, h5 => by
    simp only [slices_BinarySearch_int_l1, LR.seq_go]
    by_cases h : i < j
    · rw [if_pos h, midI h3 h (by omega)]
      cases k with
      | zero => omega
      | succ k =>
        split
        · exact bsi_l1 a x hl k m ((i + j) / 2 + 1) j (by omega) (by omega) (by omega) (by omega) h5
        · exact bsi_l1 a x hl k m i ((i + j) / 2) (by omega) (by omega) h3 (by omega) (by omega)
    · rw [if_neg h]; exact ⟨h3, by simp only; omega⟩
theorem bsi_rng (a : List Int) (x : Int) (r : Int × Bool) (e : r = slices_BinarySearch_int_m a x) (hl : a.length ≤ 2000000) : 0 ≤ r.1 ∧ r.1 ≤ (a.length : Int) ∧ (r.2 = true → r.1 < (a.length : Int)) := by
  have h := bsi_l1 a x hl a.length (((a.length : Int) - 0).toNat + 1) 0 a.length (by omega) (by omega) (by omega) (by omega) (by omega)
  unfold slices_BinarySearch_int_m at e
  simp only [LR.seq_go] at e
  rw [e]
  generalize slices_BinarySearch_int_l1 a x (((a.length : Int) - 0).toNat + 1) (0, (a.length : Int)) = q at h ⊢
  by_cases hq : q.1 < (a.length : Int)
  · rw [if_pos hq]
    split
    · exact ⟨h.1, h.2, fun _ => hq⟩
    · split
      · exact ⟨h.1, h.2, fun _ => hq⟩
      · exact ⟨h.1, h.2, fun _ => hq⟩
  · rw [if_neg hq]
    exact ⟨h.1, h.2, fun k => by cases k⟩
def index_Find_m (a0 : (List (Int × (List Int)))) (a1 : Int) : (List Int) :=
  if ((index_Check_m a0) : Int) ≠ 0 then [] else (LR.seq (slices_BinarySearchFunc_Listed_m a0 (((a1, []) : Int × (List Int))) ((fun z0 z1 => index_compare_m z0 z1))) (fun r15 => if (!r15.2) = true then [] else (a0.getD r15.1.toNat (((0, []) : Int × (List Int)) : Int × (List Int))).2))
set_option maxHeartbeats 3200000 in
theorem index_Find_c (H : Heap) (a0 : (List (Int × (List Int)))) (va0_0 : Value) (ha0_0 : RdS listedE H va0_0 a0) (a1 : Int) (hn : a0.length ≤ 1000) (hr : ∀ r ∈ a0, r.2.length ≤ 1000) : Fc Tryz.prog (fnv 24) [.agg #[va0_0], .int .u64 a1] H [] (fun v' H' L' => ∃ u0_0 c0_0, v' = u0_0 ∧ L' = [c0_0] ∧ OwnS (intE .i64) 3 H' u0_0 (index_Find_m a0 a1) c0_0) := by
  refine Fc.of_body (N := 27) Tryz.func24 rfl kA rfl rfl ?_
  intro w0
  obtain ⟨Aa0_0, ca0_0, rfl, hca0_0, hda0_0, ha0_0⟩ := ha0_0.shape
  refine T.seq ?_
  refine T.region ?_
  refine R.box rfl cA ?_
  intro b2
  refine R.asE rfl cA ?_
  refine TL.shut .hd ?_
  intro Hb2_1 sb2_1 qb2_1
  have hb2_1 : Hb2_1 b2 = some (.cells #[.slice Aa0_0 a0.length ca0_0] 24) := shut1 qb2_1
  refine TL.nil (Post.thnN ?_)
  refine T.seq ?_
  refine T.seq ?_
  refine T.region ?_
  refine R.ldXH (cs := [.slice Aa0_0 a0.length ca0_0]) (l := [.slice Aa0_0 a0.length ca0_0]) Tryz.isAgg24 Tryz.sizeOf24 rfl rfl hb2_1 rfl rfl ?_
  refine R.callv rfl rfl rfl (index_Check_c _ a0 _ (ha0_0.mono sb2_1) (by first | omega | assumption | (simp; done) | (simp; omega) | (simp at *; omega)) (by first | assumption | exact rows_le (by assumption) oA | (intro r h; simp at h; done))) ?_
  refine R.neq rfl rfl rfl ?_
  refine TL.nil (Post.thnN ?_)
  refine T.condD rfl (fun c9 => ?_) (fun c9 => ?_)
  · refine T.set 9 (.bool true) (congrArg Value.bool (decide_eq_true c9)) ?_
    refine T.seq ?_
    refine T.region ?_
    refine R.asE rfl cA ?_
    refine TL.nil (Post.thnN ?_)
    refine T.has (Has.none Has.nil) ?_
    refine T.ret (Post.thnR ?_)
    have hM : index_Find_m a0 a1 = [] := by rw [index_Find_m, if_pos c9]
    exact fin1L (v := .slice none 0 0) [[]] rfl rfl (List.Sublist.refl _) ⟨.slice none 0 0, [], by first | rw [hM] | rfl, rfl, by rw [hM]; exact OwnS.nil⟩
  refine T.set 9 (.bool false) (congrArg Value.bool (decide_eq_false c9)) ?_
  refine T.skip (Post.thnN ?_)
  refine T.seq ?_
  refine T.region ?_
  refine R.fldA Tryz.underlying24 rfl Tryz.sizeOf22 (by decide) rfl rfl ?_
  refine R.ldH Tryz.isAgg22 rfl rfl hb2_1 rfl ?_
  refine R.mvE rfl cA ?_
  refine R.bld (cs := [.int .u64 a1, .slice none 0 0]) rfl (fun _ => by kernel_rfl) ?_
  obtain ⟨r15, er15⟩ : ∃ r, r = (slices_BinarySearchFunc_Listed_m a0 (((a1, []) : Int × (List Int))) ((fun z0 z1 => index_compare_m z0 z1))) := ⟨_, rfl⟩
  refine R.callv (v := .tuple #[.int .i64 r15.1, .bool r15.2]) rfl rfl rfl (by rw [er15]; exact slices_BinarySearchFunc_Listed_c _ _ a0 (ha0_0.mono sb2_1) (((a1, []) : Int × (List Int))) _ RdS.nil _ (fun z0 z1 => index_compare_m z0 z1) (fun H2 h2 z0 vz0_1 hz0_1 z1 vz1_1 hz1_1 => index_compare_c H2 z0 vz0_1 hz0_1 z1 vz1_1 hz1_1) rfl bA) ?_
  have tb15 := bf_rng _ _ _ _ er15 (by first | omega | simp)
  refine R.mvE rfl cA ?_
  refine R.ext rfl rfl rfl ?_
  refine R.ext rfl rfl rfl ?_
  refine R.asE rfl cA ?_
  refine R.asE rfl cA ?_
  refine TL.nil (Post.thnN ?_)
  refine T.seq ?_
  refine T.seq ?_
  refine T.region ?_
  refine R.mvE rfl cA ?_
  refine R.not rfl rfl ?_
  refine TL.nil (Post.thnN ?_)
  refine T.cond rfl (fun c19 => ?_) (fun c19 => ?_)
  · refine T.set 19 (.bool true) (congrArg Value.bool c19) ?_
    refine T.seq ?_
    refine T.region ?_
    refine R.asE rfl cA ?_
    refine TL.nil (Post.thnN ?_)
    refine T.has (Has.none Has.nil) ?_
    refine T.ret (Post.thnR ?_)
    have hM : index_Find_m a0 a1 = [] := by subst er15; rw [index_Find_m, if_neg c9, LR.seq_go, if_t c19]
    exact fin1L (v := .slice none 0 0) [[]] rfl rfl (List.Sublist.refl _) ⟨.slice none 0 0, [], by first | rw [hM] | rfl, rfl, by rw [hM]; exact OwnS.nil⟩
  refine T.set 19 (.bool false) (congrArg Value.bool c19) ?_
  refine T.skip (Post.thnN ?_)
  refine T.seq ?_
  have tq := tb15.2.2 (by simpa using c19)
  refine T.region ?_
  refine R.fldA Tryz.underlying24 rfl Tryz.sizeOf22 (by decide) rfl rfl ?_
  refine R.ldH Tryz.isAgg22 rfl rfl hb2_1 rfl ?_
  refine R.mvE rfl cA ?_
  have hl23 : r15.1.toNat < a0.length := bA
  obtain ⟨y23, e23, h23⟩ : ∃ y, y = (a0.getD r15.1.toNat (((0, []) : Int × (List Int)) : Int × (List Int))) ∧ a0[r15.1.toNat]? = some y := ⟨_, rfl, getD_get (by first | exact hl23 | simpa using hl23 | (simp only [List.length_set]; omega) | omega | (rw [(sortI_perm _).length_eq]; exact hl23))⟩
  obtain ⟨b23, o23, i23, k23⟩ := RdS.elem (ha0_0.mono sb2_1) h23
  obtain ⟨l23, g23, k23⟩ := k23
  obtain ⟨z23_1, rfl, r23_1⟩ := g23
  obtain ⟨A23_1, p23_1, rfl, m23_1, n23_1, r23_1⟩ := r23_1.shape
  have tr23 := hr y23 (List.mem_of_getElem? h23)
  refine R.ixp Tryz.underlying22 Tryz.sizeOf45 rfl rfl rfl bA i23 ?_
  refine R.fldA Tryz.underlying45 rfl Tryz.sizeOf25 (by decide) rfl rfl ?_
  refine R.ldC Tryz.isAgg25 rfl rfl (k23 1 _ rfl) ?_
  refine TL.call [] rfl rfl rfl (clone25_c _ _ y23.2 r23_1 bA) ?_
  intro v26 H26 L26 s26 q26
  obtain ⟨c26, rfl, w26⟩ := q26
  obtain ⟨x26, e26⟩ : ∃ x, x = y23.2 := ⟨_, rfl⟩
  rw [← e26] at w26
  obtain ⟨A26, p26, rfl, m26, n26⟩ := OwnS.shape w26
  have t26 : x26.length = y23.2.length := by rw [e26]
  refine R.asE rfl cA ?_
  refine TL.nil (Post.thnN ?_)
  refine T.has (Has.cons .hd Has.nil) ?_
  refine T.ret ?_
  have hM : index_Find_m a0 a1 = x26 := by subst e26; subst e23; subst er15; rw [index_Find_m, if_neg c9, LR.seq_go, if_f c19]
  exact fin1L (v := .slice A26 x26.length p26) [c26] rfl rfl (List.Sublist.refl _) ⟨.slice A26 x26.length p26, c26, by first | rw [hM] | rfl, rfl, by rw [hM]; exact w26⟩
def index_Type_m (a0 : (List (Int × (List Int)))) (a1 : Int) : (List Int) :=
  if ((index_Check_m a0) : Int) ≠ 0 then [] else (LR.seq (index_in_m a0 a1) (fun r10 => LR.seq (index_bare_m r10) (fun r11 => r11)))
set_option maxHeartbeats 3200000 in
theorem index_Type_c (H : Heap) (a0 : (List (Int × (List Int)))) (va0_0 : Value) (ha0_0 : RdS listedE H va0_0 a0) (a1 : Int) (hn : a0.length ≤ 1000) (hr : ∀ r ∈ a0, r.2.length ≤ 1000) : Fc Tryz.prog (fnv 25) [.agg #[va0_0], .int .i64 a1] H [] (fun v' H' L' => ∃ u0_0 c0_0, v' = u0_0 ∧ L' = [c0_0] ∧ OwnS (intE .u64) 43 H' u0_0 (index_Type_m a0 a1) c0_0) := by
  refine Fc.of_body (N := 12) Tryz.func25 rfl kA rfl rfl ?_
  intro w0
  obtain ⟨Aa0_0, ca0_0, rfl, hca0_0, hda0_0, ha0_0⟩ := ha0_0.shape
  refine T.seq ?_
  refine T.region ?_
  refine R.box rfl cA ?_
  intro b2
  refine R.asE rfl cA ?_
  refine TL.shut .hd ?_
  intro Hb2_1 sb2_1 qb2_1
  have hb2_1 : Hb2_1 b2 = some (.cells #[.slice Aa0_0 a0.length ca0_0] 24) := shut1 qb2_1
  refine TL.nil (Post.thnN ?_)
  refine T.seq ?_
  refine T.seq ?_
  refine T.region ?_
  refine R.ldXH (cs := [.slice Aa0_0 a0.length ca0_0]) (l := [.slice Aa0_0 a0.length ca0_0]) Tryz.isAgg24 Tryz.sizeOf24 rfl rfl hb2_1 rfl rfl ?_
  refine R.callv rfl rfl rfl (index_Check_c _ a0 _ (ha0_0.mono sb2_1) (by first | omega | assumption | (simp; done) | (simp; omega) | (simp at *; omega)) (by first | assumption | exact rows_le (by assumption) oA | (intro r h; simp at h; done))) ?_
  refine R.neq rfl rfl rfl ?_
  refine TL.nil (Post.thnN ?_)
  refine T.condD rfl (fun c7 => ?_) (fun c7 => ?_)
  · refine T.set 7 (.bool true) (congrArg Value.bool (decide_eq_true c7)) ?_
    refine T.seq ?_
    refine T.region ?_
    refine R.asE rfl cA ?_
    refine TL.nil (Post.thnN ?_)
    refine T.has (Has.none Has.nil) ?_
    refine T.ret (Post.thnR ?_)
    have hM : index_Type_m a0 a1 = [] := by rw [index_Type_m, if_pos c7]
    exact fin1L (v := .slice none 0 0) [[]] rfl rfl (List.Sublist.refl _) ⟨.slice none 0 0, [], by first | rw [hM] | rfl, rfl, by rw [hM]; exact OwnS.nil⟩
  refine T.set 7 (.bool false) (congrArg Value.bool (decide_eq_false c7)) ?_
  refine T.skip (Post.thnN ?_)
  refine T.seq ?_
  refine T.region ?_
  refine R.ldXH (cs := [.slice Aa0_0 a0.length ca0_0]) (l := [.slice Aa0_0 a0.length ca0_0]) Tryz.isAgg24 Tryz.sizeOf24 rfl rfl hb2_1 rfl rfl ?_
  refine R.mvE rfl cA ?_
  obtain ⟨r10, er10⟩ : ∃ r, r = (index_in_m a0 a1) := ⟨_, rfl⟩
  refine TL.call [] rfl rfl rfl (index_in_c _ a0 _ (ha0_0.mono sb2_1) (a1) bA) ?_
  intro v10 H10 L10 s10 q10
  rw [← er10] at q10
  obtain ⟨u10_0_0, c10_0_0, rfl, rfl, w10_0_0⟩ := q10
  obtain ⟨A10_0_0, p10_0_0, rfl, m10_0_0, n10_0_0⟩ := OwnS.shape w10_0_0
  have ti10 := in_len _ _ _ er10
  refine TL.shut .hd ?_
  intro HF10_0_0_2 sF10_0_0_2 qF10_0_0_2
  have fF10_0_0_2 := OwnS.read w10_0_0 sF10_0_0_2 qF10_0_0_2
  obtain ⟨r11, er11⟩ : ∃ r, r = (index_bare_m r10) := ⟨_, rfl⟩
  refine TL.call [] rfl rfl rfl (index_bare_c _ _ r10 fF10_0_0_2 bA) ?_
  intro v11 H11 L11 s11 q11
  rw [← er11] at q11
  obtain ⟨u11_0_0, c11_0_0, rfl, rfl, w11_0_0⟩ := q11
  obtain ⟨A11_0_0, p11_0_0, rfl, m11_0_0, n11_0_0⟩ := OwnS.shape w11_0_0
  refine R.asE rfl cA ?_
  refine TL.nil (Post.thnN ?_)
  refine T.has (Has.cons .hd Has.nil) ?_
  refine T.ret ?_
  have hM : index_Type_m a0 a1 = r11 := by subst er11; subst er10; rw [index_Type_m, if_neg c7, LR.seq_go, LR.seq_go]
  exact fin1L (v := .slice A11_0_0 r11.length p11_0_0) [c11_0_0] rfl rfl (List.Sublist.refl _) ⟨.slice A11_0_0 r11.length p11_0_0, c11_0_0, by first | rw [hM] | rfl, rfl, by rw [hM]; exact w11_0_0⟩
end Go.SX

set_option linter.unusedVariables false
set_option linter.unusedSimpArgs false
namespace Go.SX
open Go
def setl : Array Value → Nat → List Value → Array Value
  | cs, _, [] => cs
  | cs, o, v :: r => setl (cs.setIfInBounds o v) (o + 1) r
theorem setl_size : ∀ (vs : List Value) (o : Nat) (cs : Array Value), (setl cs o vs).size = cs.size
  | [], _, _ => rfl
  | v :: r, o, cs => by rw [setl, setl_size r, Array.size_setIfInBounds]
theorem setl_out : ∀ (vs : List Value) (o : Nat) (cs : Array Value) (k : Nat), (k < o ∨ o + vs.length ≤ k) → (setl cs o vs)[k]? = cs[k]?
  | [], _, _, _, _ => rfl
  | v :: r, o, cs, k, h => by
    rw [List.length_cons] at h
    rw [setl, setl_out r (o + 1) _ k (by omega), Array.getElem?_setIfInBounds_ne (by omega)]
theorem setl_in : ∀ (vs : List Value) (o : Nat) (cs : Array Value) (j : Nat), o + j < cs.size → j < vs.length → (setl cs o vs)[o + j]? = vs[j]?
  | [], _, _, _, _, h => by simp at h
  | v :: r, o, cs, 0, h, _ => by
    rw [setl, setl_out r (o + 1) _ (o + 0) (by omega)]
    simp only [Nat.add_zero] at h ⊢
    rw [Array.getElem?_setIfInBounds_self_of_lt h]; rfl
  | v :: r, o, cs, j + 1, h, h2 => by
    have := setl_in r (o + 1) (cs.setIfInBounds o v) j (by rw [Array.size_setIfInBounds]; omega) (by simpa using h2)
    rw [setl, show o + (j + 1) = o + 1 + j by omega, this]; rfl
theorem heap_setCell {w : World} {b : Nat} {e : TypeId} {cs : Array Value} {z : Nat × Nat} (h : w.heap[b]? = some (.cells cs e z)) (o : Nat) (v : Value) : (w.setCell ⟨b, o, none⟩ v).heap[b]? = some (.cells (cs.setIfInBounds o v) e z) := by
  simp [World.setCell, Array.getElem?_modify, h]
theorem heap_setCells {b : Nat} {e : TypeId} {z : Nat × Nat} : ∀ (vs : List Value) (o : Nat) {w : World} {cs : Array Value}, w.heap[b]? = some (.cells cs e z) → (w.setCells b o vs).heap[b]? = some (.cells (setl cs o vs) e z)
  | [], _, _, _, h => h
  | v :: r, o, w, cs, h => by
    rw [World.setCells, setl]; exact heap_setCells r (o + 1) (heap_setCell h o v)
theorem setCells_same (b : Nat) : ∀ (vs : List Value) (o : Nat) (w : World), (w.setCells b o vs).os = w.os ∧ (w.setCells b o vs).tape = w.tape ∧ (w.setCells b o vs).output = w.output ∧ (w.setCells b o vs).heap.size = w.heap.size ∧ (∀ c, c ≠ b → (w.setCells b o vs).heap[c]? = w.heap[c]?) ∧ w.drawn ≤ (w.setCells b o vs).drawn
  | [], _, _ => ⟨rfl, rfl, rfl, rfl, fun _ _ => rfl, Nat.le_refl _⟩
  | v :: r, o, w => by
    obtain ⟨h1, h2, h3, h4, h5, h6⟩ := setCells_same b r (o + 1) (w.setCell ⟨b, o, none⟩ v)
    refine ⟨h1, h2, h3, by rw [World.setCells, h4]; simp [World.setCell], fun c hc => ?_, h6⟩
    rw [World.setCells, h5 c hc]
    simp only [World.setCell, Array.getElem?_modify]
    rw [if_neg (fun e => hc e.symm)]
theorem St.setCells {x : Cx} {H : Heap} {L : Chunk} {w : World} {b : Nat} {e : TypeId} {cs : Array Value} (h : St x H ((b, .cells cs e) :: L) w) (o : Nat) (vs : List Value) : St x H ((b, .cells (setl cs o vs) e) :: L) (w.setCells b o vs) := by
  have hb := h.sat.l _ (List.mem_cons_self ..)
  simp only at hb
  obtain ⟨h1, h2, h3, h4, h5, h6⟩ := setCells_same b vs o w
  exact h.turn h1 h2 h3 h4 (heap_setCells vs o hb) h5 h6
/-- The row with one more number at i. -/
def ins (xs : List Int) (i : Nat) (x : Int) : List Int := xs.take i ++ x :: xs.drop i
theorem ins_length {xs : List Int} {i : Nat} {x : Int} (h : i ≤ xs.length) : (ins xs i x).length = xs.length + 1 := by
  simp only [ins, List.length_append, List.length_take, List.length_cons, List.length_drop]; omega
theorem ins_get {xs : List Int} {i : Nat} {x : Int} (h : i ≤ xs.length) (k : Nat) : (ins xs i x)[k]? = if k < i then xs[k]? else if k = i then some x else xs[k - 1]? := by
  unfold ins
  by_cases h1 : k < i
  · rw [if_pos h1, List.getElem?_append_left (by rw [List.length_take]; omega), List.getElem?_take_of_lt h1]
  · rw [if_neg h1, List.getElem?_append_right (by rw [List.length_take]; omega), List.length_take, Nat.min_eq_left h]
    by_cases h2 : k = i
    · subst h2; rw [if_pos rfl, Nat.sub_self]; rfl
    · rw [if_neg h2, show k - i = (k - i - 1) + 1 by omega, List.getElem?_cons_succ, List.getElem?_drop, show i + (k - i - 1) = k - 1 by omega]
theorem own_of_cells {e : TypeId} {H : Heap} {b cap : Nat} {cs : Array Value} {xs : List Int} (h1 : xs.length ≤ cap) (h2 : cap ≤ maxLen) (h3 : cap ≤ cs.size) (h : ∀ (k : Nat) (y : Int), xs[k]? = some y → cs[k]? = some (Value.int .i64 y)) :
    OwnS (intE .i64) e H (.slice (some ⟨b, 0, none⟩) xs.length cap) xs [(b, .cells cs e)] :=
  .inr ⟨b, cap, cs, rfl, rfl, h1, h2, by show cap * 1 ≤ _; omega, fun k y hk => ⟨[.int .i64 y], rfl, fun j u hj => by
    have hj0 : j = 0 := by have := (List.getElem?_eq_some_iff.1 hj).1; simpa using this
    subst hj0
    simp at hj; subst hj
    have := h k y hk
    simpa [intE] using this⟩⟩
theorem vals_one (xs : List Int) : ∀ v ∈ xs.map (Value.int .i64), v.oneCell' = true := by
  intro v hv; obtain ⟨y, _, rfl⟩ := List.mem_map.1 hv; rfl
theorem vals_get {xs : List Int} {j : Nat} {v : Value} (h : (xs.map (Value.int .i64))[j]? = some v) : ∃ y, xs[j]? = some y ∧ v = .int .i64 y := by
  rw [List.getElem?_map] at h
  cases hx : xs[j]? with
  | none => rw [hx] at h; cases h
  | some y => rw [hx] at h; injection h with h; exact ⟨y, rfl, h.symm⟩
open Go.Proofs Go.Shelf in
theorem insert_fc {P : Program} {ρ : Ren} (L : Lays2.n21 P ρ) {f : FuncId} (hf : f = ρ.f 21) {fn : Func} {cd : Code} (hfn : P.funcs[f]? = some fn) (hb : fn.body = some cd) (hname : (fn.name == "runtime.NumGoroutine") = false)
    {e : TypeId} (he : ρ.t 3 = e) {H : Heap} {v : Value} {xs : List Int} {x : Int} {c : Chunk} (ho : OwnS (intE .i64) e H v xs c) {vb : Nat} {te : TypeId} (hvH : H vb = some (.cells #[.int .i64 x] te)) (i : Nat) (hi : i ≤ xs.length) (hl : xs.length ≤ 4000000) :
    Fc P (fnv f) [v, .int .i64 i, .slice (some ⟨vb, 0, none⟩) 1 1] H [c] (fun v' H' L' => ∃ c', L' = [c'] ∧ OwnS (intE .i64) e H' v' (ins xs i x) c') := by
  obtain ⟨vo, hvo⟩ : ∃ vo, vo = 0 := ⟨_, rfl⟩
  obtain ⟨vc, hvc⟩ : ∃ vc, vc = 1 := ⟨_, rfl⟩
  rw [show (Value.slice (some ⟨vb, 0, none⟩) 1 1) = .slice (some ⟨vb, vo, none⟩) 1 vc by rw [hvo, hvc]]
  intro w hs
  have hvw := hs.h vb _ hvH
  have hvs : ∀ j u, [Value.int .i64 x][j]? = some u → w.cell? ⟨vb, vo + j, none⟩ = some u := fun j u hj => by
    have hj0 : j = 0 := by have := (List.getElem?_eq_some_iff.1 hj).1; simpa using this
    subst hj0
    simp at hj; subst hj
    simp [World.cell?, hvw, hvo]
  have h1v : ∀ u ∈ [Value.int .i64 x], u.oneCell' = true := fun u hu => by simp at hu; subst hu; rfl
  have hen := Go.Proofs.enters_of (P := P) hfn hname hb
  have fin : ∀ {vs : List Value} {R : Ending → World → Prop}, Calls P f vs.toArray w R → CallV P (fnv f) vs w R := fun {vs} {R} hc => by
    have h0 := hen vs.toArray w
    exact ⟨.enter f vs.toArray, w, by simp [Deferred.ofValue, invoke, h0], callsIn_wide.2 hc⟩
  rcases ho with ⟨rfl, rfl, rfl⟩ | ⟨b, cap, cs, rfl, rfl, h3, h4, h5, h6⟩
  · -- nil
    obtain rfl : i = 0 := by simpa using hi
    refine fin ?_
    rw [hf]
    refine Calls.mono (Any2.slices_Insert_int_end_grow L none 0 0 vb vo 1 vc [] [.int .i64 x] w (by omega) (by omega) (by omega) (by omega) rfl rfl (fun _ => rfl) (fun a h => by cases h) hvs h1v) ?_
    rintro e' w' ⟨rfl, rfl⟩
    obtain ⟨B, hB⟩ : ∃ B, B = ([] ++ [Value.int .i64 x]).toArray ++ Builtin.zeroCells (Value.int .i64 0).cells (grownCap w (0 + 1) 0 (ρ.t 3) - (0 + 1)) := ⟨_, rfl⟩
    rw [← hB]
    have hge := grownCap_ge w (0 + 1) 0 (ρ.t 3)
    refine ⟨_, H, [[(w.heap.size, .cells B (ρ.t 3))]], rfl, ?_, _, rfl, ?_⟩
    · have := (St.init hs).drew.alloc (.cells B (ρ.t 3))
      simpa using this
    · subst he
      refine own_of_cells (xs := [x]) hge (grownCap_le_maxLen w (0 + 1) 0 _ (by unfold maxLen; omega)) ?_ ?_
      · rw [hB]
        simp only [Array.size_append, List.size_toArray, size_zeroCells]
        show _ ≤ _ + (_ - (0 + 1)) * 1
        simp only [List.nil_append, List.length_cons, List.length_nil]
        omega
      · intro k y hk
        have hk0 : k = 0 := by have := (List.getElem?_eq_some_iff.1 hk).1; simpa using this
        subst hk0
        simp at hk; subst hk
        rw [hB, Array.getElem?_append_left (by simp)]; rfl
  · have hs' : Sat H [(b, .cells cs e)] w := by simpa using hs
    have hbl := hs'.l (b, .cells cs e) (List.mem_singleton.2 rfl)
    simp only at hbl
    have hH0 : H b = none := hs'.dj (b, .cells cs e) (List.mem_singleton.2 rfl)
    have hvb : vb ≠ b := fun q => by subst q; rw [hvH] at hH0; cases hH0
    have hcs : cap ≤ cs.size := by have : cap * 1 ≤ cs.size := h5; omega
    have hxc : ∀ (k : Nat) (y : Int), xs[k]? = some y → cs[k]? = some (Value.int .i64 y) := fun k y hk => by
      obtain ⟨l, h7, h8⟩ := h6 k y hk
      obtain rfl : l = [.int .i64 y] := h7
      have := h8 0 _ rfl
      simpa [intE] using this
    have hcw : ∀ k, k < cs.size → w.cell? ⟨b, k, none⟩ = cs[k]? := fun k hk => by simp [World.cell?, hbl]
    have hcs2 : ∀ j u, (xs.map (Value.int .i64))[j]? = some u → w.cell? ⟨b, 0 + j, none⟩ = some u := fun j u hj => by
      obtain ⟨y, hy1, rfl⟩ := vals_get hj
      have := hxc j y hy1
      rw [Nat.zero_add, hcw j ((Array.getElem?_eq_some_iff.1 this).1), this]
    have hsome : ∀ k, k < cs.size → (w.cell? ⟨b, k, none⟩).isSome = true := fun k hk => by rw [hcw k hk, Array.getElem?_eq_getElem hk]; rfl
    have hfz : ∀ k, w.frozen? ⟨b, k, none⟩ = false := fun k => by simp [World.frozen?, hbl]
    have st0 : St ⟨w, H, [(b, .cells cs e)]⟩ H [(b, .cells cs e)] w := St.init hs'
    have hml : maxLen = 9223372036854775807 := rfl
    refine fin ?_
    rw [hf]
    by_cases hroom : xs.length + 1 ≤ cap
    · by_cases hin : i = xs.length
      · subst hin
        refine Calls.mono (Any2.slices_Insert_int_end_room L b 0 xs.length cap vb vo 1 vc [.int .i64 x] w (by omega) hroom (by omega) rfl (fun j hj => hsome _ (by omega)) (fun j hj => hfz _) hvs h1v) ?_
        rintro e' w' ⟨rfl, rfl⟩
        have hlen := ins_length (x := x) (Nat.le_refl xs.length)
        refine ⟨_, H, [[(b, .cells (setl cs (0 + xs.length) [.int .i64 x]) e)]], rfl, by simpa using st0.setCells (0 + xs.length) [.int .i64 x], _, rfl, ?_⟩
        rw [← hlen]
        refine own_of_cells (by rw [hlen]; exact hroom) h4 (by rw [setl_size]; exact hcs) (fun k y hk => ?_)
        rw [ins_get (Nat.le_refl _)] at hk
        by_cases h7 : k < xs.length
        · rw [if_pos h7] at hk
          rw [setl_out _ _ _ _ (by omega)]; exact hxc k y hk
        · rw [if_neg h7] at hk
          by_cases h8 : k = xs.length
          · rw [if_pos h8] at hk
            injection hk with hk; subst hk; subst h8
            have := setl_in [.int .i64 x] (0 + xs.length) cs 0 (by omega) (by simp)
            rw [Nat.add_zero, Nat.zero_add] at this
            rw [Nat.zero_add]; exact this
          · rw [if_neg h8, List.getElem?_eq_none (by omega)] at hk; cases hk
      · refine Calls.mono (Any2.slices_Insert_int_shift L b 0 xs.length cap i vb vo 1 vc (xs.map (Value.int .i64)) [.int .i64 x] w (by omega) (by omega) hroom (by omega) hvb (by simp) rfl hcs2 (fun j hj => hsome _ (by omega)) (fun j hj => hfz _) hvs (vals_one xs) h1v
          te e 1 cs.size (by simp [World.shape?, hvw]) (by simp [World.shape?, hbl]) (by omega) ?_ ?_) ?_
        · simp [World.frozen?, hvw]
        · simp [World.frozen?, hvw]
        rintro e' w' ⟨rfl, rfl⟩
        have hlen := ins_length (x := x) hi
        refine ⟨_, H, [[(b, .cells (setl (setl cs (0 + (i + 1)) ((xs.map (Value.int .i64)).drop i)) (0 + i) [.int .i64 x]) e)]], rfl, by simpa using (st0.drew.setCells (0 + (i + 1)) ((xs.map (Value.int .i64)).drop i)).setCells (0 + i) [.int .i64 x], _, rfl, ?_⟩
        rw [← hlen]
        refine own_of_cells (by rw [hlen]; exact hroom) h4 (by rw [setl_size, setl_size]; exact hcs) (fun k y hk => ?_)
        rw [ins_get hi] at hk
        by_cases h7 : k < i
        · rw [if_pos h7] at hk
          rw [setl_out _ _ _ _ (by omega), setl_out _ _ _ _ (by omega)]; exact hxc k y hk
        · rw [if_neg h7] at hk
          by_cases h8 : k = i
          · rw [if_pos h8] at hk
            injection hk with hk; subst hk; subst h8
            have := setl_in [.int .i64 x] (0 + k) (setl cs (0 + (k + 1)) ((xs.map (Value.int .i64)).drop k)) 0 (by rw [setl_size]; omega) (by simp)
            simp only [Nat.add_zero, Nat.zero_add] at this ⊢; exact this
          · rw [if_neg h8] at hk
            have hlt := (List.getElem?_eq_some_iff.1 hk).1
            rw [setl_out _ _ _ _ (.inr (by simp; omega))]
            have := setl_in ((xs.map (Value.int .i64)).drop i) (0 + (i + 1)) cs (k - (i + 1)) (by omega) (by simp; omega)
            rw [show 0 + (i + 1) + (k - (i + 1)) = k by omega, List.getElem?_drop, show i + (k - (i + 1)) = k - 1 by omega, List.getElem?_map, hk] at this
            exact this
    · subst he
      have hge := grownCap_ge w (xs.length + 1) cap (ρ.t 3)
      have hle := grownCap_le_maxLen w (xs.length + 1) cap (ρ.t 3) (by omega)
      by_cases hin : i = xs.length
      · subst hin
        refine Calls.mono (Any2.slices_Insert_int_end_grow L (some ⟨b, 0, none⟩) xs.length cap vb vo 1 vc (xs.map (Value.int .i64)) [.int .i64 x] w (by omega) h3 (by omega) (by omega) (by simp) rfl (fun h => by cases h) (fun a h j u hj => by injection h with h; subst h; rw [Addr.add_lit]; exact hcs2 j u hj) hvs h1v) ?_
        rintro e' w' ⟨rfl, rfl⟩
        generalize grownCap w (xs.length + 1) cap (ρ.t 3) = G at hge hle ⊢
        have hlen := ins_length (x := x) (Nat.le_refl xs.length)
        refine ⟨_, H, [[(w.heap.size, .cells ((xs.map (Value.int .i64) ++ [Value.int .i64 x]).toArray ++ Builtin.zeroCells (Value.int .i64 0).cells (G - (xs.length + 1))) (ρ.t 3))]], rfl, ?_, _, rfl, ?_⟩
        · have := (st0.drew.alloc (.cells ((xs.map (Value.int .i64) ++ [Value.int .i64 x]).toArray ++ Builtin.zeroCells (Value.int .i64 0).cells (G - (xs.length + 1))) (ρ.t 3))).sub (L' := [(w.drew.heap.size, .cells ((xs.map (Value.int .i64) ++ [Value.int .i64 x]).toArray ++ Builtin.zeroCells (Value.int .i64 0).cells (G - (xs.length + 1))) (ρ.t 3))]) (List.Sublist.cons_cons _ (List.nil_sublist _))
          simpa using this
        · rw [← hlen]
          refine own_of_cells (by rw [hlen]; exact hge) hle ?_ (fun k y hk => ?_)
          · simp only [Array.size_append, List.size_toArray, size_zeroCells, List.length_append, List.length_map, List.length_cons, List.length_nil]
            rw [hlen, show (Value.int IntKind.i64 0).cells.size = 1 from rfl]
            omega
          · have hk' : (xs ++ [x])[k]? = some y := by simpa [ins] using hk
            have hlt := (List.getElem?_eq_some_iff.1 hk').1
            rw [Array.getElem?_append_left (by simpa using hlt), List.getElem?_toArray, show xs.map (Value.int .i64) ++ [Value.int .i64 x] = (xs ++ [x]).map (Value.int .i64) by simp, List.getElem?_map, hk']; rfl
      · refine Calls.mono (Any2.slices_Insert_int_grow L b 0 xs.length cap i vb vo 1 vc (xs.map (Value.int .i64)) [.int .i64 x] w (by omega) (by omega) h3 (by omega) (by omega) (by simp) rfl hcs2 hvs (vals_one xs) h1v) ?_
        rintro e' w' ⟨rfl, rfl⟩
        generalize grownCap w (xs.length + 1) cap (ρ.t 3) = G at hge hle ⊢
        have hlen := ins_length (x := x) hi
        obtain ⟨B, hB⟩ : ∃ B, B = ((xs.map (Value.int .i64)).take i).toArray ++ Builtin.zeroCells (Value.int .i64 0).cells (xs.length + 1 - i) ++ Builtin.zeroCells (Value.int .i64 0).cells (G - (xs.length + 1)) := ⟨_, rfl⟩
        rw [← hB]
        have hBs : G ≤ B.size := by
          rw [hB]
          simp only [Array.size_append, List.size_toArray, size_zeroCells, List.length_take, List.length_map]
          show _ ≤ _ + (xs.length + 1 - i) * 1 + (_ - (xs.length + 1)) * 1
          omega
        refine ⟨_, H, [[(w.heap.size, .cells (setl (setl B i [.int .i64 x]) (i + 1) ((xs.map (Value.int .i64)).drop i)) (ρ.t 3))]], rfl, ?_, _, rfl, ?_⟩
        · have h1 := (st0.alloc (.cells B (ρ.t 3))).sub (L' := [(w.heap.size, .cells B (ρ.t 3))]) (List.Sublist.cons_cons _ (List.nil_sublist _))
          have h2 := ((h1.drew.setCells i [.int .i64 x]).drew.setCells (i + 1) ((xs.map (Value.int .i64)).drop i))
          simpa using h2
        · rw [← hlen]
          refine own_of_cells (by rw [hlen]; exact hge) hle (by rw [setl_size, setl_size]; exact hBs) (fun k y hk => ?_)
          rw [ins_get hi] at hk
          by_cases h7 : k < i
          · rw [if_pos h7] at hk
            rw [setl_out _ _ _ _ (by omega), setl_out _ _ _ _ (by omega), hB, Array.getElem?_append_left (by simp [size_zeroCells]; omega), Array.getElem?_append_left (by simp; omega), List.getElem?_toArray, List.getElem?_take_of_lt h7, List.getElem?_map, hk]; rfl
          · rw [if_neg h7] at hk
            by_cases h8 : k = i
            · rw [if_pos h8] at hk
              injection hk with hk; subst hk; subst h8
              rw [setl_out _ _ _ _ (by omega)]
              have := setl_in [.int .i64 x] k B 0 (by omega) (by simp)
              rw [Nat.add_zero] at this; exact this
            · rw [if_neg h8] at hk
              have hlt := (List.getElem?_eq_some_iff.1 hk).1
              have := setl_in ((xs.map (Value.int .i64)).drop i) (i + 1) (setl B i [.int .i64 x]) (k - (i + 1)) (by rw [setl_size]; omega) (by simp; omega)
              rw [show i + 1 + (k - (i + 1)) = k by omega, List.getElem?_drop, show i + (k - (i + 1)) = k - 1 by omega, List.getElem?_map, hk] at this
              exact this
end Go.SX

namespace Go.Proofs
open Go.Shelf
def Tryz.lays21_ren : Go.Shelf.Ren := ⟨fun | 21 => 38 | 27 => 69 | 28 => 70 | 35 => 89 | 39 => 99 | n => n, fun | 22 => 25 | 3 => 3 | 4 => 4 | 0 => 0 | n => n, fun | n => n⟩
theorem Tryz.lays21 : Go.Proofs.Lays2.n21 Tryz.prog Tryz.lays21_ren := {
  mixed := by kernel_rfl
  f21 := Tryz.func38.trans (congrArg some (by kernel_rfl))
  f27 := Tryz.func69.trans (congrArg some (by kernel_rfl))
  f28 := Tryz.func70.trans (congrArg some (by kernel_rfl))
  f35 := Tryz.func89.trans (congrArg some (by kernel_rfl))
  f39 := Tryz.func99.trans (congrArg some (by kernel_rfl))
  t0 := Tryz.underlying0
  a0 := Tryz.isAgg0
  z0 := Tryz.sizeOf0
  v0 := Tryz.zeroValue0
  t3 := Tryz.underlying3
  a3 := Tryz.isAgg3
  z3 := Tryz.sizeOf3
  v3 := Tryz.zeroValue3
  t4 := Tryz.underlying4
  a4 := Tryz.isAgg4
  z4 := Tryz.sizeOf4
  v4 := Tryz.zeroValue4
  t22 := Tryz.underlying25
  a22 := Tryz.isAgg25
  z22 := Tryz.sizeOf25
  v22 := Tryz.zeroValue25
  i3 := by kernel_rfl }
end Go.Proofs

set_option linter.unusedVariables false
set_option linter.unusedSimpArgs false
namespace Go.SX
open Go Go.Proofs
theorem Tryz_ty22 : TyE Tryz.prog 22 45 listedE 32 := TyE.mk' (z := .agg #[.int .u64 0, .slice none 0 0]) Tryz.underlying22 (by kernel_rfl) rfl (by decide)

theorem rows_nil : ∀ r ∈ ([] : List (Int × List Int)), r.2.length ≤ 0 := fun r h => by cases h
theorem rows_le {x : List (Int × List Int)} {a b : Nat} (h : ∀ r ∈ x, r.2.length ≤ a) (h2 : a ≤ b) : ∀ r ∈ x, r.2.length ≤ b := fun r hr => Nat.le_trans (h r hr) h2
theorem insert_c (H : Heap) (v : Value) (xs : List Int) (ch : Chunk) (ho : OwnS (intE .i64) 3 H v xs ch) (x : Int) (vb : Nat) (te : TypeId) (hvH : H vb = some (.cells #[.int .i64 x] te)) (i : Int) (hi : 0 ≤ i ∧ i ≤ (xs.length : Int)) (hl : xs.length ≤ 2000000) :
    Fc Tryz.prog (fnv 38) [v, .int .i64 i, .slice (some ⟨vb, 0, none⟩) 1 1] H [ch] (fun v' H' L' => ∃ c, L' = [c] ∧ OwnS (intE .i64) 3 H' v' (ins xs i.toNat x) c) := by
  obtain ⟨i, rfl⟩ : ∃ n : Nat, i = n := ⟨i.toNat, by omega⟩
  exact insert_fc Go.Proofs.Tryz.lays21 rfl Tryz.func38 rfl (by kernel_rfl) rfl ho hvH i (by omega) (by omega)
def index_turned_l2 (a0 : (List (Int × (List Int)))) (a1 : List Int) (a2 : List Int → List Int) : List Int → ((List (Int × (List Int)))) → (List (Int × (List Int)))
  | [], sl2 => sl2
  | yl2 :: ysl2, sl2 => LR.seq (slices_BinarySearchFunc_Listed_m a0 (((yl2, []) : Int × (List Int))) ((fun z0 z1 => index_compare_m z0 z1))) (fun r43 => LR.seq (if r43.2 = true then (a0.getD r43.1.toNat (((0, []) : Int × (List Int)) : Int × (List Int))).2 else [] : (List Int)) (fun sc3 => LR.seq (if yl2 ∈ a1 then (a2 sc3) else sc3 : (List Int)) (fun sc4 => if (0 : Int) < (sc4.length : Int) then (index_turned_l2 a0 a1 a2 ysl2 ((sl2 ++ [(yl2, sc4)]))) else (index_turned_l2 a0 a1 a2 ysl2 sl2))))
def index_turned_l1  : List (Int × (List Int)) → ((List Int)) → (List Int)
  | [], sl1 => sl1
  | yl1 :: ysl1, sl1 => index_turned_l1 ysl1 ((sl1 ++ [yl1.1]))
def index_turned_m (a0 : (List (Int × (List Int)))) (a1 : List Int) (a2 : List Int → List Int) : ((List (Int × (List Int)))) :=
  LR.seq (index_turned_l1 a0 a1) (fun ol1 => LR.seq (index_once_m ol1) (fun r32 => LR.seq (index_turned_l2 a0 a1 a2 r32 []) (fun ol2 => ol2)))
set_option maxHeartbeats 3200000 in
theorem index_turned_c (H : Heap) (a0 : (List (Int × (List Int)))) (va0_0 : Value) (ha0_0 : RdS listedE H va0_0 a0) (va1 : Value) (a1 : List Int) (ha1 : RdS (intE .u64) H va1 a1) (fa2 : Value) (a2 : List Int → List Int) (ha2 : ∀ H', HLe H H' → ∀ (vz : Value) (z : List Int) (cz : Chunk), z.length ≤ 2000000 → OwnS (intE .i64) 3 H' vz z cz → Fc Tryz.prog fa2 [vz] H' [cz] (fun v' H'' L' => ∃ u c, v' = u ∧ L' = [c] ∧ OwnS (intE .i64) 3 H'' u (a2 z) c)) (na2 : fa2.oneCell' = true) (hn : a0.length ≤ 1000) (hr : ∀ r ∈ a0, r.2.length ≤ 1000) (hi : a1.length ≤ 1000) : Fc Tryz.prog (fnv 35) [.agg #[va0_0], va1, fa2] H [] (fun v' H' L' => ∃ u0_0 c0_0, v' = .agg #[u0_0] ∧ L' = [c0_0] ∧ OwnS listedE 45 H' u0_0 (index_turned_m a0 a1 a2) c0_0) := by
  refine Fc.of_body (N := 82) Tryz.func35 rfl kA rfl rfl ?_
  intro w0
  obtain ⟨Aa0_0, ca0_0, rfl, hca0_0, hda0_0, ha0_0⟩ := ha0_0.shape
  obtain ⟨Aa1, ca1, rfl, hca1, hda1, ha1⟩ := ha1.shape
  refine T.seq ?_
  refine T.region ?_
  refine R.box rfl cA ?_
  intro b3
  refine R.alloc Tryz.zeroValue24 rfl ?_
  intro b6
  refine TL.shut (.tl .hd) ?_
  intro Hb3_1 sb3_1 qb3_1
  have hb3_1 : Hb3_1 b3 = some (.cells #[.slice Aa0_0 a0.length ca0_0] 24) := shut1 qb3_1
  refine TL.nil (Post.thnN ?_)
  refine T.seq ?_
  refine T.region ?_
  refine R.alloc Tryz.zeroValue24 rfl ?_
  intro b7
  refine TL.nil (Post.thnN ?_)
  refine T.seq ?_
  refine T.region ?_
  refine R.mvE rfl cA ?_
  refine TL.call [] rfl rfl rfl (clone30_c _ _ a1 (ha1.mono sb3_1) bA) ?_
  intro v17 H17 L17 s17 q17
  obtain ⟨c17, rfl, w17⟩ := q17
  obtain ⟨x17, e17⟩ : ∃ x, x = a1 := ⟨_, rfl⟩
  rw [← e17] at w17
  obtain ⟨A17, p17, rfl, m17, n17⟩ := OwnS.shape w17
  have t17 : x17.length = a1.length := by rw [e17]
  refine R.asE rfl cA ?_
  refine TL.nil (Post.thnN ?_)
  refine T.seq ?_
  refine T.seq ?_
  refine T.region ?_
  refine R.fldA Tryz.underlying24 rfl Tryz.sizeOf22 (by decide) rfl rfl ?_
  refine R.ldH Tryz.isAgg22 rfl rfl (s17 _ _ hb3_1) rfl ?_
  refine R.len Tryz.underlying22 rfl rfl ?_
  refine R.mvE rfl cA ?_
  refine TL.nil (Post.thnN ?_)
  refine T.block ?_
  refine T.loop (ι := Nat × Value × (List Int) × Chunk) (fun ⟨kl1, v8l1, x8l1, c8l1⟩ H' L' ds' => kl1 ≤ a0.length ∧ Has L' [[(b7, .cells #[.slice none 0 0] 24)], [(b6, .cells #[.slice none 0 0] 24)], c8l1] ∧ OwnS (intE .u64) 43 H' v8l1 x8l1 c8l1 ∧ x8l1.length ≤ a1.length + kl1 ∧ index_turned_l1 (a0.drop kl1) x8l1 = index_turned_l1 a0 x17) (fun ⟨kl1, v8l1, x8l1, c8l1⟩ => [(21, .int .i64 (kl1 : Int)), (1, .slice Aa1 a1.length ca1), (2, fa2), (3, .pointer (some ⟨b3, 0, none⟩)), (6, .pointer (some ⟨b6, 0, none⟩)), (7, .pointer (some ⟨b7, 0, none⟩)), (8, v8l1), (19, .slice Aa0_0 a0.length ca0_0), (20, .int .i64 (a0.length : Int))]) (fun ⟨kl1, v8l1, x8l1, c8l1⟩ => a0.length - kl1) (0, .slice A17 x17.length p17, x17, c17) ?_ ?_ ?_
  · exact ⟨oA, (Has.cons (.tl .hd) (Has.cons (.tl .hd) (Has.cons .hd Has.nil))), w17, bA, (by rfl)⟩
  · exact ⟨rfl, rfl, rfl, rfl, rfl, rfl, rfl, rfl, rfl, trivial⟩
  intro ⟨kl1, v8l1, x8l1, c8l1⟩ σ_l1 H_l1 L_l1 ds_l1 s_l1 hI_l1
  obtain ⟨hkl1, hI_l1⟩ := hI_l1
  obtain ⟨hLl1, w8l1, hBl1_0, hQl1⟩ := hI_l1
  obtain ⟨A8l1, p8l1, rfl, m8l1, n8l1_⟩ := OwnS.shape w8l1
  refine T.has hLl1 ?_
  refine T.seq ?_
  refine T.region ?_
  refine R.lss rfl rfl rfl ?_
  refine TL.nil (Post.thnN ?_)
  refine T.seq ?_
  refine T.condD rfl (fun c22 => ?_) (fun c22 => ?_)
  · have hltl1 : kl1 < a0.length := by omega
    obtain ⟨yl1, hyl1⟩ := getk (xs := a0) (k := kl1) oA
    refine T.skip (Post.thnN ?_)
    refine T.seq ?_
    refine T.block ?_
    refine T.seq ?_
    refine T.region ?_
    obtain ⟨b23, o23, i23, k23⟩ := RdS.elem (ha0_0.mono (sb3_1.trans (s17.trans s_l1))) hyl1
    obtain ⟨l23, g23, k23⟩ := k23
    obtain ⟨z23_1, rfl, r23_1⟩ := g23
    obtain ⟨A23_1, p23_1, rfl, m23_1, n23_1, r23_1⟩ := r23_1.shape
    refine R.ixp Tryz.underlying22 Tryz.sizeOf45 rfl rfl rfl oA i23 ?_
    refine R.ldK (l := [.int .u64 (yl1.1), .slice A23_1 yl1.2.length p23_1]) Tryz.isAgg45 Tryz.sizeOf45 rfl rfl k23 rfl ?_
    refine R.alloc Tryz.zeroValue45 rfl ?_
    intro b10
    refine R.stX (old := [.int .u64 0, .slice none 0 0]) (l := [.int .u64 (yl1.1), .slice A23_1 yl1.2.length p23_1]) (new := [.int .u64 (yl1.1), .slice A23_1 yl1.2.length p23_1]) (et := 45) Tryz.sizeOf45 rfl rfl rfl rfl rfl (by show 0 + 2 ≤ 2; decide) rfl (all_one rfl) .hd ?_
    refine TL.shut .hd ?_
    intro Hb10_2 sb10_2 qb10_2
    have hb10_2 : Hb10_2 b10 = some (.cells #[.int .u64 (yl1.1), .slice A23_1 yl1.2.length p23_1] 45) := shut1 qb10_2
    refine TL.nil (Post.thnN ?_)
    refine T.region ?_
    refine R.mvE rfl cA ?_
    refine R.fldA Tryz.underlying45 rfl Tryz.sizeOf43 (by decide) rfl rfl ?_
    refine R.ldH Tryz.isAgg43 rfl rfl hb10_2 rfl ?_
    refine R.bs rfl (run_buildSlice1 Tryz.underlying30 Tryz.sizeOf43 Tryz.zeroValue43 rfl rfl) ?_
    intro b28
    have w28 : OwnS (intE .u64) 43 Hb10_2 (.slice (some ⟨b28, 0, none⟩) 1 1) [yl1.1] [(b28, .cells #[.int .u64 (yl1.1)] 43)] := OwnS.lit (xs := [yl1.1]) (cellsOf_cons (a := [.int .u64 (yl1.1)]) rfl cellsOf_nil) (by show 1 ≤ maxLen; decide)
    obtain ⟨k29, y29, r29⟩ := Src.ownA w28
    refine R.app (E := (intE .u64)) (e := 43) (xs := x8l1) (ys := [yl1.1]) Tryz_ty30 rfl rfl rfl (OwnS.mono w8l1 sb10_2) (.tl (.tl (.tl .hd))) (r29 _ .hd) y29 (by (try simp only [List.length_append, List.length_cons, List.length_nil, List.length_replicate, List.length_take, List.length_drop]); omega) (by (try simp only [List.length_append, List.length_cons, List.length_nil, List.length_replicate, List.length_take, List.length_drop]); omega) ?_
    intro v29 c29 w29
    obtain ⟨A29, p29, rfl, m29, n29⟩ := OwnS.shape w29
    refine TL.del (.tl .hd) ?_
    refine R.asE rfl cA ?_
    refine TL.nil (Post.blkN ?_)
    refine id (Post.thnN ?_)
    refine T.region ?_
    refine R.addI rfl rfl rfl oA ?_
    refine R.mvE rfl cA ?_
    refine TL.nil (Post.thnN ?_)
    exact ⟨(kl1 + 1, .slice A29 (x8l1 ++ [yl1.1]).length p29, (x8l1 ++ [yl1.1]), c29), (s_l1.trans sb10_2), ⟨oA, (Has.cons (.tl .hd) (Has.cons (.tl .hd) (Has.cons .hd Has.nil))), w29, bA, (by rw [← hQl1, drop_cons hyl1, index_turned_l1])⟩, by show a0.length - (kl1 + 1) < a0.length - kl1; omega, rfl, rfl, rfl, rfl, rfl, rfl, rfl, rfl, rfl, trivial⟩
  refine T.exit (Post.thnE (Post.thnE (Post.blkX ?_)))
  have hEl1 : index_turned_l1 a0 x17 = x8l1 := (hQl1.symm.trans (by rw [show kl1 = a0.length by omega, List.drop_length, index_turned_l1]))
  refine id (Post.thnN ?_)
  refine T.seq ?_
  refine T.seq ?_
  refine T.region ?_
  refine R.mvE rfl cA ?_
  refine TL.has (Has.cons (.tl (.tl .hd)) (Has.cons .hd (Has.cons .hd Has.nil))) ?_
  obtain ⟨r32, er32⟩ : ∃ r, r = (index_once_m x8l1) := ⟨_, rfl⟩
  refine TL.call [true] rfl rfl rfl (index_once_c _ _ x8l1 _ w8l1 bA) ?_
  intro v32 H32 L32 s32 q32
  rw [← er32] at q32
  obtain ⟨u32_0_0, c32_0_0, rfl, rfl, w32_0_0⟩ := q32
  obtain ⟨A32_0_0, p32_0_0, rfl, m32_0_0, n32_0_0⟩ := OwnS.shape w32_0_0
  have to32 := once_len _ _ er32
  refine R.len Tryz.underlying30 rfl rfl ?_
  refine R.mvE rfl cA ?_
  refine TL.nil (Post.thnN ?_)
  refine T.block ?_
  refine T.shut .hd ?_
  intro HF32_0_0_3 sF32_0_0_3 qF32_0_0_3
  have fF32_0_0_3 := OwnS.read w32_0_0 sF32_0_0_3 qF32_0_0_3
  refine T.loop (ι := Nat × Value × (List (Int × (List Int))) × Chunk) (fun ⟨kl2, vb7l2_0, xb7l2_0, cb7l2_0⟩ H' L' ds' => kl2 ≤ r32.length ∧ Has L' [[(b7, .cells #[vb7l2_0] 24)], [(b6, .cells #[.slice none 0 0] 24)], cb7l2_0] ∧ OwnS listedE 45 H' vb7l2_0 xb7l2_0 cb7l2_0 ∧ xb7l2_0.length ≤ kl2 ∧ index_turned_l2 a0 a1 a2 (r32.drop kl2) xb7l2_0 = index_turned_l2 a0 a1 a2 r32 []) (fun ⟨kl2, vb7l2_0, xb7l2_0, cb7l2_0⟩ => [(34, .int .i64 (kl2 : Int)), (1, .slice Aa1 a1.length ca1), (2, fa2), (3, .pointer (some ⟨b3, 0, none⟩)), (6, .pointer (some ⟨b6, 0, none⟩)), (7, .pointer (some ⟨b7, 0, none⟩)), (32, .slice A32_0_0 r32.length p32_0_0), (33, .int .i64 (r32.length : Int))]) (fun ⟨kl2, vb7l2_0, xb7l2_0, cb7l2_0⟩ => r32.length - kl2) (0, .slice none 0 0, [], []) ?_ ?_ ?_
  · exact ⟨oA, (Has.cons .hd (Has.cons .hd (Has.none Has.nil))), OwnS.nil, bA, (by rfl)⟩
  · exact ⟨rfl, rfl, rfl, rfl, rfl, rfl, rfl, rfl, trivial⟩
  intro ⟨kl2, vb7l2_0, xb7l2_0, cb7l2_0⟩ σ_l2 H_l2 L_l2 ds_l2 s_l2 hI_l2
  obtain ⟨hkl2, hI_l2⟩ := hI_l2
  obtain ⟨hLl2, wb7l2_0, hBl2_0, hQl2⟩ := hI_l2
  obtain ⟨Ab7l2_0, pb7l2_0, rfl, mb7l2_0, nb7l2_0_⟩ := OwnS.shape wb7l2_0
  refine T.has hLl2 ?_
  refine T.seq ?_
  refine T.region ?_
  refine R.lss rfl rfl rfl ?_
  refine TL.nil (Post.thnN ?_)
  refine T.seq ?_
  refine T.condD rfl (fun c35 => ?_) (fun c35 => ?_)
  · have hltl2 : kl2 < r32.length := by omega
    obtain ⟨yl2, hyl2⟩ := getk (xs := r32) (k := kl2) oA
    refine T.skip (Post.thnN ?_)
    refine T.seq ?_
    refine T.block ?_
    refine T.seq ?_
    refine T.region ?_
    obtain ⟨b36, o36, i36, k36⟩ := RdS.elem (fF32_0_0_3.mono s_l2) hyl2
    obtain ⟨l36, g36, k36⟩ := k36
    obtain rfl : l36 = [.int .u64 yl2] := g36
    refine R.ixp Tryz.underlying30 Tryz.sizeOf43 rfl rfl rfl oA i36 ?_
    refine R.ldC Tryz.isAgg43 rfl rfl (k36 0 _ rfl) ?_
    refine R.asE rfl cA ?_
    refine TL.nil (Post.thnN ?_)
    refine T.seq ?_
    refine T.region ?_
    refine R.asE rfl cA ?_
    refine TL.nil (Post.thnN ?_)
    refine T.seq ?_
    refine T.seq ?_
    refine T.region ?_
    refine R.fldA Tryz.underlying24 rfl Tryz.sizeOf22 (by decide) rfl rfl ?_
    refine R.ldH Tryz.isAgg22 rfl rfl ((s17.trans (s_l1.trans (s32.trans (sF32_0_0_3.trans s_l2)))) _ _ hb3_1) rfl ?_
    refine R.mvE rfl cA ?_
    refine R.bld (cs := [.int .u64 yl2, .slice none 0 0]) rfl (fun _ => by kernel_rfl) ?_
    obtain ⟨r43, er43⟩ : ∃ r, r = (slices_BinarySearchFunc_Listed_m a0 (((yl2, []) : Int × (List Int))) ((fun z0 z1 => index_compare_m z0 z1))) := ⟨_, rfl⟩
    refine R.callv (v := .tuple #[.int .i64 r43.1, .bool r43.2]) rfl rfl rfl (by rw [er43]; exact slices_BinarySearchFunc_Listed_c _ _ a0 (ha0_0.mono (sb3_1.trans (s17.trans (s_l1.trans (s32.trans (sF32_0_0_3.trans s_l2)))))) (((yl2, []) : Int × (List Int))) _ RdS.nil _ (fun z0 z1 => index_compare_m z0 z1) (fun H2 h2 z0 vz0_1 hz0_1 z1 vz1_1 hz1_1 => index_compare_c H2 z0 vz0_1 hz0_1 z1 vz1_1 hz1_1) rfl bA) ?_
    have tb43 := bf_rng _ _ _ _ er43 (by first | omega | simp)
    refine R.mvE rfl cA ?_
    refine R.ext rfl rfl rfl ?_
    refine R.ext rfl rfl rfl ?_
    refine R.asE rfl cA ?_
    refine R.asE rfl cA ?_
    refine TL.nil (Post.thnN ?_)
    refine T.seq ?_
    refine T.region ?_
    refine R.mvE rfl cA ?_
    refine TL.nil (Post.thnN ?_)
    refine T.cutK (ι := Value × (List Int) × Chunk) (fun ⟨v13c3, x13c3, c13c3⟩ H' L' ds' => Has L' [[(b7, .cells #[.slice Ab7l2_0 xb7l2_0.length pb7l2_0] 24)], [(b6, .cells #[.slice none 0 0] 24)], cb7l2_0, c13c3] ∧ OwnS (intE .i64) 3 H' v13c3 x13c3 c13c3 ∧ x13c3.length ≤ 1000 ∧ (if r43.2 = true then (a0.getD r43.1.toNat (((0, []) : Int × (List Int)) : Int × (List Int))).2 else [] : (List Int)) = x13c3) (fun ⟨v13c3, x13c3, c13c3⟩ => [(1, .slice Aa1 a1.length ca1), (2, fa2), (3, .pointer (some ⟨b3, 0, none⟩)), (6, .pointer (some ⟨b6, 0, none⟩)), (7, .pointer (some ⟨b7, 0, none⟩)), (12, .int .u64 yl2), (13, v13c3), (32, .slice A32_0_0 r32.length p32_0_0), (33, .int .i64 (r32.length : Int)), (34, .int .i64 (kl2 : Int))]) ?_ ?_
    · refine T.cond rfl (fun c46 => ?_) (fun c46 => ?_)
      · refine T.set 46 (.bool true) (congrArg Value.bool c46) ?_
        refine T.seq ?_
        have tq := tb43.2.2 (by simpa using c46)
        refine T.region ?_
        refine R.fldA Tryz.underlying24 rfl Tryz.sizeOf22 (by decide) rfl rfl ?_
        refine R.ldH Tryz.isAgg22 rfl rfl ((s17.trans (s_l1.trans (s32.trans (sF32_0_0_3.trans s_l2)))) _ _ hb3_1) rfl ?_
        refine R.mvE rfl cA ?_
        have hl50 : r43.1.toNat < a0.length := bA
        obtain ⟨y50, e50, h50⟩ : ∃ y, y = (a0.getD r43.1.toNat (((0, []) : Int × (List Int)) : Int × (List Int))) ∧ a0[r43.1.toNat]? = some y := ⟨_, rfl, getD_get (by first | exact hl50 | simpa using hl50 | (simp only [List.length_set]; omega) | omega | (rw [(sortI_perm _).length_eq]; exact hl50))⟩
        obtain ⟨b50, o50, i50, k50⟩ := RdS.elem (ha0_0.mono (sb3_1.trans (s17.trans (s_l1.trans (s32.trans (sF32_0_0_3.trans s_l2)))))) h50
        obtain ⟨l50, g50, k50⟩ := k50
        obtain ⟨z50_1, rfl, r50_1⟩ := g50
        obtain ⟨A50_1, p50_1, rfl, m50_1, n50_1, r50_1⟩ := r50_1.shape
        have tr50 := hr y50 (List.mem_of_getElem? h50)
        refine R.ixp Tryz.underlying22 Tryz.sizeOf45 rfl rfl rfl bA i50 ?_
        refine R.fldA Tryz.underlying45 rfl Tryz.sizeOf25 (by decide) rfl rfl ?_
        refine R.ldC Tryz.isAgg25 rfl rfl (k50 1 _ rfl) ?_
        refine R.len Tryz.underlying25 rfl rfl ?_
        refine R.mks (E := (intE .i64)) (q := y50.2.length) (z0 := ((0 : Int))) (zc := [.int .i64 0]) Tryz_ty25 (zcells_of (z := .int .i64 0) kA) (fun _ => rfl) rfl rfl rfl oA oA ?_
        intro v54 c54 w54
        obtain ⟨A54, p54, rfl, m54, n54⟩ := w54.shape
        refine R.asE rfl cA ?_
        refine TL.nil (Post.thnN ?_)
        refine T.region ?_
        refine R.mvE rfl cA ?_
        refine R.fldA Tryz.underlying24 rfl Tryz.sizeOf22 (by decide) rfl rfl ?_
        refine R.ldH Tryz.isAgg22 rfl rfl ((s17.trans (s_l1.trans (s32.trans (sF32_0_0_3.trans s_l2)))) _ _ hb3_1) rfl ?_
        refine R.mvE rfl cA ?_
        have hl59 : r43.1.toNat < a0.length := bA
        obtain ⟨y59, e59, h59⟩ : ∃ y, y = (a0.getD r43.1.toNat (((0, []) : Int × (List Int)) : Int × (List Int))) ∧ a0[r43.1.toNat]? = some y := ⟨_, rfl, getD_get (by first | exact hl59 | simpa using hl59 | (simp only [List.length_set]; omega) | omega | (rw [(sortI_perm _).length_eq]; exact hl59))⟩
        obtain ⟨b59, o59, i59, k59⟩ := RdS.elem (ha0_0.mono (sb3_1.trans (s17.trans (s_l1.trans (s32.trans (sF32_0_0_3.trans s_l2)))))) h59
        obtain ⟨l59, g59, k59⟩ := k59
        obtain ⟨z59_1, rfl, r59_1⟩ := g59
        obtain ⟨A59_1, p59_1, rfl, m59_1, n59_1, r59_1⟩ := r59_1.shape
        have tr59 := hr y59 (List.mem_of_getElem? h59)
        have tl59 : y59.2.length = y50.2.length := by rw [e59, e50]
        refine R.ixp Tryz.underlying22 Tryz.sizeOf45 rfl rfl rfl bA i59 ?_
        refine R.fldA Tryz.underlying45 rfl Tryz.sizeOf25 (by decide) rfl rfl ?_
        refine R.ldC Tryz.isAgg25 rfl rfl (k59 1 _ rfl) ?_
        obtain ⟨k62, y62, r62⟩ := Src.rdA r59_1
        refine R.copyD (v := (.slice A54 (List.replicate y50.2.length ((0 : Int))).length p54)) Tryz_ty25 rfl rfl rfl w54 .hd (r62 _) y62 (by first | (simp; done) | (simp; omega)) ?_
        intro cm541 wm541
        refine TL.nil (Post.thnN ?_)
        exact ⟨(.slice A54 (List.replicate y50.2.length ((0 : Int))).length p54, y59.2, cm541), HLe.refl _, ⟨(Has.cons (.tl .hd) (Has.cons (.tl .hd) (Has.cons (.tl .hd) (Has.cons .hd Has.nil)))), wm541, bA, (by subst e59; subst e50; rw [if_t c46])⟩, rfl, rfl, rfl, rfl, rfl, rfl, rfl, rfl, rfl, rfl, trivial⟩
      refine T.set 46 (.bool false) (congrArg Value.bool c46) ?_
      refine T.skip (Post.thnN ?_)
      exact ⟨(.slice none 0 0, [], []), HLe.refl _, ⟨(Has.cons .hd (Has.cons .hd (Has.cons .hd (Has.none Has.nil)))), OwnS.nil, bA, (by rw [if_f c46])⟩, rfl, rfl, rfl, rfl, rfl, rfl, rfl, rfl, rfl, rfl, trivial⟩
    intro ⟨v13c3, x13c3, c13c3⟩ σ_c3 H_c3 L_c3 ds_c3 s_c3 hI_c3
    obtain ⟨hLc3, w13c3, hBc3_0, hTc3⟩ := hI_c3
    obtain ⟨A13c3, p13c3, rfl, m13c3, n13c3_⟩ := OwnS.shape w13c3
    refine T.has hLc3 ?_
    refine T.seq ?_
    refine T.seq ?_
    refine T.region ?_
    refine R.mvE rfl cA ?_
    refine R.mvE rfl cA ?_
    refine R.callv rfl rfl rfl (slices_Contains_Id_d _ _ a1 (ha1.mono (sb3_1.trans (s17.trans (s_l1.trans (s32.trans (sF32_0_0_3.trans (s_l2.trans s_c3))))))) yl2) ?_
    refine TL.nil (Post.thnN ?_)
    refine T.cutK (ι := Value × (List Int) × Chunk) (fun ⟨v13c4, x13c4, c13c4⟩ H' L' ds' => Has L' [[(b7, .cells #[.slice Ab7l2_0 xb7l2_0.length pb7l2_0] 24)], [(b6, .cells #[.slice none 0 0] 24)], cb7l2_0, c13c4] ∧ OwnS (intE .i64) 3 H' v13c4 x13c4 c13c4 ∧ (if yl2 ∈ a1 then (a2 x13c3) else x13c3 : (List Int)) = x13c4) (fun ⟨v13c4, x13c4, c13c4⟩ => [(1, .slice Aa1 a1.length ca1), (2, fa2), (3, .pointer (some ⟨b3, 0, none⟩)), (6, .pointer (some ⟨b6, 0, none⟩)), (7, .pointer (some ⟨b7, 0, none⟩)), (12, .int .u64 yl2), (13, v13c4), (32, .slice A32_0_0 r32.length p32_0_0), (33, .int .i64 (r32.length : Int)), (34, .int .i64 (kl2 : Int))]) ?_ ?_
    · refine T.condD rfl (fun c65 => ?_) (fun c65 => ?_)
      · refine T.set 65 (.bool true) (congrArg Value.bool (decide_eq_true c65)) ?_
        refine T.region ?_
        refine R.mvE rfl cA ?_
        refine R.mvE rfl cA ?_
        refine TL.call [false, false, false, true] rfl rfl rfl (ha2 _ (sb3_1.trans (s17.trans (s_l1.trans (s32.trans (sF32_0_0_3.trans (s_l2.trans s_c3)))))) _ _ _ bA w13c3) ?_
        intro v68 H68 L68 s68 q68
        obtain ⟨u68, c68, hv68, hc68, w68⟩ := q68
        subst hv68; subst hc68
        obtain ⟨x68, e68⟩ : ∃ x, x = (a2 x13c3) := ⟨_, rfl⟩
        rw [← e68] at w68
        obtain ⟨A68, p68, rfl, m68, n68⟩ := OwnS.shape w68
        refine R.asE rfl cA ?_
        refine TL.nil (Post.thnN ?_)
        exact ⟨(.slice A68 x68.length p68, x68, c68), s68, ⟨(Has.cons (.tl .hd) (Has.cons (.tl .hd) (Has.cons (.tl .hd) (Has.cons .hd Has.nil)))), w68, (by subst e68; rw [if_pos c65])⟩, rfl, rfl, rfl, rfl, rfl, rfl, rfl, rfl, rfl, rfl, trivial⟩
      refine T.set 65 (.bool false) (congrArg Value.bool (decide_eq_false c65)) ?_
      refine T.skip (Post.thnN ?_)
      exact ⟨(.slice A13c3 x13c3.length p13c3, x13c3, c13c3), HLe.refl _, ⟨(Has.cons .hd (Has.cons .hd (Has.cons .hd (Has.cons .hd Has.nil)))), w13c3, (by rw [if_neg c65])⟩, rfl, rfl, rfl, rfl, rfl, rfl, rfl, rfl, rfl, rfl, trivial⟩
    intro ⟨v13c4, x13c4, c13c4⟩ σ_c4 H_c4 L_c4 ds_c4 s_c4 hI_c4
    obtain ⟨hLc4, w13c4, hTc4⟩ := hI_c4
    obtain ⟨A13c4, p13c4, rfl, m13c4, n13c4_⟩ := OwnS.shape w13c4
    refine T.has hLc4 ?_
    refine T.seq ?_
    refine T.region ?_
    refine R.mvE rfl cA ?_
    refine R.len Tryz.underlying25 rfl rfl ?_
    refine R.gtr rfl rfl rfl ?_
    refine TL.nil (Post.thnN ?_)
    refine T.condD rfl (fun c71 => ?_) (fun c71 => ?_)
    · refine T.set 71 (.bool true) (congrArg Value.bool (decide_eq_true c71)) ?_
      refine T.region ?_
      refine R.fldA Tryz.underlying24 rfl Tryz.sizeOf22 (by decide) rfl rfl ?_
      refine R.ld Tryz.isAgg22 rfl rfl .hd rfl ?_
      refine R.mvE rfl cA ?_
      refine R.mvE rfl cA ?_
      refine R.bld (cs := [.int .u64 yl2, .slice A13c4 x13c4.length p13c4]) rfl (fun _ => by kernel_rfl) ?_
      refine TL.shut (.tl (.tl (.tl .hd))) ?_
      intro HF13c4_4 sF13c4_4 qF13c4_4
      have fF13c4_4 := OwnS.read w13c4 sF13c4_4 qF13c4_4
      refine R.bs (e := 45) (cs := [.int .u64 yl2, .slice A13c4 x13c4.length p13c4]) rfl (fun _ => by kernel_rfl) ?_
      intro b77
      have w77 : OwnS listedE 45 HF13c4_4 (.slice (some ⟨b77, 0, none⟩) 1 1) [(yl2, x13c4)] [(b77, .cells #[.int .u64 yl2, .slice A13c4 x13c4.length p13c4] 45)] := OwnS.lit (xs := [(yl2, x13c4)]) (cellsOf_cons (a := [.int .u64 yl2, .slice A13c4 x13c4.length p13c4]) ⟨_, rfl, fF13c4_4⟩ cellsOf_nil) (by show 1 ≤ maxLen; decide)
      obtain ⟨k78, y78, r78⟩ := Src.ownA w77
      refine R.app (E := listedE) (e := 45) (xs := xb7l2_0) (ys := [(yl2, x13c4)]) Tryz_ty22 rfl rfl rfl (OwnS.mono wb7l2_0 (s_c3.trans (s_c4.trans sF13c4_4))) (.tl (.tl (.tl .hd))) (r78 _ .hd) y78 (by (try simp only [List.length_append, List.length_cons, List.length_nil, List.length_replicate, List.length_take, List.length_drop]); omega) (by (try simp only [List.length_append, List.length_cons, List.length_nil, List.length_replicate, List.length_take, List.length_drop]); omega) ?_
      intro v78 c78 w78
      obtain ⟨A78, p78, rfl, m78, n78⟩ := OwnS.shape w78
      refine TL.del (.tl .hd) ?_
      refine R.fldA Tryz.underlying24 rfl Tryz.sizeOf22 (by decide) rfl rfl ?_
      refine R.stX (old := [.slice Ab7l2_0 xb7l2_0.length pb7l2_0]) (l := [.slice A78 (xb7l2_0 ++ [(yl2, x13c4)]).length p78]) (new := [.slice A78 (xb7l2_0 ++ [(yl2, x13c4)]).length p78]) (et := 24) Tryz.sizeOf22 rfl rfl rfl (cells1 rfl) rfl (by show 0 + 1 ≤ 1; decide) rfl (all_one rfl) (.tl .hd) ?_
      refine TL.nil (Post.blkN ?_)
      refine id (Post.thnN ?_)
      refine T.region ?_
      refine R.addI rfl rfl rfl oA ?_
      refine R.mvE rfl cA ?_
      refine TL.nil (Post.thnN ?_)
      exact ⟨(kl2 + 1, .slice A78 (xb7l2_0 ++ [(yl2, x13c4)]).length p78, (xb7l2_0 ++ [(yl2, x13c4)]), c78), (s_l2.trans (s_c3.trans (s_c4.trans sF13c4_4))), ⟨oA, (Has.cons (.tl .hd) (Has.cons (.tl .hd) (Has.cons .hd Has.nil))), w78, bA, (by subst er43; rw [← hQl2, drop_cons hyl2, index_turned_l2]; rw [LR.seq_go, hTc3, LR.seq_go, hTc4, LR.seq_go, if_pos c71])⟩, by show r32.length - (kl2 + 1) < r32.length - kl2; omega, rfl, rfl, rfl, rfl, rfl, rfl, rfl, rfl, trivial⟩
    refine T.set 71 (.bool false) (congrArg Value.bool (decide_eq_false c71)) ?_
    refine T.skip (Post.blkN ?_)
    refine id (Post.thnN ?_)
    refine T.region ?_
    refine R.addI rfl rfl rfl oA ?_
    refine R.mvE rfl cA ?_
    refine TL.nil (Post.thnN ?_)
    exact ⟨(kl2 + 1, .slice Ab7l2_0 xb7l2_0.length pb7l2_0, xb7l2_0, cb7l2_0), (s_l2.trans (s_c3.trans s_c4)), ⟨oA, (Has.cons .hd (Has.cons .hd (Has.cons .hd Has.nil))), (OwnS.mono wb7l2_0 (s_c3.trans s_c4)), bA, (by subst er43; rw [← hQl2, drop_cons hyl2, index_turned_l2]; rw [LR.seq_go, hTc3, LR.seq_go, hTc4, LR.seq_go, if_neg c71])⟩, by show r32.length - (kl2 + 1) < r32.length - kl2; omega, rfl, rfl, rfl, rfl, rfl, rfl, rfl, rfl, trivial⟩
  refine T.exit (Post.thnE (Post.thnE (Post.blkX ?_)))
  have hEl2 : index_turned_l2 a0 a1 a2 r32 [] = xb7l2_0 := (hQl2.symm.trans (by rw [show kl2 = r32.length by omega, List.drop_length, index_turned_l2]))
  refine id (Post.thnN ?_)
  refine T.seq ?_
  refine T.region ?_
  refine R.ldX (cs := [.slice Ab7l2_0 xb7l2_0.length pb7l2_0]) (l := [.slice Ab7l2_0 xb7l2_0.length pb7l2_0]) Tryz.isAgg24 Tryz.sizeOf24 rfl rfl .hd rfl rfl ?_
  refine R.stX (old := [.slice none 0 0]) (l := [.slice Ab7l2_0 xb7l2_0.length pb7l2_0]) (new := [.slice Ab7l2_0 xb7l2_0.length pb7l2_0]) (et := 24) Tryz.sizeOf24 rfl rfl rfl rfl rfl (by show 0 + 1 ≤ 1; decide) rfl (all_one rfl) (.tl .hd) ?_
  refine TL.nil (Post.thnN ?_)
  refine T.has (Has.cons (.tl (.tl .hd)) (Has.cons (.tl .hd) Has.nil)) ?_
  refine T.ret ?_
  have hM : index_turned_m a0 a1 a2 = xb7l2_0 := by subst er32; subst e17; rw [index_turned_m, hEl1, LR.seq_go, LR.seq_go, hEl2, LR.seq_go]
  exact finR1 (v := .agg #[.slice Ab7l2_0 xb7l2_0.length pb7l2_0]) [cb7l2_0] rfl (.cellA (cs := [.slice Ab7l2_0 xb7l2_0.length pb7l2_0]) (l := [.slice Ab7l2_0 xb7l2_0.length pb7l2_0]) Tryz.isAgg24 Tryz.sizeOf24 rfl (.tl .hd) rfl rfl) (List.sublist_append_left ([cb7l2_0] : Own) _) ⟨.slice Ab7l2_0 xb7l2_0.length pb7l2_0, cb7l2_0, by first | rw [hM] | rfl, rfl, by rw [hM]; exact wb7l2_0⟩
def index_Put_1_m (q0 : Int) (a0 : List Int) : (List Int) :=
  LR.seq (slices_BinarySearch_int_m a0 q0) (fun r9 => (ins a0 r9.1.toNat q0))
set_option maxHeartbeats 3200000 in
theorem index_Put_1_c (H : Heap) (b1000 : Nat) (q0 : Int) (hb0 : H b1000 = some (.cells #[.int .i64 q0] 3)) (va0 : Value) (a0 : List Int) (Ca0 : Chunk) (ha0 : OwnS (intE .i64) 3 H va0 a0 Ca0) (hl : a0.length ≤ 2000000) : Fc Tryz.prog (.func (.func 36) #[] ([.pointer (some ⟨b1000, 0, none⟩)] : List Value).toArray) [va0] H [Ca0] (fun v' H' L' => ∃ u0_0 c0_0, v' = u0_0 ∧ L' = [c0_0] ∧ OwnS (intE .i64) 3 H' u0_0 (index_Put_1_m q0 a0) c0_0) := by
  refine Fc.of_body (N := 17) Tryz.func36 rfl kA rfl rfl ?_
  intro w0
  obtain ⟨Aa0, pa0, rfl, ma0, na0⟩ := OwnS.shape ha0
  refine T.seq ?_
  refine T.region ?_
  refine R.asE rfl cA ?_
  refine TL.nil (Post.thnN ?_)
  refine T.seq ?_
  refine T.region ?_
  refine R.mvE rfl cA ?_
  refine R.ldH Tryz.isAgg3 rfl rfl hb0 rfl ?_
  obtain ⟨r9, er9⟩ : ∃ r, r = (slices_BinarySearch_int_m a0 q0) := ⟨_, rfl⟩
  refine R.callvB (v := .tuple #[.int .i64 r9.1, .bool r9.2]) rfl rfl rfl (fun HB9 sB9 qB9 => by have fB9_0 := OwnS.read ha0 sB9 (In.all .hd qB9); exact (by rw [er9]; exact slices_BinarySearch_int_c _ _ a0 fB9_0 (q0) bA)) ?_
  have tb9 := bsi_rng _ _ _ er9 bA
  refine R.mvE rfl cA ?_
  refine R.ext rfl rfl rfl ?_
  refine R.ext rfl rfl rfl ?_
  refine R.asE rfl cA ?_
  refine R.asE rfl cA ?_
  refine TL.nil (Post.thnN ?_)
  refine T.seq ?_
  refine T.region ?_
  refine R.mvE rfl cA ?_
  refine R.mvE rfl cA ?_
  refine R.ldH Tryz.isAgg3 rfl rfl hb0 rfl ?_
  refine R.bs rfl (run_buildSlice1 Tryz.underlying25 Tryz.sizeOf3 Tryz.zeroValue3 rfl rfl) ?_
  intro b15
  have w15 : OwnS (intE .i64) 3 H (.slice (some ⟨b15, 0, none⟩) 1 1) [q0] [(b15, .cells #[.int .i64 q0] 3)] := OwnS.lit (xs := [q0]) (cellsOf_cons (a := [.int .i64 q0]) rfl cellsOf_nil) (by show 1 ≤ maxLen; decide)
  refine TL.shut .hd ?_
  intro HF15_1 sF15_1 qF15_1
  have fF15_1 := OwnS.read w15 sF15_1 qF15_1
  refine TL.call [true] rfl rfl rfl (insert_c _ _ a0 _ (OwnS.mono ha0 sF15_1) (q0) _ _ (shut1 qF15_1) (r9.1) bA bA) ?_
  intro v16 H16 L16 s16 q16
  obtain ⟨c16, rfl, w16⟩ := q16
  obtain ⟨x16, e16⟩ : ∃ x, x = (ins a0 r9.1.toNat q0) := ⟨_, rfl⟩
  rw [← e16] at w16
  obtain ⟨A16, p16, rfl, m16, n16⟩ := OwnS.shape w16
  refine R.asE rfl cA ?_
  refine TL.nil (Post.thnN ?_)
  refine T.has (Has.cons .hd Has.nil) ?_
  refine T.ret ?_
  have hM : index_Put_1_m q0 a0 = x16 := by subst e16; subst er9; rw [index_Put_1_m, LR.seq_go]
  exact fin1L (v := .slice A16 x16.length p16) [c16] rfl rfl (List.Sublist.refl _) ⟨.slice A16 x16.length p16, c16, by first | rw [hM] | rfl, rfl, by rw [hM]; exact w16⟩
def index_Put_m (a0 : (List (Int × (List Int)))) (a1 : Int) (a2 : List Int) : ((List (Int × (List Int)))) × Int :=
  if ((index_Check_m a0) : Int) ≠ 0 then ((([] : (List (Int × (List Int)))), 240)) else (if (!(index_table_m a1)) = true then ((([] : (List (Int × (List Int)))), 2)) else (if ((types_Check_m a2) : Int) ≠ 0 then ((([] : (List (Int × (List Int)))), 130)) else (LR.seq (index_in_m a0 a1) (fun r26 => if (0 : Int) < (r26.length : Int) then ((([] : (List (Int × (List Int)))), 5)) else (LR.seq (index_Keys_m a2) (fun r32 => LR.seq (index_turned_m a0 r32 ((fun z => index_Put_1_m a1 z))) (fun r34 => (r34, 0))))))))
set_option maxHeartbeats 3200000 in
theorem index_Put_c (H : Heap) (a0 : (List (Int × (List Int)))) (va0_0 : Value) (ha0_0 : RdS listedE H va0_0 a0) (a1 : Int) (va2 : Value) (a2 : List Int) (ha2 : RdS (intE .u64) H va2 a2) (hn : a0.length ≤ 1000) (hr : ∀ r ∈ a0, r.2.length ≤ 1000) : Fc Tryz.prog (fnv 10) [.agg #[va0_0], .int .i64 a1, va2] H [] (fun v' H' L' => ∃ u0_0 c0_0, v' = .tuple #[.agg #[u0_0], .int .i64 (index_Put_m a0 a1 a2).2] ∧ L' = [c0_0] ∧ OwnS listedE 45 H' u0_0 (index_Put_m a0 a1 a2).1 c0_0) := by
  refine Fc.of_body (N := 35) Tryz.func10 rfl kA rfl rfl ?_
  intro w0
  obtain ⟨Aa0_0, ca0_0, rfl, hca0_0, hda0_0, ha0_0⟩ := ha0_0.shape
  obtain ⟨Aa2, ca2, rfl, hca2, hda2, ha2⟩ := ha2.shape
  refine T.seq ?_
  refine T.region ?_
  refine R.box rfl cA ?_
  intro b3
  refine R.box rfl cA ?_
  intro b4
  refine R.alloc Tryz.zeroValue24 rfl ?_
  intro b6
  refine R.asE rfl cA ?_
  refine TL.shut (.tl .hd) ?_
  intro Hb4_1 sb4_1 qb4_1
  have hb4_1 : Hb4_1 b4 = some (.cells #[.int .i64 a1] 3) := shut1 qb4_1
  refine TL.shut (.tl .hd) ?_
  intro Hb3_2 sb3_2 qb3_2
  have hb3_2 : Hb3_2 b3 = some (.cells #[.slice Aa0_0 a0.length ca0_0] 24) := shut1 qb3_2
  refine TL.nil (Post.thnN ?_)
  refine T.seq ?_
  refine T.block ?_
  refine T.seq ?_
  refine T.region ?_
  refine R.ldXH (cs := [.slice Aa0_0 a0.length ca0_0]) (l := [.slice Aa0_0 a0.length ca0_0]) Tryz.isAgg24 Tryz.sizeOf24 rfl rfl hb3_2 rfl rfl ?_
  refine R.callv rfl rfl rfl (index_Check_c _ a0 _ (ha0_0.mono (sb4_1.trans sb3_2)) (by first | omega | assumption | (simp; done) | (simp; omega) | (simp at *; omega)) (by first | assumption | exact rows_le (by assumption) oA | (intro r h; simp at h; done))) ?_
  refine R.neq rfl rfl rfl ?_
  refine R.asE rfl cA ?_
  refine TL.nil (Post.thnN ?_)
  refine T.condD rfl (fun c8 => ?_) (fun c8 => ?_)
  · refine T.set 8 (.bool true) (congrArg Value.bool (decide_eq_true c8)) ?_
    refine T.seq ?_
    refine T.region ?_
    refine R.bld (cs := [.slice none 0 0]) rfl (fun _ => by kernel_rfl) ?_
    refine R.stX (old := [.slice none 0 0]) (l := [.slice none 0 0]) (new := [.slice none 0 0]) (et := 24) Tryz.sizeOf24 rfl rfl rfl rfl rfl (by show 0 + 1 ≤ 1; decide) rfl (all_one rfl) .hd ?_
    refine R.asE rfl cA ?_
    refine TL.nil (Post.thnN ?_)
    refine T.has (Has.none (Has.cons .hd Has.nil)) ?_
    refine T.ret (Post.blkR (Post.thnR ?_))
    have hM : index_Put_m a0 a1 a2 = (([] : (List (Int × (List Int)))), 240) := by rw [index_Put_m, if_pos c8]
    exact finR2 (v := .agg #[.slice none 0 0]) (v' := .int .i64 240) [[]] rfl (.cellA (cs := [.slice none 0 0]) (l := [.slice none 0 0]) Tryz.isAgg24 Tryz.sizeOf24 rfl (.tl .hd) rfl rfl) (.tmp rfl) (List.sublist_append_left ([[]] : Own) _) ⟨.slice none 0 0, [], by first | rw [hM] | rfl, rfl, by rw [hM]; exact OwnS.nil⟩
  refine T.set 8 (.bool false) (congrArg Value.bool (decide_eq_false c8)) ?_
  refine T.seq ?_
  refine T.region ?_
  refine R.ldH Tryz.isAgg3 rfl rfl (sb3_2 _ _ hb4_1) rfl ?_
  refine R.callv rfl rfl rfl (index_table_c _ (a1)) ?_
  refine R.not rfl rfl ?_
  refine R.asE rfl cA ?_
  refine TL.nil (Post.thnN ?_)
  refine T.cond rfl (fun c13 => ?_) (fun c13 => ?_)
  · refine T.set 13 (.bool true) (congrArg Value.bool c13) ?_
    refine T.seq ?_
    refine T.region ?_
    refine R.bld (cs := [.slice none 0 0]) rfl (fun _ => by kernel_rfl) ?_
    refine R.stX (old := [.slice none 0 0]) (l := [.slice none 0 0]) (new := [.slice none 0 0]) (et := 24) Tryz.sizeOf24 rfl rfl rfl rfl rfl (by show 0 + 1 ≤ 1; decide) rfl (all_one rfl) .hd ?_
    refine R.asE rfl cA ?_
    refine TL.nil (Post.thnN ?_)
    refine T.has (Has.none (Has.cons .hd Has.nil)) ?_
    refine T.ret (Post.blkR (Post.thnR ?_))
    have hM : index_Put_m a0 a1 a2 = (([] : (List (Int × (List Int)))), 2) := by rw [index_Put_m, if_neg c8, if_t c13]
    exact finR2 (v := .agg #[.slice none 0 0]) (v' := .int .i64 2) [[]] rfl (.cellA (cs := [.slice none 0 0]) (l := [.slice none 0 0]) Tryz.isAgg24 Tryz.sizeOf24 rfl (.tl .hd) rfl rfl) (.tmp rfl) (List.sublist_append_left ([[]] : Own) _) ⟨.slice none 0 0, [], by first | rw [hM] | rfl, rfl, by rw [hM]; exact OwnS.nil⟩
  refine T.set 13 (.bool false) (congrArg Value.bool c13) ?_
  refine T.seq ?_
  refine T.region ?_
  refine R.mvE rfl cA ?_
  refine R.callv rfl rfl rfl (types_Check_c _ _ a2 (ha2.mono (sb4_1.trans sb3_2))) ?_
  refine R.neq rfl rfl rfl ?_
  refine R.asE rfl cA ?_
  refine TL.nil (Post.thnN ?_)
  refine T.condD rfl (fun c18 => ?_) (fun c18 => ?_)
  · refine T.set 18 (.bool true) (congrArg Value.bool (decide_eq_true c18)) ?_
    refine T.seq ?_
    refine T.region ?_
    refine R.bld (cs := [.slice none 0 0]) rfl (fun _ => by kernel_rfl) ?_
    refine R.stX (old := [.slice none 0 0]) (l := [.slice none 0 0]) (new := [.slice none 0 0]) (et := 24) Tryz.sizeOf24 rfl rfl rfl rfl rfl (by show 0 + 1 ≤ 1; decide) rfl (all_one rfl) .hd ?_
    refine R.asE rfl cA ?_
    refine TL.nil (Post.thnN ?_)
    refine T.has (Has.none (Has.cons .hd Has.nil)) ?_
    refine T.ret (Post.blkR (Post.thnR ?_))
    have hM : index_Put_m a0 a1 a2 = (([] : (List (Int × (List Int)))), 130) := by rw [index_Put_m, if_neg c8, if_f c13, if_pos c18]
    exact finR2 (v := .agg #[.slice none 0 0]) (v' := .int .i64 130) [[]] rfl (.cellA (cs := [.slice none 0 0]) (l := [.slice none 0 0]) Tryz.isAgg24 Tryz.sizeOf24 rfl (.tl .hd) rfl rfl) (.tmp rfl) (List.sublist_append_left ([[]] : Own) _) ⟨.slice none 0 0, [], by first | rw [hM] | rfl, rfl, by rw [hM]; exact OwnS.nil⟩
  refine T.set 18 (.bool false) (congrArg Value.bool (decide_eq_false c18)) ?_
  refine T.seq ?_
  refine T.region ?_
  refine R.ldXH (cs := [.slice Aa0_0 a0.length ca0_0]) (l := [.slice Aa0_0 a0.length ca0_0]) Tryz.isAgg24 Tryz.sizeOf24 rfl rfl hb3_2 rfl rfl ?_
  refine R.ldH Tryz.isAgg3 rfl rfl (sb3_2 _ _ hb4_1) rfl ?_
  obtain ⟨r26, er26⟩ : ∃ r, r = (index_in_m a0 a1) := ⟨_, rfl⟩
  refine TL.call [] rfl rfl rfl (index_in_c _ a0 _ (ha0_0.mono (sb4_1.trans sb3_2)) (a1) bA) ?_
  intro v26 H26 L26 s26 q26
  rw [← er26] at q26
  obtain ⟨u26_0_0, c26_0_0, rfl, rfl, w26_0_0⟩ := q26
  obtain ⟨A26_0_0, p26_0_0, rfl, m26_0_0, n26_0_0⟩ := OwnS.shape w26_0_0
  have ti26 := in_len _ _ _ er26
  refine R.len Tryz.underlying30 rfl rfl ?_
  refine R.gtr rfl rfl rfl ?_
  refine R.asE rfl cA ?_
  refine TL.nil (Post.thnN ?_)
  refine T.condD rfl (fun c23 => ?_) (fun c23 => ?_)
  · refine T.set 23 (.bool true) (congrArg Value.bool (decide_eq_true c23)) ?_
    refine T.seq ?_
    refine T.region ?_
    refine R.bld (cs := [.slice none 0 0]) rfl (fun _ => by kernel_rfl) ?_
    refine R.stX (old := [.slice none 0 0]) (l := [.slice none 0 0]) (new := [.slice none 0 0]) (et := 24) Tryz.sizeOf24 rfl rfl rfl rfl rfl (by show 0 + 1 ≤ 1; decide) rfl (all_one rfl) (.tl .hd) ?_
    refine R.asE rfl cA ?_
    refine TL.nil (Post.thnN ?_)
    refine T.has (Has.none (Has.cons (.tl .hd) Has.nil)) ?_
    refine T.ret (Post.blkR (Post.thnR ?_))
    have hM : index_Put_m a0 a1 a2 = (([] : (List (Int × (List Int)))), 5) := by subst er26; rw [index_Put_m, if_neg c8, if_f c13, if_neg c18, LR.seq_go, if_pos c23]
    exact finR2 (v := .agg #[.slice none 0 0]) (v' := .int .i64 5) [[]] rfl (.cellA (cs := [.slice none 0 0]) (l := [.slice none 0 0]) Tryz.isAgg24 Tryz.sizeOf24 rfl (.tl .hd) rfl rfl) (.tmp rfl) (List.sublist_append_left ([[]] : Own) _) ⟨.slice none 0 0, [], by first | rw [hM] | rfl, rfl, by rw [hM]; exact OwnS.nil⟩
  refine T.set 23 (.bool false) (congrArg Value.bool (decide_eq_false c23)) ?_
  refine T.skip (Post.blkN ?_)
  refine id (Post.thnN ?_)
  refine T.seq ?_
  refine T.draw Tryz_mixed kA ?_
  refine Plan.v 0 [1, 2, 3, 4, 5, 6] kA kA kA kA rfl (fun _ _ h_ => R.ldXH (cs := [.slice Aa0_0 a0.length ca0_0]) (l := [.slice Aa0_0 a0.length ca0_0]) Tryz.isAgg24 Tryz.sizeOf24 rfl rfl (s26 _ _ hb3_2) rfl rfl (TL.nil h_)) ?_
  refine Plan.v 1 [2, 3, 4, 5, 6] kA kA kA kA rfl (fun _ _ h_ => R.mvE rfl cA (TL.nil h_)) ?_
  refine Plan.v 3 [2, 4, 5, 6] kA kA kA kA rfl (fun _ _ h_ => R.mkf (cs := [_]) rfl rfl (TL.nil h_)) ?_
  refine Plan.s1 2 [4, 5, 6] kA kA rfl ?_
  obtain ⟨r32, er32⟩ : ∃ r, r = (index_Keys_m a2) := ⟨_, rfl⟩
  refine TL.call [] rfl rfl rfl (index_Keys_c _ _ a2 (ha2.mono (sb4_1.trans (sb3_2.trans s26)))) ?_
  intro v32 H32 L32 s32 q32
  rw [← er32] at q32
  obtain ⟨u32_0_0, c32_0_0, rfl, rfl, w32_0_0⟩ := q32
  obtain ⟨A32_0_0, p32_0_0, rfl, m32_0_0, n32_0_0⟩ := OwnS.shape w32_0_0
  have tK32 := Keys_len _ _ er32
  refine TL.nil (Plan.e1 (s32) ?_)
  refine Plan.s1 4 [5, 6] kA kA rfl ?_
  refine TL.shut .hd ?_
  intro HF32_0_0_4 sF32_0_0_4 qF32_0_0_4
  have fF32_0_0_4 := OwnS.read w32_0_0 sF32_0_0_4 qF32_0_0_4
  obtain ⟨r34, er34⟩ : ∃ r, r = (index_turned_m a0 r32 ((fun z => index_Put_1_m a1 z))) := ⟨_, rfl⟩
  refine TL.call [] rfl rfl rfl (index_turned_c _ a0 _ (ha0_0.mono (sb4_1.trans (sb3_2.trans (s26.trans (s32.trans sF32_0_0_4))))) _ r32 fF32_0_0_4 _ (fun z => index_Put_1_m a1 z) (fun H2 h2 vz z cz hz hO => index_Put_1_c H2 b4 (a1) (h2 _ _ ((sb3_2.trans (s26.trans (s32.trans sF32_0_0_4))) _ _ hb4_1)) vz z cz hO bA) rfl bA bA bA) ?_
  intro v34 H34 L34 s34 q34
  rw [← er34] at q34
  obtain ⟨u34_0_0, c34_0_0, rfl, rfl, w34_0_0⟩ := q34
  obtain ⟨A34_0_0, p34_0_0, rfl, m34_0_0, n34_0_0⟩ := OwnS.shape w34_0_0
  refine TL.nil (Plan.e1 ((sF32_0_0_4.trans s34)) ?_)
  refine Plan.s1 5 [6] kA kA rfl ?_
  refine R.stX (old := [.slice none 0 0]) (l := [.slice A34_0_0 r34.length p34_0_0]) (new := [.slice A34_0_0 r34.length p34_0_0]) (et := 24) Tryz.sizeOf24 rfl rfl rfl rfl rfl (by show 0 + 1 ≤ 1; decide) rfl (all_one rfl) (.tl (.tl .hd)) ?_
  refine TL.nil (Plan.e0 (HLe.refl _) ?_)
  refine Plan.v 6 [] kA kA kA kA rfl (fun _ _ h_ => R.asE rfl cA (TL.nil h_)) ?_
  refine Plan.done (Post.thnN ?_)
  refine T.has (Has.cons .hd (Has.cons (.tl .hd) Has.nil)) ?_
  refine T.ret ?_
  have hM : index_Put_m a0 a1 a2 = (r34, 0) := by subst er34; subst er32; subst er26; rw [index_Put_m, if_neg c8, if_f c13, if_neg c18, LR.seq_go, if_neg c23, LR.seq_go, LR.seq_go]
  exact finR2 (v := .agg #[.slice A34_0_0 r34.length p34_0_0]) (v' := .int .i64 0) [c34_0_0] rfl (.cellA (cs := [.slice A34_0_0 r34.length p34_0_0]) (l := [.slice A34_0_0 r34.length p34_0_0]) Tryz.isAgg24 Tryz.sizeOf24 rfl (.tl .hd) rfl rfl) (.tmp rfl) (List.sublist_append_left ([c34_0_0] : Own) _) ⟨.slice A34_0_0 r34.length p34_0_0, c34_0_0, by first | rw [hM] | rfl, rfl, by rw [hM]; exact w34_0_0⟩
def index_Drop_1_1_1_m (q0 : Int) (a0 : Int) : Bool :=
  (decide (a0 = q0))
def index_Drop_1_m (q0 : Int) (a0 : List Int) : (List Int) :=
  LR.seq (slices_DeleteFunc_int_m a0 ((fun z0 => index_Drop_1_1_1_m q0 z0))) (fun r6 => r6)
def index_Drop_m (a0 : (List (Int × (List Int)))) (a1 : Int) : ((List (Int × (List Int)))) × Int :=
  if ((index_Check_m a0) : Int) ≠ 0 then ((([] : (List (Int × (List Int)))), (index_Check_m a0))) else (LR.seq (index_in_m a0 a1) (fun r16 => if (r16.length : Int) = 0 then ((([] : (List (Int × (List Int)))), 4)) else (LR.seq (index_turned_m a0 r16 ((fun z => index_Drop_1_m a1 z))) (fun r24 => (r24, 0)))))
end Go.SX

set_option linter.unusedVariables false
set_option linter.unusedSimpArgs false
namespace Go.SX
open Go Go.Proofs

theorem turned_l2_len (a : List (Int × List Int)) (ids : List Int) (g : List Int → List Int) (B : Nat) (hg : ∀ z : List Int, (g z).length ≤ z.length + 1) (hB : ∀ q ∈ a, q.2.length ≤ B) : ∀ (l : List Int) (s : List (Int × List Int)), (∀ q ∈ s, q.2.length ≤ B + 1) → (index_turned_l2 a ids g l s).length ≤ s.length + l.length ∧ ∀ q ∈ index_turned_l2 a ids g l s, q.2.length ≤ B + 1
  | [], s, hs => ⟨Nat.le_refl _, hs⟩
  | y :: ys, s, hs => by
    rw [index_turned_l2]
    simp only [LR.seq_go]
    generalize slices_BinarySearchFunc_Listed_m a (y, []) (fun z0 z1 => index_compare_m z0 z1) = r
    have h1 : (if r.2 = true then (a.getD r.1.toNat (0, [])).2 else [] : List Int).length ≤ B := by
      split
      · rcases getD_mem_or a r.1.toNat (0, []) with h | h
        · exact hB _ h
        · rw [h]; exact Nat.zero_le _
      · exact Nat.zero_le _
    generalize (if r.2 = true then (a.getD r.1.toNat (0, [])).2 else [] : List Int) = t at h1 ⊢
    have h2 : (if y ∈ ids then g t else t).length ≤ B + 1 := by
      split
      · have := hg t; omega
      · omega
    generalize (if y ∈ ids then g t else t) = u at h2 ⊢
    split
    · have := turned_l2_len a ids g B hg hB ys (s ++ [(y, u)]) (fun q hq => by
        rcases List.mem_append.1 hq with h | h
        · exact hs q h
        · rw [List.mem_singleton] at h; subst h; exact h2)
      rw [List.length_append, List.length_cons, List.length_nil] at this
      rw [List.length_cons]
      exact ⟨by omega, this.2⟩
    · have := turned_l2_len a ids g B hg hB ys s hs
      rw [List.length_cons]
      exact ⟨by omega, this.2⟩
theorem turned_l1_eq : ∀ (l : List (Int × List Int)) (s : List Int), index_turned_l1 l s = s ++ l.map Prod.fst
  | [], s => by simp [index_turned_l1]
  | y :: ys, s => by rw [index_turned_l1, turned_l1_eq ys]; simp
theorem turned_len (a : List (Int × List Int)) (ids : List Int) (g : List Int → List Int) (hg : ∀ z : List Int, (g z).length ≤ z.length + 1) :
    (index_turned_m a ids g).length ≤ ids.length + a.length ∧ ∀ B, (∀ q ∈ a, q.2.length ≤ B) → ∀ q ∈ index_turned_m a ids g, q.2.length ≤ B + 1 := by
  unfold index_turned_m
  simp only [LR.seq_go]
  rw [turned_l1_eq]
  have ho := once_len (ids ++ a.map Prod.fst) _ rfl
  rw [List.length_append, List.length_map] at ho
  refine ⟨?_, fun B hB => (turned_l2_len a ids g B hg hB _ [] (by simp)).2⟩
  obtain ⟨B, hB⟩ : ∃ B, ∀ q ∈ a, q.2.length ≤ B := by
    clear ho
    induction a with
    | nil => exact ⟨0, fun q h => by cases h⟩
    | cons x a ih =>
      obtain ⟨B, h⟩ := ih
      exact ⟨B + x.2.length, fun q hq => by
        rcases List.mem_cons.1 hq with e | h1
        · subst e; omega
        · have := h q h1; omega⟩
  have := (turned_l2_len a ids g B hg hB (index_once_m (ids ++ a.map Prod.fst)) [] (by simp)).1
  rw [List.length_nil] at this; omega
theorem put1_len (n : Int) (z : List Int) : (index_Put_1_m n z).length ≤ z.length + 1 := by
  unfold index_Put_1_m
  rw [LR.seq_go]
  unfold ins
  rw [List.length_append, List.length_cons, List.length_take, List.length_drop]; omega
theorem put_len (a : List (Int × List Int)) (n : Int) (l : List Int) (r : List (Int × List Int) × Int) (e : r = index_Put_m a n l) : r.1.length ≤ a.length + 48 ∧ ∀ B, (∀ q ∈ a, q.2.length ≤ B) → ∀ q ∈ r.1, q.2.length ≤ B + 1 := by
  unfold index_Put_m at e
  simp only [LR.seq_go] at e
  have hz : ∀ k : Int, r = (([] : List (Int × List Int)), k) → r.1.length ≤ a.length + 48 ∧ ∀ B, (∀ q ∈ a, q.2.length ≤ B) → ∀ q ∈ r.1, q.2.length ≤ B + 1 := fun k h => by
    rw [h]; exact ⟨Nat.zero_le _, fun _ _ q hq => by cases hq⟩
  split at e
  · exact hz _ e
  · split at e
    · exact hz _ e
    · split at e
      · exact hz _ e
      · split at e
        · exact hz _ e
        · have h1 := turned_len a (index_Keys_m l) (fun z => index_Put_1_m n z) (put1_len n)
          have h2 := Keys_len l _ rfl
          rw [e]
          exact ⟨by simp only; omega, h1.2⟩
def windroselaw14_own_l1  : List (Int × (List Int)) → ((List (Int × (List Int)))) → (List (Int × (List Int)))
  | [], sl1 => sl1
  | yl1 :: ysl1, sl1 => windroselaw14_own_l1 ysl1 ((sl1 ++ [(yl1.1, (yl1.2.take ((min yl1.2.length 12))))]))
def windroselaw14_own_m (a0 : (List (Int × (List Int)))) : ((List (Int × (List Int)))) :=
  LR.seq (windroselaw14_own_l1 (a0.take ((min a0.length 60))) []) (fun ol1 => ol1)
set_option maxHeartbeats 3200000 in
theorem windroselaw14_own_c (H : Heap) (a0 : (List (Int × (List Int)))) (va0_0 : Value) (ha0_0 : RdS listedE H va0_0 a0) : Fc Tryz.prog (fnv 6) [.agg #[va0_0]] H [] (fun v' H' L' => ∃ u0_0 c0_0, v' = .agg #[u0_0] ∧ L' = [c0_0] ∧ OwnS listedE 45 H' u0_0 (windroselaw14_own_m a0) c0_0) := by
  refine Fc.of_body (N := 36) Tryz.func6 rfl kA rfl rfl ?_
  intro w0
  obtain ⟨Aa0_0, ca0_0, rfl, hca0_0, hda0_0, ha0_0⟩ := ha0_0.shape
  refine T.seq ?_
  refine T.region ?_
  refine R.box rfl cA ?_
  intro b1
  refine R.alloc Tryz.zeroValue24 rfl ?_
  intro b2
  refine TL.shut (.tl .hd) ?_
  intro Hb1_1 sb1_1 qb1_1
  have hb1_1 : Hb1_1 b1 = some (.cells #[.slice Aa0_0 a0.length ca0_0] 24) := shut1 qb1_1
  refine TL.nil (Post.thnN ?_)
  refine T.seq ?_
  refine T.region ?_
  refine R.alloc Tryz.zeroValue24 rfl ?_
  intro b3
  refine TL.nil (Post.thnN ?_)
  refine T.seq ?_
  refine T.seq ?_
  refine T.region ?_
  refine R.fldA Tryz.underlying24 rfl Tryz.sizeOf22 (by decide) rfl rfl ?_
  refine R.ldH Tryz.isAgg22 rfl rfl hb1_1 rfl ?_
  refine R.fldA Tryz.underlying24 rfl Tryz.sizeOf22 (by decide) rfl rfl ?_
  refine R.ldH Tryz.isAgg22 rfl rfl hb1_1 rfl ?_
  refine R.len Tryz.underlying22 rfl rfl ?_
  refine R.min2 rfl rfl rfl ?_
  refine TL.set 11 (.int .i64 ((min a0.length 60 : Nat) : Int)) (congrArg (Value.int .i64) (by split <;> omega)) ?_
  have z12 := RdS.takeC (ha0_0.mono sb1_1) (i := (min a0.length 60)) oA oA
  obtain ⟨x12, e12⟩ : ∃ x, x = (a0.take ((min a0.length 60))) := ⟨_, rfl⟩
  rw [← e12] at z12
  obtain ⟨A12, p12, q12, m12, n12, r12⟩ := RdS.shape z12
  have t12 : x12.length ≤ a0.length := by rw [e12]; simp; try omega
  have t12_ : x12.length = min ((min a0.length 60)) a0.length := by rw [e12]; simp
  refine R.sH Tryz.underlying22 Tryz.sizeOf45 rfl rfl rfl oA oA  ?_
  refine TL.set 12 (.slice A12 x12.length p12) (by first | exact q12 | (rw [← q12]; simp; done) | (rw [← q12]; rfl)) ?_
  refine R.len Tryz.underlying22 rfl rfl ?_
  refine R.mvE rfl cA ?_
  refine TL.nil (Post.thnN ?_)
  refine T.block ?_
  refine T.loop (ι := Nat × Value × (List (Int × (List Int))) × Chunk) (fun ⟨kl1, vb3l1_0, xb3l1_0, cb3l1_0⟩ H' L' ds' => kl1 ≤ x12.length ∧ Has L' [[(b3, .cells #[vb3l1_0] 24)], [(b2, .cells #[.slice none 0 0] 24)], cb3l1_0] ∧ OwnS listedE 45 H' vb3l1_0 xb3l1_0 cb3l1_0 ∧ xb3l1_0.length ≤ kl1 ∧ windroselaw14_own_l1 (x12.drop kl1) xb3l1_0 = windroselaw14_own_l1 x12 []) (fun ⟨kl1, vb3l1_0, xb3l1_0, cb3l1_0⟩ => [(14, .int .i64 (kl1 : Int)), (2, .pointer (some ⟨b2, 0, none⟩)), (3, .pointer (some ⟨b3, 0, none⟩)), (12, .slice A12 x12.length p12), (13, .int .i64 (x12.length : Int))]) (fun ⟨kl1, vb3l1_0, xb3l1_0, cb3l1_0⟩ => x12.length - kl1) (0, .slice none 0 0, [], []) ?_ ?_ ?_
  · exact ⟨oA, (Has.cons .hd (Has.cons .hd (Has.none Has.nil))), OwnS.nil, bA, (by rfl)⟩
  · exact ⟨rfl, rfl, rfl, rfl, rfl, trivial⟩
  intro ⟨kl1, vb3l1_0, xb3l1_0, cb3l1_0⟩ σ_l1 H_l1 L_l1 ds_l1 s_l1 hI_l1
  obtain ⟨hkl1, hI_l1⟩ := hI_l1
  obtain ⟨hLl1, wb3l1_0, hBl1_0, hQl1⟩ := hI_l1
  obtain ⟨Ab3l1_0, pb3l1_0, rfl, mb3l1_0, nb3l1_0_⟩ := OwnS.shape wb3l1_0
  refine T.has hLl1 ?_
  refine T.seq ?_
  refine T.region ?_
  refine R.lss rfl rfl rfl ?_
  refine TL.nil (Post.thnN ?_)
  refine T.seq ?_
  refine T.condD rfl (fun c15 => ?_) (fun c15 => ?_)
  · have hltl1 : kl1 < x12.length := by omega
    obtain ⟨yl1, hyl1⟩ := getk (xs := x12) (k := kl1) oA
    refine T.skip (Post.thnN ?_)
    refine T.seq ?_
    refine T.block ?_
    refine T.seq ?_
    refine T.region ?_
    obtain ⟨b16, o16, i16, k16⟩ := RdS.elem (r12.mono s_l1) hyl1
    obtain ⟨l16, g16, k16⟩ := k16
    obtain ⟨z16_1, rfl, r16_1⟩ := g16
    obtain ⟨A16_1, p16_1, rfl, m16_1, n16_1, r16_1⟩ := r16_1.shape
    refine R.ixp Tryz.underlying22 Tryz.sizeOf45 rfl rfl rfl oA i16 ?_
    refine R.ldK (l := [.int .u64 (yl1.1), .slice A16_1 yl1.2.length p16_1]) Tryz.isAgg45 Tryz.sizeOf45 rfl rfl k16 rfl ?_
    refine R.alloc Tryz.zeroValue45 rfl ?_
    intro b5
    refine R.stX (old := [.int .u64 0, .slice none 0 0]) (l := [.int .u64 (yl1.1), .slice A16_1 yl1.2.length p16_1]) (new := [.int .u64 (yl1.1), .slice A16_1 yl1.2.length p16_1]) (et := 45) Tryz.sizeOf45 rfl rfl rfl rfl rfl (by show 0 + 2 ≤ 2; decide) rfl (all_one rfl) .hd ?_
    refine TL.shut .hd ?_
    intro Hb5_2 sb5_2 qb5_2
    have hb5_2 : Hb5_2 b5 = some (.cells #[.int .u64 (yl1.1), .slice A16_1 yl1.2.length p16_1] 45) := shut1 qb5_2
    refine TL.nil (Post.thnN ?_)
    refine T.draw Tryz_mixed kA ?_
    refine Plan.v 0 [1, 2, 3, 4, 5, 6, 7, 8, 9, 10, 11, 12, 13, 14, 15, 16] kA kA kA kA rfl (fun _ _ h_ => R.fldA Tryz.underlying24 rfl Tryz.sizeOf22 (by decide) rfl rfl (TL.nil h_)) ?_
    refine Plan.v 2 [1, 3, 4, 5, 6, 7, 8, 9, 10, 11, 12, 13, 14, 15, 16] kA kA kA kA rfl (fun _ _ h_ => R.fldA Tryz.underlying45 rfl Tryz.sizeOf43 (by decide) rfl rfl (TL.nil h_)) ?_
    refine Plan.v 3 [1, 4, 5, 6, 7, 8, 9, 10, 11, 12, 13, 14, 15, 16] kA kA kA kA rfl (fun _ _ h_ => R.ldH Tryz.isAgg43 rfl rfl hb5_2 rfl (TL.nil h_)) ?_
    refine Plan.v 4 [1, 5, 6, 7, 8, 9, 10, 11, 12, 13, 14, 15, 16] kA kA kA kA rfl (fun _ _ h_ => R.fldA Tryz.underlying45 rfl Tryz.sizeOf25 (by decide) rfl rfl (TL.nil h_)) ?_
    refine Plan.v 5 [1, 6, 7, 8, 9, 10, 11, 12, 13, 14, 15, 16] kA kA kA kA rfl (fun _ _ h_ => R.ldH Tryz.isAgg25 rfl rfl hb5_2 rfl (TL.nil h_)) ?_
    refine Plan.v 6 [1, 7, 8, 9, 10, 11, 12, 13, 14, 15, 16] kA kA kA kA rfl (fun _ _ h_ => R.fldA Tryz.underlying45 rfl Tryz.sizeOf25 (by decide) rfl rfl (TL.nil h_)) ?_
    refine Plan.v 7 [1, 8, 9, 10, 11, 12, 13, 14, 15, 16] kA kA kA kA rfl (fun _ _ h_ => R.ldH Tryz.isAgg25 rfl rfl hb5_2 rfl (TL.nil h_)) ?_
    refine Plan.v 8 [1, 9, 10, 11, 12, 13, 14, 15, 16] kA kA kA kA rfl (fun _ _ h_ => R.len Tryz.underlying25 rfl rfl (TL.nil h_)) ?_
    refine Plan.v 9 [1, 10, 11, 12, 13, 14, 15, 16] kA kA kA kA rfl (fun _ _ h_ => R.min2 rfl rfl rfl (TL.nil h_)) ?_
    refine Plan.set 27 (.int .i64 ((min yl1.2.length 12 : Nat) : Int)) (congrArg (Value.int .i64) (by split <;> omega)) ?_
    have z28 := RdS.takeC (r16_1.mono sb5_2) (i := (min yl1.2.length 12)) oA oA
    obtain ⟨x28, e28⟩ : ∃ x, x = (yl1.2.take ((min yl1.2.length 12))) := ⟨_, rfl⟩
    rw [← e28] at z28
    obtain ⟨A28, p28, q28, m28, n28, r28⟩ := RdS.shape z28
    have t28 : x28.length ≤ yl1.2.length := by rw [e28]; simp; try omega
    have t28_ : x28.length = min ((min yl1.2.length 12)) yl1.2.length := by rw [e28]; simp
    refine Plan.v 10 [1, 11, 12, 13, 14, 15, 16] kA kA kA kA rfl (fun _ _ h_ => R.sH Tryz.underlying25 Tryz.sizeOf3 rfl rfl rfl oA oA  (TL.nil h_)) ?_
    refine Plan.set 28 (.slice A28 x28.length p28) (by first | exact q28 | (rw [← q28]; simp; done) | (rw [← q28]; rfl)) ?_
    refine Plan.s2 1 11 [11, 12, 13, 14, 15, 16] [1, 12, 13, 14, 15, 16] kA kA kA rfl rfl ?_ ?_
    · refine R.ld Tryz.isAgg22 rfl rfl .hd rfl ?_
      refine TL.nil (Plan.e1 (HLe.refl _) ?_)
      refine Plan.s1 11 [12, 13, 14, 15, 16] kA kA rfl ?_
      refine TL.call [] rfl rfl rfl (clone25_c _ _ x28 r28 bA) ?_
      intro v29 H29 L29 s29 q29
      obtain ⟨c29, rfl, w29⟩ := q29
      obtain ⟨x29, e29⟩ : ∃ x, x = x28 := ⟨_, rfl⟩
      rw [← e29] at w29
      obtain ⟨A29, p29, rfl, m29, n29⟩ := OwnS.shape w29
      have t29 : x29.length = x28.length := by rw [e29]
      refine TL.nil (Plan.e1 (s29) ?_)
      refine Plan.v 12 [13, 14, 15, 16] kA kA kA kA rfl (fun _ _ h_ => R.bld (cs := [.int .u64 (yl1.1), .slice A29 x29.length p29]) rfl (fun _ => by kernel_rfl) (TL.nil h_)) ?_
      refine Plan.s1 13 [14, 15, 16] kA kA rfl ?_
      refine TL.shut .hd ?_
      intro HF29_4 sF29_4 qF29_4
      have fF29_4 := OwnS.read w29 sF29_4 qF29_4
      refine R.bs (e := 45) (cs := [.int .u64 (yl1.1), .slice A29 x29.length p29]) rfl (fun _ => by kernel_rfl) ?_
      intro b31
      have w31 : OwnS listedE 45 HF29_4 (.slice (some ⟨b31, 0, none⟩) 1 1) [(yl1.1, x29)] [(b31, .cells #[.int .u64 (yl1.1), .slice A29 x29.length p29] 45)] := OwnS.lit (xs := [(yl1.1, x29)]) (cellsOf_cons (a := [.int .u64 (yl1.1), .slice A29 x29.length p29]) ⟨_, rfl, fF29_4⟩ cellsOf_nil) (by show 1 ≤ maxLen; decide)
      refine TL.nil (Plan.e1 (sF29_4) ?_)
      refine Plan.s1 14 [15, 16] kA kA rfl ?_
      obtain ⟨k32, y32, r32⟩ := Src.ownA w31
      refine R.app (E := listedE) (e := 45) (xs := xb3l1_0) (ys := [(yl1.1, x29)]) Tryz_ty22 rfl rfl rfl (OwnS.mono wb3l1_0 (sb5_2.trans (s29.trans sF29_4))) (.tl (.tl (.tl .hd))) (r32 _ .hd) y32 (by (try simp only [List.length_append, List.length_cons, List.length_nil, List.length_replicate, List.length_take, List.length_drop]); omega) (by (try simp only [List.length_append, List.length_cons, List.length_nil, List.length_replicate, List.length_take, List.length_drop]); omega) ?_
      intro v32 c32 w32
      obtain ⟨A32, p32, rfl, m32, n32⟩ := OwnS.shape w32
      refine TL.del (.tl .hd) ?_
      refine TL.nil (Plan.e1 (HLe.refl _) ?_)
      refine Plan.v 15 [16] kA kA kA kA rfl (fun _ _ h_ => R.fldA Tryz.underlying24 rfl Tryz.sizeOf22 (by decide) rfl rfl (TL.nil h_)) ?_
      refine Plan.s1 16 [] kA kA rfl ?_
      refine R.stX (old := [.slice Ab3l1_0 xb3l1_0.length pb3l1_0]) (l := [.slice A32 (xb3l1_0 ++ [(yl1.1, x29)]).length p32]) (new := [.slice A32 (xb3l1_0 ++ [(yl1.1, x29)]).length p32]) (et := 24) Tryz.sizeOf22 rfl rfl rfl (cells1 rfl) rfl (by show 0 + 1 ≤ 1; decide) rfl (all_one rfl) (.tl .hd) ?_
      refine TL.nil (Plan.e0 (HLe.refl _) ?_)
      refine Plan.done (Post.blkN ?_)
      refine id (Post.thnN ?_)
      refine T.region ?_
      refine R.addI rfl rfl rfl oA ?_
      refine R.mvE rfl cA ?_
      refine TL.nil (Post.thnN ?_)
      exact ⟨(kl1 + 1, .slice A32 (xb3l1_0 ++ [(yl1.1, x29)]).length p32, (xb3l1_0 ++ [(yl1.1, x29)]), c32), (s_l1.trans (sb5_2.trans (s29.trans sF29_4))), ⟨oA, (Has.cons (.tl .hd) (Has.cons (.tl .hd) (Has.cons .hd Has.nil))), w32, bA, (by subst e29; subst e28; rw [← hQl1, drop_cons hyl1, windroselaw14_own_l1])⟩, by show x12.length - (kl1 + 1) < x12.length - kl1; omega, rfl, rfl, rfl, rfl, rfl, trivial⟩
    refine TL.call [] rfl rfl rfl (clone25_c _ _ x28 r28 bA) ?_
    intro v29 H29 L29 s29 q29
    obtain ⟨c29, rfl, w29⟩ := q29
    obtain ⟨x29, e29⟩ : ∃ x, x = x28 := ⟨_, rfl⟩
    rw [← e29] at w29
    obtain ⟨A29, p29, rfl, m29, n29⟩ := OwnS.shape w29
    have t29 : x29.length = x28.length := by rw [e29]
    refine TL.nil (Plan.e1 (s29) ?_)
    refine Plan.v 12 [1, 13, 14, 15, 16] kA kA kA kA rfl (fun _ _ h_ => R.bld (cs := [.int .u64 (yl1.1), .slice A29 x29.length p29]) rfl (fun _ => by kernel_rfl) (TL.nil h_)) ?_
    refine Plan.s2 1 13 [13, 14, 15, 16] [1, 14, 15, 16] kA kA kA rfl rfl ?_ ?_
    · refine R.ld Tryz.isAgg22 rfl rfl (.tl .hd) rfl ?_
      refine TL.nil (Plan.e1 (HLe.refl _) ?_)
      refine Plan.s1 13 [14, 15, 16] kA kA rfl ?_
      refine TL.shut .hd ?_
      intro HF29_7 sF29_7 qF29_7
      have fF29_7 := OwnS.read w29 sF29_7 qF29_7
      refine R.bs (e := 45) (cs := [.int .u64 (yl1.1), .slice A29 x29.length p29]) rfl (fun _ => by kernel_rfl) ?_
      intro b31
      have w31 : OwnS listedE 45 HF29_7 (.slice (some ⟨b31, 0, none⟩) 1 1) [(yl1.1, x29)] [(b31, .cells #[.int .u64 (yl1.1), .slice A29 x29.length p29] 45)] := OwnS.lit (xs := [(yl1.1, x29)]) (cellsOf_cons (a := [.int .u64 (yl1.1), .slice A29 x29.length p29]) ⟨_, rfl, fF29_7⟩ cellsOf_nil) (by show 1 ≤ maxLen; decide)
      refine TL.nil (Plan.e1 (sF29_7) ?_)
      refine Plan.s1 14 [15, 16] kA kA rfl ?_
      obtain ⟨k32, y32, r32⟩ := Src.ownA w31
      refine R.app (E := listedE) (e := 45) (xs := xb3l1_0) (ys := [(yl1.1, x29)]) Tryz_ty22 rfl rfl rfl (OwnS.mono wb3l1_0 (sb5_2.trans (s29.trans sF29_7))) (.tl (.tl (.tl .hd))) (r32 _ .hd) y32 (by (try simp only [List.length_append, List.length_cons, List.length_nil, List.length_replicate, List.length_take, List.length_drop]); omega) (by (try simp only [List.length_append, List.length_cons, List.length_nil, List.length_replicate, List.length_take, List.length_drop]); omega) ?_
      intro v32 c32 w32
      obtain ⟨A32, p32, rfl, m32, n32⟩ := OwnS.shape w32
      refine TL.del (.tl .hd) ?_
      refine TL.nil (Plan.e1 (HLe.refl _) ?_)
      refine Plan.v 15 [16] kA kA kA kA rfl (fun _ _ h_ => R.fldA Tryz.underlying24 rfl Tryz.sizeOf22 (by decide) rfl rfl (TL.nil h_)) ?_
      refine Plan.s1 16 [] kA kA rfl ?_
      refine R.stX (old := [.slice Ab3l1_0 xb3l1_0.length pb3l1_0]) (l := [.slice A32 (xb3l1_0 ++ [(yl1.1, x29)]).length p32]) (new := [.slice A32 (xb3l1_0 ++ [(yl1.1, x29)]).length p32]) (et := 24) Tryz.sizeOf22 rfl rfl rfl (cells1 rfl) rfl (by show 0 + 1 ≤ 1; decide) rfl (all_one rfl) (.tl .hd) ?_
      refine TL.nil (Plan.e0 (HLe.refl _) ?_)
      refine Plan.done (Post.blkN ?_)
      refine id (Post.thnN ?_)
      refine T.region ?_
      refine R.addI rfl rfl rfl oA ?_
      refine R.mvE rfl cA ?_
      refine TL.nil (Post.thnN ?_)
      exact ⟨(kl1 + 1, .slice A32 (xb3l1_0 ++ [(yl1.1, x29)]).length p32, (xb3l1_0 ++ [(yl1.1, x29)]), c32), (s_l1.trans (sb5_2.trans (s29.trans sF29_7))), ⟨oA, (Has.cons (.tl .hd) (Has.cons (.tl .hd) (Has.cons .hd Has.nil))), w32, bA, (by subst e29; subst e28; rw [← hQl1, drop_cons hyl1, windroselaw14_own_l1])⟩, by show x12.length - (kl1 + 1) < x12.length - kl1; omega, rfl, rfl, rfl, rfl, rfl, trivial⟩
    refine TL.shut .hd ?_
    intro HF29_8 sF29_8 qF29_8
    have fF29_8 := OwnS.read w29 sF29_8 qF29_8
    refine R.bs (e := 45) (cs := [.int .u64 (yl1.1), .slice A29 x29.length p29]) rfl (fun _ => by kernel_rfl) ?_
    intro b31
    have w31 : OwnS listedE 45 HF29_8 (.slice (some ⟨b31, 0, none⟩) 1 1) [(yl1.1, x29)] [(b31, .cells #[.int .u64 (yl1.1), .slice A29 x29.length p29] 45)] := OwnS.lit (xs := [(yl1.1, x29)]) (cellsOf_cons (a := [.int .u64 (yl1.1), .slice A29 x29.length p29]) ⟨_, rfl, fF29_8⟩ cellsOf_nil) (by show 1 ≤ maxLen; decide)
    refine TL.nil (Plan.e1 (sF29_8) ?_)
    refine Plan.s1 1 [14, 15, 16] kA kA rfl ?_
    refine R.ld Tryz.isAgg22 rfl rfl (.tl .hd) rfl ?_
    refine TL.nil (Plan.e1 (HLe.refl _) ?_)
    refine Plan.s1 14 [15, 16] kA kA rfl ?_
    obtain ⟨k32, y32, r32⟩ := Src.ownA w31
    refine R.app (E := listedE) (e := 45) (xs := xb3l1_0) (ys := [(yl1.1, x29)]) Tryz_ty22 rfl rfl rfl (OwnS.mono wb3l1_0 (sb5_2.trans (s29.trans sF29_8))) (.tl (.tl (.tl .hd))) (r32 _ .hd) y32 (by (try simp only [List.length_append, List.length_cons, List.length_nil, List.length_replicate, List.length_take, List.length_drop]); omega) (by (try simp only [List.length_append, List.length_cons, List.length_nil, List.length_replicate, List.length_take, List.length_drop]); omega) ?_
    intro v32 c32 w32
    obtain ⟨A32, p32, rfl, m32, n32⟩ := OwnS.shape w32
    refine TL.del (.tl .hd) ?_
    refine TL.nil (Plan.e1 (HLe.refl _) ?_)
    refine Plan.v 15 [16] kA kA kA kA rfl (fun _ _ h_ => R.fldA Tryz.underlying24 rfl Tryz.sizeOf22 (by decide) rfl rfl (TL.nil h_)) ?_
    refine Plan.s1 16 [] kA kA rfl ?_
    refine R.stX (old := [.slice Ab3l1_0 xb3l1_0.length pb3l1_0]) (l := [.slice A32 (xb3l1_0 ++ [(yl1.1, x29)]).length p32]) (new := [.slice A32 (xb3l1_0 ++ [(yl1.1, x29)]).length p32]) (et := 24) Tryz.sizeOf22 rfl rfl rfl (cells1 rfl) rfl (by show 0 + 1 ≤ 1; decide) rfl (all_one rfl) (.tl .hd) ?_
    refine TL.nil (Plan.e0 (HLe.refl _) ?_)
    refine Plan.done (Post.blkN ?_)
    refine id (Post.thnN ?_)
    refine T.region ?_
    refine R.addI rfl rfl rfl oA ?_
    refine R.mvE rfl cA ?_
    refine TL.nil (Post.thnN ?_)
    exact ⟨(kl1 + 1, .slice A32 (xb3l1_0 ++ [(yl1.1, x29)]).length p32, (xb3l1_0 ++ [(yl1.1, x29)]), c32), (s_l1.trans (sb5_2.trans (s29.trans sF29_8))), ⟨oA, (Has.cons (.tl .hd) (Has.cons (.tl .hd) (Has.cons .hd Has.nil))), w32, bA, (by subst e29; subst e28; rw [← hQl1, drop_cons hyl1, windroselaw14_own_l1])⟩, by show x12.length - (kl1 + 1) < x12.length - kl1; omega, rfl, rfl, rfl, rfl, rfl, trivial⟩
  refine T.exit (Post.thnE (Post.thnE (Post.blkX ?_)))
  have hEl1 : windroselaw14_own_l1 x12 [] = xb3l1_0 := (hQl1.symm.trans (by rw [show kl1 = x12.length by omega, List.drop_length, windroselaw14_own_l1]))
  refine id (Post.thnN ?_)
  refine T.seq ?_
  refine T.region ?_
  refine R.ldX (cs := [.slice Ab3l1_0 xb3l1_0.length pb3l1_0]) (l := [.slice Ab3l1_0 xb3l1_0.length pb3l1_0]) Tryz.isAgg24 Tryz.sizeOf24 rfl rfl .hd rfl rfl ?_
  refine R.stX (old := [.slice none 0 0]) (l := [.slice Ab3l1_0 xb3l1_0.length pb3l1_0]) (new := [.slice Ab3l1_0 xb3l1_0.length pb3l1_0]) (et := 24) Tryz.sizeOf24 rfl rfl rfl rfl rfl (by show 0 + 1 ≤ 1; decide) rfl (all_one rfl) (.tl .hd) ?_
  refine TL.nil (Post.thnN ?_)
  refine T.has (Has.cons (.tl (.tl .hd)) (Has.cons (.tl .hd) Has.nil)) ?_
  refine T.ret ?_
  have hM : windroselaw14_own_m a0 = xb3l1_0 := by subst e12; rw [windroselaw14_own_m, hEl1, LR.seq_go]
  exact finR1 (v := .agg #[.slice Ab3l1_0 xb3l1_0.length pb3l1_0]) [cb3l1_0] rfl (.cellA (cs := [.slice Ab3l1_0 xb3l1_0.length pb3l1_0]) (l := [.slice Ab3l1_0 xb3l1_0.length pb3l1_0]) Tryz.isAgg24 Tryz.sizeOf24 rfl (.tl .hd) rfl rfl) (List.sublist_append_left ([cb3l1_0] : Own) _) ⟨.slice Ab3l1_0 xb3l1_0.length pb3l1_0, cb3l1_0, by first | rw [hM] | rfl, rfl, by rw [hM]; exact wb3l1_0⟩
theorem own_l1_len : ∀ (l s : List (Int × List Int)), (∀ q ∈ s, q.2.length ≤ 12) → (windroselaw14_own_l1 l s).length ≤ s.length + l.length ∧ ∀ q ∈ windroselaw14_own_l1 l s, q.2.length ≤ 12
  | [], s, hs => ⟨Nat.le_refl _, hs⟩
  | y :: ys, s, hs => by
    rw [windroselaw14_own_l1]
    have := own_l1_len ys (s ++ [(y.1, y.2.take (min y.2.length 12))]) (fun q hq => by
      rcases List.mem_append.1 hq with h | h
      · exact hs q h
      · rw [List.mem_singleton] at h; subst h; simp only [List.length_take]; omega)
    rw [List.length_append, List.length_cons, List.length_nil] at this
    rw [List.length_cons]
    exact ⟨by omega, this.2⟩
theorem own_len (a r : List (Int × List Int)) (e : r = windroselaw14_own_m a) : r.length ≤ 60 ∧ ∀ q ∈ r, q.2.length ≤ 12 := by
  unfold windroselaw14_own_m at e
  rw [LR.seq_go] at e
  have := own_l1_len (a.take (min a.length 60)) [] (by simp)
  rw [e]
  rw [List.length_nil, List.length_take] at this
  exact ⟨by omega, this.2⟩
def windroselaw14_few_m (a0 : List Int) : (List Int) :=
  (a0.take ((min a0.length 16)))
set_option maxHeartbeats 3200000 in
theorem windroselaw14_few_c (H : Heap) (va0 : Value) (a0 : List Int) (ha0 : RdS (intE .u64) H va0 a0) : Fc Tryz.prog (fnv 9) [va0] H [] (fun v' H' L' => ∃ u0_0 c0_0, v' = u0_0 ∧ L' = [c0_0] ∧ OwnS (intE .u64) 43 H' u0_0 (windroselaw14_few_m a0) c0_0) := by
  refine Fc.of_body (N := 9) Tryz.func9 rfl kA rfl rfl ?_
  intro w0
  obtain ⟨Aa0, ca0, rfl, hca0, hda0, ha0⟩ := ha0.shape
  refine T.seq ?_
  refine T.region ?_
  refine R.asE rfl cA ?_
  refine TL.nil (Post.thnN ?_)
  refine T.seq ?_
  refine T.region ?_
  refine R.mvE rfl cA ?_
  refine R.mvE rfl cA ?_
  refine R.len Tryz.underlying30 rfl rfl ?_
  refine R.min2 rfl rfl rfl ?_
  refine TL.set 6 (.int .i64 ((min a0.length 16 : Nat) : Int)) (congrArg (Value.int .i64) (by split <;> omega)) ?_
  have z7 := RdS.takeC ha0 (i := (min a0.length 16)) oA oA
  obtain ⟨x7, e7⟩ : ∃ x, x = (a0.take ((min a0.length 16))) := ⟨_, rfl⟩
  rw [← e7] at z7
  obtain ⟨A7, p7, q7, m7, n7, r7⟩ := RdS.shape z7
  have t7 : x7.length ≤ a0.length := by rw [e7]; simp; try omega
  have t7_ : x7.length = min ((min a0.length 16)) a0.length := by rw [e7]; simp
  refine R.sH Tryz.underlying30 Tryz.sizeOf43 rfl rfl rfl oA oA  ?_
  refine TL.set 7 (.slice A7 x7.length p7) (by first | exact q7 | (rw [← q7]; simp; done) | (rw [← q7]; rfl)) ?_
  refine TL.call [] rfl rfl rfl (clone30_c _ _ x7 r7 bA) ?_
  intro v8 H8 L8 s8 q8
  obtain ⟨c8, rfl, w8⟩ := q8
  obtain ⟨x8, e8⟩ : ∃ x, x = x7 := ⟨_, rfl⟩
  rw [← e8] at w8
  obtain ⟨A8, p8, rfl, m8, n8⟩ := OwnS.shape w8
  have t8 : x8.length = x7.length := by rw [e8]
  refine R.asE rfl cA ?_
  refine TL.nil (Post.thnN ?_)
  refine T.has (Has.cons .hd Has.nil) ?_
  refine T.ret ?_
  have hM : windroselaw14_few_m a0 = x8 := by subst e8; subst e7; rw [windroselaw14_few_m]
  exact fin1L (v := .slice A8 x8.length p8) [c8] rfl rfl (List.Sublist.refl _) ⟨.slice A8 x8.length p8, c8, by first | rw [hM] | rfl, rfl, by rw [hM]; exact w8⟩
theorem few_len (a r : List Int) (e : r = windroselaw14_few_m a) : r.length ≤ 16 := by
  rw [e, windroselaw14_few_m, List.length_take]; omega
def windroselaw14_types_m  : (List Int) × (List Int) :=
  LR.seq (ident_Component_m 3) (fun r7 => LR.seq (ident_Pair_m 4 5) (fun r11 => ([r7.1], [r7.1, r11.1])))
set_option maxHeartbeats 3200000 in
theorem windroselaw14_types_c (H : Heap) : Fc Tryz.prog (fnv 21) [] H [] (fun v' H' L' => ∃ u0_0 u1_0 c0_0 c1_0, v' = .tuple #[u0_0, u1_0] ∧ L' = [c0_0, c1_0] ∧ OwnS (intE .u64) 43 H' u0_0 windroselaw14_types_m.1 c0_0 ∧ OwnS (intE .u64) 43 H' u1_0 windroselaw14_types_m.2 c1_0) := by
  refine Fc.of_body (N := 19) Tryz.func21 rfl kA rfl rfl ?_
  intro w0
  refine T.seq ?_
  refine T.region ?_
  refine R.asE rfl cA ?_
  refine R.asE rfl cA ?_
  refine TL.nil (Post.thnN ?_)
  refine T.seq ?_
  refine T.region ?_
  obtain ⟨r7, er7⟩ : ∃ r, r = (ident_Component_m 3) := ⟨_, rfl⟩
  refine R.callv (v := .tuple #[.int .u64 r7.1, .int .i64 r7.2]) rfl rfl rfl (by rw [er7]; exact ident_Component_c _ (3)) ?_
  refine R.mvE rfl cA ?_
  refine R.ext rfl rfl rfl ?_
  refine R.ext rfl rfl rfl ?_
  refine R.asE rfl cA ?_
  refine R.asE rfl cA ?_
  refine TL.nil (Post.thnN ?_)
  refine T.seq ?_
  refine T.region ?_
  obtain ⟨r11, er11⟩ : ∃ r, r = (ident_Pair_m 4 5) := ⟨_, rfl⟩
  refine R.callv (v := .tuple #[.int .u64 r11.1, .int .i64 r11.2]) rfl rfl rfl (by rw [er11]; exact ident_Pair_c _ (4) (5)) ?_
  refine R.mvE rfl cA ?_
  refine R.ext rfl rfl rfl ?_
  refine R.ext rfl rfl rfl ?_
  refine R.asE rfl cA ?_
  refine R.asE rfl cA ?_
  refine TL.nil (Post.thnN ?_)
  refine T.seq ?_
  refine T.region ?_
  refine R.mvE rfl cA ?_
  refine R.bs rfl (run_buildSlice1 Tryz.underlying30 Tryz.sizeOf43 Tryz.zeroValue43 rfl rfl) ?_
  intro b15
  have w15 : OwnS (intE .u64) 43 H (.slice (some ⟨b15, 0, none⟩) 1 1) [r7.1] [(b15, .cells #[.int .u64 (r7.1)] 43)] := OwnS.lit (xs := [r7.1]) (cellsOf_cons (a := [.int .u64 (r7.1)]) rfl cellsOf_nil) (by show 1 ≤ maxLen; decide)
  refine R.mvE rfl cA ?_
  refine R.mvE rfl cA ?_
  refine R.bsN [.int .u64 (r7.1), .int .u64 (r11.1)] rfl Tryz.underlying30 Tryz.sizeOf43 Tryz.zeroValue43 rfl rfl rfl rfl rfl rfl ?_
  intro b18
  have w18 : OwnS (intE .u64) 43 H (.slice (some ⟨b18, 0, none⟩) 2 2) [r7.1, r11.1] [(b18, .cells #[.int .u64 (r7.1), .int .u64 (r11.1)] 43)] := OwnS.lit (xs := [r7.1, r11.1]) (cellsOf_cons (a := [.int .u64 (r7.1)]) rfl (cellsOf_cons (a := [.int .u64 (r11.1)]) rfl cellsOf_nil)) (by show 2 ≤ maxLen; decide)
  refine R.asE rfl cA ?_
  refine R.asE rfl cA ?_
  refine TL.nil (Post.thnN ?_)
  refine T.has (Has.cons (.tl .hd) (Has.cons .hd Has.nil)) ?_
  refine T.ret ?_
  have hM : windroselaw14_types_m = ([r7.1], [r7.1, r11.1]) := by subst er11; subst er7; rw [windroselaw14_types_m, LR.seq_go, LR.seq_go]
  exact fin2L (v := .slice (some ⟨b15, 0, none⟩) 1 1) (v' := .slice (some ⟨b18, 0, none⟩) 2 2) [[(b15, .cells #[.int .u64 (r7.1)] 43)], [(b18, .cells #[.int .u64 (r7.1), .int .u64 (r11.1)] 43)]] rfl rfl rfl (List.Sublist.refl _) ⟨.slice (some ⟨b15, 0, none⟩) 1 1, .slice (some ⟨b18, 0, none⟩) 2 2, [(b15, .cells #[.int .u64 (r7.1)] 43)], [(b18, .cells #[.int .u64 (r7.1), .int .u64 (r11.1)] 43)], by first | rw [hM] | rfl, rfl, by rw [hM]; exact w15, by rw [hM]; exact w18⟩
def windroselaw14_wakes_m  : Bool :=
  LR.seq (windroselaw14_types_m) (fun r12 => LR.seq (index_Put_m (([] : (List (Int × (List Int))))) 1 r12.1) (fun r18 => LR.seq (index_Put_m r18.1 2 r12.2) (fun r24 => LR.seq (ident_Pair_m 4 0) (fun r28 => LR.seq (index_Put_m r24.1 2 r12.1) (fun r34 => if r18.2 = 0 then (if r24.2 = 0 then (if r28.2 = 0 then (if r34.2 = 5 then (LR.seq (index_Keys_m r12.2) (fun r53 => if (r53.length : Int) = 5 then (LR.seq (index_Find_m r24.1 (r12.2.getD 0 (0 : Int))) (fun r62 => if r62 = [1, 2] then (LR.seq (index_Find_m r24.1 r28.1) (fun r69 => if r69 = [2] then (LR.seq (index_Type_m r24.1 2) (fun r75 => (decide (r75 = r12.2)))) else false)) else false)) else false)) else false) else false) else false) else false)))))
set_option maxHeartbeats 3200000 in
theorem windroselaw14_wakes_c (H : Heap) : Fv Tryz.prog (fnv 5) [] H (.bool windroselaw14_wakes_m) := by
  refine Fc.of_body (N := 79) Tryz.func5 rfl kA rfl rfl ?_
  intro w0
  refine T.seq ?_
  refine T.region ?_
  refine R.asE rfl cA ?_
  refine TL.nil (Post.thnN ?_)
  refine T.seq ?_
  refine T.region ?_
  obtain ⟨r12, er12⟩ : ∃ r, r = windroselaw14_types_m := ⟨_, rfl⟩
  refine TL.call [] rfl rfl rfl (windroselaw14_types_c _ ) ?_
  intro v12 H12 L12 s12 q12
  rw [← er12] at q12
  obtain ⟨u12_0_0, u12_1_0, c12_0_0, c12_1_0, rfl, rfl, w12_0_0, w12_1_0⟩ := q12
  obtain ⟨A12_0_0, p12_0_0, rfl, m12_0_0, n12_0_0⟩ := OwnS.shape w12_0_0
  obtain ⟨A12_1_0, p12_1_0, rfl, m12_1_0, n12_1_0⟩ := OwnS.shape w12_1_0
  have tt12 : r12.2.length = 2 := by rw [er12]; rfl
  refine R.mvE rfl cA ?_
  refine R.ext rfl rfl rfl ?_
  refine R.ext rfl rfl rfl ?_
  refine R.asE rfl cA ?_
  refine R.asE rfl cA ?_
  refine TL.nil (Post.thnN ?_)
  refine T.seq ?_
  refine T.region ?_
  refine R.bld (cs := [.slice none 0 0]) rfl (fun _ => by kernel_rfl) ?_
  refine R.mvE rfl cA ?_
  refine TL.shut .hd ?_
  intro HF12_0_0_1 sF12_0_0_1 qF12_0_0_1
  have fF12_0_0_1 := OwnS.read w12_0_0 sF12_0_0_1 qF12_0_0_1
  obtain ⟨r18, er18⟩ : ∃ r, r = (index_Put_m (([] : (List (Int × (List Int))))) 1 r12.1) := ⟨_, rfl⟩
  refine TL.call [] rfl rfl rfl (index_Put_c _ (([] : (List (Int × (List Int))))) _ RdS.nil (1) _ r12.1 fF12_0_0_1 (by first | omega | assumption | (simp; done) | (simp; omega) | (simp at *; omega)) (by first | assumption | exact rows_le (by assumption) oA | (intro r h; simp at h; done))) ?_
  intro v18 H18 L18 s18 q18
  rw [← er18] at q18
  obtain ⟨u18_0_0, c18_0_0, rfl, rfl, w18_0_0⟩ := q18
  obtain ⟨A18_0_0, p18_0_0, rfl, m18_0_0, n18_0_0⟩ := OwnS.shape w18_0_0
  have tpa18 := (put_len _ _ _ _ er18).1
  have tpb18 := (put_len _ _ _ _ er18).2 _ (by first | assumption | exact rows_nil)
  refine R.mvE rfl cA ?_
  refine R.ext rfl rfl rfl ?_
  refine R.ext rfl rfl rfl ?_
  refine R.alloc Tryz.zeroValue24 rfl ?_
  intro b3
  refine R.stX (old := [.slice none 0 0]) (l := [.slice A18_0_0 r18.1.length p18_0_0]) (new := [.slice A18_0_0 r18.1.length p18_0_0]) (et := 24) Tryz.sizeOf24 rfl rfl rfl rfl rfl (by show 0 + 1 ≤ 1; decide) rfl (all_one rfl) .hd ?_
  refine R.asE rfl cA ?_
  refine TL.shut (.tl .hd) ?_
  intro HF18_0_0_2 sF18_0_0_2 qF18_0_0_2
  have fF18_0_0_2 := OwnS.read w18_0_0 sF18_0_0_2 qF18_0_0_2
  refine TL.shut .hd ?_
  intro Hb3_3 sb3_3 qb3_3
  have hb3_3 : Hb3_3 b3 = some (.cells #[.slice A18_0_0 r18.1.length p18_0_0] 24) := shut1 qb3_3
  refine TL.nil (Post.thnN ?_)
  refine T.seq ?_
  refine T.region ?_
  refine R.ldXH (cs := [.slice A18_0_0 r18.1.length p18_0_0]) (l := [.slice A18_0_0 r18.1.length p18_0_0]) Tryz.isAgg24 Tryz.sizeOf24 rfl rfl hb3_3 rfl rfl ?_
  refine R.mvE rfl cA ?_
  refine TL.shut .hd ?_
  intro HF12_1_0_4 sF12_1_0_4 qF12_1_0_4
  have fF12_1_0_4 := OwnS.read (OwnS.mono w12_1_0 (sF12_0_0_1.trans (s18.trans (sF18_0_0_2.trans sb3_3)))) sF12_1_0_4 qF12_1_0_4
  obtain ⟨r24, er24⟩ : ∃ r, r = (index_Put_m r18.1 2 r12.2) := ⟨_, rfl⟩
  refine TL.call [] rfl rfl rfl (index_Put_c _ r18.1 _ (fF18_0_0_2.mono (sb3_3.trans sF12_1_0_4)) (2) _ r12.2 fF12_1_0_4 (by first | omega | assumption | (simp; done) | (simp; omega) | (simp at *; omega)) (by first | assumption | exact rows_le (by assumption) oA | (intro r h; simp at h; done))) ?_
  intro v24 H24 L24 s24 q24
  rw [← er24] at q24
  obtain ⟨u24_0_0, c24_0_0, rfl, rfl, w24_0_0⟩ := q24
  obtain ⟨A24_0_0, p24_0_0, rfl, m24_0_0, n24_0_0⟩ := OwnS.shape w24_0_0
  have tpa24 := (put_len _ _ _ _ er24).1
  have tpb24 := (put_len _ _ _ _ er24).2 _ (by first | assumption | exact rows_nil)
  refine R.mvE rfl cA ?_
  refine R.ext rfl rfl rfl ?_
  refine R.ext rfl rfl rfl ?_
  refine R.alloc Tryz.zeroValue24 rfl ?_
  intro b5
  refine R.stX (old := [.slice none 0 0]) (l := [.slice A24_0_0 r24.1.length p24_0_0]) (new := [.slice A24_0_0 r24.1.length p24_0_0]) (et := 24) Tryz.sizeOf24 rfl rfl rfl rfl rfl (by show 0 + 1 ≤ 1; decide) rfl (all_one rfl) .hd ?_
  refine R.asE rfl cA ?_
  refine TL.shut (.tl .hd) ?_
  intro HF24_0_0_5 sF24_0_0_5 qF24_0_0_5
  have fF24_0_0_5 := OwnS.read w24_0_0 sF24_0_0_5 qF24_0_0_5
  refine TL.shut .hd ?_
  intro Hb5_6 sb5_6 qb5_6
  have hb5_6 : Hb5_6 b5 = some (.cells #[.slice A24_0_0 r24.1.length p24_0_0] 24) := shut1 qb5_6
  refine TL.nil (Post.thnN ?_)
  refine T.seq ?_
  refine T.region ?_
  obtain ⟨r28, er28⟩ : ∃ r, r = (ident_Pair_m 4 0) := ⟨_, rfl⟩
  refine R.callv (v := .tuple #[.int .u64 r28.1, .int .i64 r28.2]) rfl rfl rfl (by rw [er28]; exact ident_Pair_c _ (4) (0)) ?_
  refine R.mvE rfl cA ?_
  refine R.ext rfl rfl rfl ?_
  refine R.ext rfl rfl rfl ?_
  refine R.asE rfl cA ?_
  refine R.asE rfl cA ?_
  refine TL.nil (Post.thnN ?_)
  refine T.seq ?_
  refine T.region ?_
  refine R.ldXH (cs := [.slice A24_0_0 r24.1.length p24_0_0]) (l := [.slice A24_0_0 r24.1.length p24_0_0]) Tryz.isAgg24 Tryz.sizeOf24 rfl rfl hb5_6 rfl rfl ?_
  refine R.mvE rfl cA ?_
  obtain ⟨r34, er34⟩ : ∃ r, r = (index_Put_m r24.1 2 r12.1) := ⟨_, rfl⟩
  refine TL.call [] rfl rfl rfl (index_Put_c _ r24.1 _ (fF24_0_0_5.mono sb5_6) (2) _ r12.1 (fF12_0_0_1.mono (s18.trans (sF18_0_0_2.trans (sb3_3.trans (sF12_1_0_4.trans (s24.trans (sF24_0_0_5.trans sb5_6))))))) (by first | omega | assumption | (simp; done) | (simp; omega) | (simp at *; omega)) (by first | assumption | exact rows_le (by assumption) oA | (intro r h; simp at h; done))) ?_
  intro v34 H34 L34 s34 q34
  rw [← er34] at q34
  obtain ⟨u34_0_0, c34_0_0, rfl, rfl, w34_0_0⟩ := q34
  obtain ⟨A34_0_0, p34_0_0, rfl, m34_0_0, n34_0_0⟩ := OwnS.shape w34_0_0
  have tpa34 := (put_len _ _ _ _ er34).1
  have tpb34 := (put_len _ _ _ _ er34).2 _ (by first | assumption | exact rows_nil)
  refine R.mvE rfl cA ?_
  refine R.ext rfl rfl rfl ?_
  refine R.ext rfl rfl rfl ?_
  refine R.alloc Tryz.zeroValue24 rfl ?_
  intro b9
  refine R.stX (old := [.slice none 0 0]) (l := [.slice A34_0_0 r34.1.length p34_0_0]) (new := [.slice A34_0_0 r34.1.length p34_0_0]) (et := 24) Tryz.sizeOf24 rfl rfl rfl rfl rfl (by show 0 + 1 ≤ 1; decide) rfl (all_one rfl) .hd ?_
  refine R.asE rfl cA ?_
  refine TL.shut (.tl .hd) ?_
  intro HF34_0_0_7 sF34_0_0_7 qF34_0_0_7
  have fF34_0_0_7 := OwnS.read w34_0_0 sF34_0_0_7 qF34_0_0_7
  refine TL.shut .hd ?_
  intro Hb9_8 sb9_8 qb9_8
  have hb9_8 : Hb9_8 b9 = some (.cells #[.slice A34_0_0 r34.1.length p34_0_0] 24) := shut1 qb9_8
  refine TL.nil (Post.thnN ?_)
  refine T.seq ?_
  refine T.draw Tryz_mixed kA ?_
  refine Plan.v 0 [1, 2, 3, 4, 5, 6, 7, 8, 9, 10, 11, 12, 13, 14, 15, 16, 17, 18, 19, 20, 21, 22, 23, 24, 25, 26, 27, 28, 29, 30, 31, 32, 33, 34, 35, 36, 37, 38, 39, 40, 41, 42] kA kA kA kA rfl (fun _ _ h_ => R.mvE rfl cA (TL.nil h_)) ?_
  refine Plan.v 1 [2, 3, 4, 5, 6, 7, 8, 9, 10, 11, 12, 13, 14, 15, 16, 17, 18, 19, 20, 21, 22, 23, 24, 25, 26, 27, 28, 29, 30, 31, 32, 33, 34, 35, 36, 37, 38, 39, 40, 41, 42] kA kA kA kA rfl (fun _ _ h_ => R.eql rfl rfl rfl (TL.nil h_)) ?_
  refine Plan.v 2 [3, 4, 5, 6, 7, 8, 9, 10, 11, 12, 13, 14, 15, 16, 17, 18, 19, 20, 21, 22, 23, 24, 25, 26, 27, 28, 29, 30, 31, 32, 33, 34, 35, 36, 37, 38, 39, 40, 41, 42] kA kA kA kA rfl (fun _ _ h_ => R.mvE rfl cA (TL.nil h_)) ?_
  refine Plan.gsplitD 39 rfl (fun g39 => ?_) (fun g39 => ?_)
  · refine Plan.v 3 [4, 5, 6, 7, 8, 9, 10, 11, 12, 13, 14, 15, 16, 17, 18, 19, 20, 21, 22, 23, 24, 25, 26, 27, 28, 29, 30, 31, 32, 33, 34, 35, 36, 37, 38, 39, 40, 41, 42] kA kA kA kA rfl (fun _ _ h_ => R.mvE rfl cA (TL.nil h_)) ?_
    refine Plan.v 4 [5, 6, 7, 8, 9, 10, 11, 12, 13, 14, 15, 16, 17, 18, 19, 20, 21, 22, 23, 24, 25, 26, 27, 28, 29, 30, 31, 32, 33, 34, 35, 36, 37, 38, 39, 40, 41, 42] kA kA kA kA rfl (fun _ _ h_ => R.eql rfl rfl rfl (TL.nil h_)) ?_
    refine Plan.v 5 [6, 7, 8, 9, 10, 11, 12, 13, 14, 15, 16, 17, 18, 19, 20, 21, 22, 23, 24, 25, 26, 27, 28, 29, 30, 31, 32, 33, 34, 35, 36, 37, 38, 39, 40, 41, 42] kA kA kA kA rfl (fun _ _ h_ => R.pkTE rfl rfl cA (TL.nil h_)) ?_
    refine Plan.v 6 [7, 8, 9, 10, 11, 12, 13, 14, 15, 16, 17, 18, 19, 20, 21, 22, 23, 24, 25, 26, 27, 28, 29, 30, 31, 32, 33, 34, 35, 36, 37, 38, 39, 40, 41, 42] kA kA kA kA rfl (fun _ _ h_ => R.mvE rfl cA (TL.nil h_)) ?_
    refine Plan.gsplitD 43 rfl (fun g43 => ?_) (fun g43 => ?_)
    · refine Plan.v 7 [8, 9, 10, 11, 12, 13, 14, 15, 16, 17, 18, 19, 20, 21, 22, 23, 24, 25, 26, 27, 28, 29, 30, 31, 32, 33, 34, 35, 36, 37, 38, 39, 40, 41, 42] kA kA kA kA rfl (fun _ _ h_ => R.mvE rfl cA (TL.nil h_)) ?_
      refine Plan.v 8 [9, 10, 11, 12, 13, 14, 15, 16, 17, 18, 19, 20, 21, 22, 23, 24, 25, 26, 27, 28, 29, 30, 31, 32, 33, 34, 35, 36, 37, 38, 39, 40, 41, 42] kA kA kA kA rfl (fun _ _ h_ => R.eql rfl rfl rfl (TL.nil h_)) ?_
      refine Plan.v 9 [10, 11, 12, 13, 14, 15, 16, 17, 18, 19, 20, 21, 22, 23, 24, 25, 26, 27, 28, 29, 30, 31, 32, 33, 34, 35, 36, 37, 38, 39, 40, 41, 42] kA kA kA kA rfl (fun _ _ h_ => R.pkTE rfl rfl cA (TL.nil h_)) ?_
      refine Plan.v 10 [11, 12, 13, 14, 15, 16, 17, 18, 19, 20, 21, 22, 23, 24, 25, 26, 27, 28, 29, 30, 31, 32, 33, 34, 35, 36, 37, 38, 39, 40, 41, 42] kA kA kA kA rfl (fun _ _ h_ => R.mvE rfl cA (TL.nil h_)) ?_
      refine Plan.gsplitD 47 rfl (fun g47 => ?_) (fun g47 => ?_)
      · refine Plan.v 11 [12, 13, 14, 15, 16, 17, 18, 19, 20, 21, 22, 23, 24, 25, 26, 27, 28, 29, 30, 31, 32, 33, 34, 35, 36, 37, 38, 39, 40, 41, 42] kA kA kA kA rfl (fun _ _ h_ => R.mvE rfl cA (TL.nil h_)) ?_
        refine Plan.v 12 [13, 14, 15, 16, 17, 18, 19, 20, 21, 22, 23, 24, 25, 26, 27, 28, 29, 30, 31, 32, 33, 34, 35, 36, 37, 38, 39, 40, 41, 42] kA kA kA kA rfl (fun _ _ h_ => R.eql rfl rfl rfl (TL.nil h_)) ?_
        refine Plan.v 13 [14, 15, 16, 17, 18, 19, 20, 21, 22, 23, 24, 25, 26, 27, 28, 29, 30, 31, 32, 33, 34, 35, 36, 37, 38, 39, 40, 41, 42] kA kA kA kA rfl (fun _ _ h_ => R.pkTE rfl rfl cA (TL.nil h_)) ?_
        refine Plan.v 14 [15, 16, 17, 18, 19, 20, 21, 22, 23, 24, 25, 26, 27, 28, 29, 30, 31, 32, 33, 34, 35, 36, 37, 38, 39, 40, 41, 42] kA kA kA kA rfl (fun _ _ h_ => R.mvE rfl cA (TL.nil h_)) ?_
        refine Plan.gsplitD 51 rfl (fun g51 => ?_) (fun g51 => ?_)
        · refine Plan.v 15 [16, 17, 18, 19, 20, 21, 22, 23, 24, 25, 26, 27, 28, 29, 30, 31, 32, 33, 34, 35, 36, 37, 38, 39, 40, 41, 42] kA kA kA kA rfl (fun _ _ h_ => R.mvE rfl cA (TL.nil h_)) ?_
          refine Plan.s1 16 [17, 18, 19, 20, 21, 22, 23, 24, 25, 26, 27, 28, 29, 30, 31, 32, 33, 34, 35, 36, 37, 38, 39, 40, 41, 42] kA kA rfl ?_
          obtain ⟨r53, er53⟩ : ∃ r, r = (index_Keys_m r12.2) := ⟨_, rfl⟩
          refine TL.call [] rfl rfl rfl (index_Keys_c _ _ r12.2 (fF12_1_0_4.mono (s24.trans (sF24_0_0_5.trans (sb5_6.trans (s34.trans (sF34_0_0_7.trans sb9_8))))))) ?_
          intro v53 H53 L53 s53 q53
          rw [← er53] at q53
          obtain ⟨u53_0_0, c53_0_0, rfl, rfl, w53_0_0⟩ := q53
          obtain ⟨A53_0_0, p53_0_0, rfl, m53_0_0, n53_0_0⟩ := OwnS.shape w53_0_0
          have tK53 := Keys_len _ _ er53
          refine TL.nil (Plan.e1 (s53) ?_)
          refine Plan.v 17 [18, 19, 20, 21, 22, 23, 24, 25, 26, 27, 28, 29, 30, 31, 32, 33, 34, 35, 36, 37, 38, 39, 40, 41, 42] kA kA kA kA rfl (fun _ _ h_ => R.len Tryz.underlying30 rfl rfl (TL.nil h_)) ?_
          refine Plan.v 18 [19, 20, 21, 22, 23, 24, 25, 26, 27, 28, 29, 30, 31, 32, 33, 34, 35, 36, 37, 38, 39, 40, 41, 42] kA kA kA kA rfl (fun _ _ h_ => R.eql rfl rfl rfl (TL.nil h_)) ?_
          refine Plan.v 19 [20, 21, 22, 23, 24, 25, 26, 27, 28, 29, 30, 31, 32, 33, 34, 35, 36, 37, 38, 39, 40, 41, 42] kA kA kA kA rfl (fun _ _ h_ => R.pkTE rfl rfl cA (TL.nil h_)) ?_
          refine Plan.v 20 [21, 22, 23, 24, 25, 26, 27, 28, 29, 30, 31, 32, 33, 34, 35, 36, 37, 38, 39, 40, 41, 42] kA kA kA kA rfl (fun _ _ h_ => R.mvE rfl cA (TL.nil h_)) ?_
          refine Plan.gsplitD 57 rfl (fun g57 => ?_) (fun g57 => ?_)
          · refine Plan.v 21 [22, 23, 24, 25, 26, 27, 28, 29, 30, 31, 32, 33, 34, 35, 36, 37, 38, 39, 40, 41, 42] kA kA kA kA rfl (fun _ _ h_ => R.ldXH (cs := [.slice A24_0_0 r24.1.length p24_0_0]) (l := [.slice A24_0_0 r24.1.length p24_0_0]) Tryz.isAgg24 Tryz.sizeOf24 rfl rfl ((s34.trans (sF34_0_0_7.trans (sb9_8.trans s53))) _ _ hb5_6) rfl rfl (TL.nil h_)) ?_
            refine Plan.v 22 [23, 24, 25, 26, 27, 28, 29, 30, 31, 32, 33, 34, 35, 36, 37, 38, 39, 40, 41, 42] kA kA kA kA rfl (fun _ _ h_ => R.mvE rfl cA (TL.nil h_)) ?_
            have hl60 : 0 < r12.2.length := bA
            obtain ⟨y60, e60, h60⟩ : ∃ y, y = (r12.2.getD 0 (0 : Int)) ∧ r12.2[0]? = some y := ⟨_, rfl, getD_get (by first | exact hl60 | simpa using hl60 | (simp only [List.length_set]; omega) | omega | (rw [(sortI_perm _).length_eq]; exact hl60))⟩
            obtain ⟨b60, o60, i60, k60⟩ := RdS.elem (fF12_1_0_4.mono (s24.trans (sF24_0_0_5.trans (sb5_6.trans (s34.trans (sF34_0_0_7.trans (sb9_8.trans s53))))))) h60
            obtain ⟨l60, g60, k60⟩ := k60
            obtain rfl : l60 = [.int .u64 y60] := g60
            refine Plan.v 23 [24, 25, 26, 27, 28, 29, 30, 31, 32, 33, 34, 35, 36, 37, 38, 39, 40, 41, 42] kA kA kA kA rfl (fun _ _ h_ => R.ixp Tryz.underlying30 Tryz.sizeOf43 rfl rfl rfl bA i60 (TL.nil h_)) ?_
            refine Plan.v 24 [25, 26, 27, 28, 29, 30, 31, 32, 33, 34, 35, 36, 37, 38, 39, 40, 41, 42] kA kA kA kA rfl (fun _ _ h_ => R.ldC Tryz.isAgg43 rfl rfl (k60 0 _ rfl) (TL.nil h_)) ?_
            refine Plan.s2 25 26 [26, 27, 28, 29, 30, 31, 32, 33, 34, 35, 36, 37, 38, 39, 40, 41, 42] [25, 27, 28, 29, 30, 31, 32, 33, 34, 35, 36, 37, 38, 39, 40, 41, 42] kA kA kA rfl rfl ?_ ?_
            · obtain ⟨r62, er62⟩ : ∃ r, r = (index_Find_m r24.1 y60) := ⟨_, rfl⟩
              refine TL.call [] rfl rfl rfl (index_Find_c _ r24.1 _ (fF24_0_0_5.mono (sb5_6.trans (s34.trans (sF34_0_0_7.trans (sb9_8.trans s53))))) (y60) (by first | omega | assumption | (simp; done) | (simp; omega) | (simp at *; omega)) (by first | assumption | exact rows_le (by assumption) oA | (intro r h; simp at h; done))) ?_
              intro v62 H62 L62 s62 q62
              rw [← er62] at q62
              obtain ⟨u62_0_0, c62_0_0, rfl, rfl, w62_0_0⟩ := q62
              obtain ⟨A62_0_0, p62_0_0, rfl, m62_0_0, n62_0_0⟩ := OwnS.shape w62_0_0
              refine TL.nil (Plan.e1 (s62) ?_)
              refine Plan.s1 26 [27, 28, 29, 30, 31, 32, 33, 34, 35, 36, 37, 38, 39, 40, 41, 42] kA kA rfl ?_
              refine R.bsN [.int .i64 1, .int .i64 2] rfl Tryz.underlying25 Tryz.sizeOf3 Tryz.zeroValue3 rfl rfl rfl rfl rfl rfl ?_
              intro b63
              have w63 : OwnS (intE .i64) 3 H62 (.slice (some ⟨b63, 0, none⟩) 2 2) [1, 2] [(b63, .cells #[.int .i64 1, .int .i64 2] 3)] := OwnS.lit (xs := [1, 2]) (cellsOf_cons (a := [.int .i64 1]) rfl (cellsOf_cons (a := [.int .i64 2]) rfl cellsOf_nil)) (by show 2 ≤ maxLen; decide)
              refine TL.nil (Plan.e1 (HLe.refl _) ?_)
              refine Plan.s1 27 [28, 29, 30, 31, 32, 33, 34, 35, 36, 37, 38, 39, 40, 41, 42] kA kA rfl ?_
              refine TL.shut (.tl .hd) ?_
              intro HF62_0_0_11 sF62_0_0_11 qF62_0_0_11
              have fF62_0_0_11 := OwnS.read w62_0_0 sF62_0_0_11 qF62_0_0_11
              refine TL.shut .hd ?_
              intro HF63_12 sF63_12 qF63_12
              have fF63_12 := OwnS.read (OwnS.mono w63 sF62_0_0_11) sF63_12 qF63_12
              refine R.callv rfl rfl rfl (slices_Equal_int_d _ _ r62 (fF62_0_0_11.mono sF63_12) _ ([1, 2]) fF63_12) ?_
              refine TL.nil (Plan.e1 ((sF62_0_0_11.trans sF63_12)) ?_)
              refine Plan.v 28 [29, 30, 31, 32, 33, 34, 35, 36, 37, 38, 39, 40, 41, 42] kA kA kA kA rfl (fun _ _ h_ => R.pkTE rfl rfl cA (TL.nil h_)) ?_
              refine Plan.v 29 [30, 31, 32, 33, 34, 35, 36, 37, 38, 39, 40, 41, 42] kA kA kA kA rfl (fun _ _ h_ => R.mvE rfl cA (TL.nil h_)) ?_
              refine Plan.gsplitD 66 rfl (fun g66 => ?_) (fun g66 => ?_)
              · refine Plan.v 30 [31, 32, 33, 34, 35, 36, 37, 38, 39, 40, 41, 42] kA kA kA kA rfl (fun _ _ h_ => R.ldXH (cs := [.slice A24_0_0 r24.1.length p24_0_0]) (l := [.slice A24_0_0 r24.1.length p24_0_0]) Tryz.isAgg24 Tryz.sizeOf24 rfl rfl ((s34.trans (sF34_0_0_7.trans (sb9_8.trans (s53.trans (s62.trans (sF62_0_0_11.trans sF63_12)))))) _ _ hb5_6) rfl rfl (TL.nil h_)) ?_
                refine Plan.v 31 [32, 33, 34, 35, 36, 37, 38, 39, 40, 41, 42] kA kA kA kA rfl (fun _ _ h_ => R.mvE rfl cA (TL.nil h_)) ?_
                refine Plan.s2 32 33 [33, 34, 35, 36, 37, 38, 39, 40, 41, 42] [32, 34, 35, 36, 37, 38, 39, 40, 41, 42] kA kA kA rfl rfl ?_ ?_
                · obtain ⟨r69, er69⟩ : ∃ r, r = (index_Find_m r24.1 r28.1) := ⟨_, rfl⟩
                  refine TL.call [] rfl rfl rfl (index_Find_c _ r24.1 _ (fF24_0_0_5.mono (sb5_6.trans (s34.trans (sF34_0_0_7.trans (sb9_8.trans (s53.trans (s62.trans (sF62_0_0_11.trans sF63_12)))))))) (r28.1) (by first | omega | assumption | (simp; done) | (simp; omega) | (simp at *; omega)) (by first | assumption | exact rows_le (by assumption) oA | (intro r h; simp at h; done))) ?_
                  intro v69 H69 L69 s69 q69
                  rw [← er69] at q69
                  obtain ⟨u69_0_0, c69_0_0, rfl, rfl, w69_0_0⟩ := q69
                  obtain ⟨A69_0_0, p69_0_0, rfl, m69_0_0, n69_0_0⟩ := OwnS.shape w69_0_0
                  refine TL.nil (Plan.e1 (s69) ?_)
                  refine Plan.s1 33 [34, 35, 36, 37, 38, 39, 40, 41, 42] kA kA rfl ?_
                  refine R.bs rfl (run_buildSlice1 Tryz.underlying25 Tryz.sizeOf3 Tryz.zeroValue3 rfl rfl) ?_
                  intro b70
                  have w70 : OwnS (intE .i64) 3 H69 (.slice (some ⟨b70, 0, none⟩) 1 1) [2] [(b70, .cells #[.int .i64 2] 3)] := OwnS.lit (xs := [2]) (cellsOf_cons (a := [.int .i64 2]) rfl cellsOf_nil) (by show 1 ≤ maxLen; decide)
                  refine TL.nil (Plan.e1 (HLe.refl _) ?_)
                  refine Plan.s1 34 [35, 36, 37, 38, 39, 40, 41, 42] kA kA rfl ?_
                  refine TL.shut (.tl .hd) ?_
                  intro HF69_0_0_15 sF69_0_0_15 qF69_0_0_15
                  have fF69_0_0_15 := OwnS.read w69_0_0 sF69_0_0_15 qF69_0_0_15
                  refine TL.shut .hd ?_
                  intro HF70_16 sF70_16 qF70_16
                  have fF70_16 := OwnS.read (OwnS.mono w70 sF69_0_0_15) sF70_16 qF70_16
                  refine R.callv rfl rfl rfl (slices_Equal_int_d _ _ r69 (fF69_0_0_15.mono sF70_16) _ ([2]) fF70_16) ?_
                  refine TL.nil (Plan.e1 ((sF69_0_0_15.trans sF70_16)) ?_)
                  refine Plan.v 35 [36, 37, 38, 39, 40, 41, 42] kA kA kA kA rfl (fun _ _ h_ => R.pkTE rfl rfl cA (TL.nil h_)) ?_
                  refine Plan.v 36 [37, 38, 39, 40, 41, 42] kA kA kA kA rfl (fun _ _ h_ => R.mvE rfl cA (TL.nil h_)) ?_
                  refine Plan.gsplitD 73 rfl (fun g73 => ?_) (fun g73 => ?_)
                  · refine Plan.v 37 [38, 39, 40, 41, 42] kA kA kA kA rfl (fun _ _ h_ => R.ldXH (cs := [.slice A24_0_0 r24.1.length p24_0_0]) (l := [.slice A24_0_0 r24.1.length p24_0_0]) Tryz.isAgg24 Tryz.sizeOf24 rfl rfl ((s34.trans (sF34_0_0_7.trans (sb9_8.trans (s53.trans (s62.trans (sF62_0_0_11.trans (sF63_12.trans (s69.trans (sF69_0_0_15.trans sF70_16))))))))) _ _ hb5_6) rfl rfl (TL.nil h_)) ?_
                    refine Plan.v 39 [38, 40, 41, 42] kA kA kA kA rfl (fun _ _ h_ => R.mvE rfl cA (TL.nil h_)) ?_
                    refine Plan.s1 38 [40, 41, 42] kA kA rfl ?_
                    obtain ⟨r75, er75⟩ : ∃ r, r = (index_Type_m r24.1 2) := ⟨_, rfl⟩
                    refine TL.call [] rfl rfl rfl (index_Type_c _ r24.1 _ (fF24_0_0_5.mono (sb5_6.trans (s34.trans (sF34_0_0_7.trans (sb9_8.trans (s53.trans (s62.trans (sF62_0_0_11.trans (sF63_12.trans (s69.trans (sF69_0_0_15.trans sF70_16))))))))))) (2) (by first | omega | assumption | (simp; done) | (simp; omega) | (simp at *; omega)) (by first | assumption | exact rows_le (by assumption) oA | (intro r h; simp at h; done))) ?_
                    intro v75 H75 L75 s75 q75
                    rw [← er75] at q75
                    obtain ⟨u75_0_0, c75_0_0, rfl, rfl, w75_0_0⟩ := q75
                    obtain ⟨A75_0_0, p75_0_0, rfl, m75_0_0, n75_0_0⟩ := OwnS.shape w75_0_0
                    refine TL.nil (Plan.e1 (s75) ?_)
                    refine Plan.s1 40 [41, 42] kA kA rfl ?_
                    refine TL.shut .hd ?_
                    intro HF75_0_0_18 sF75_0_0_18 qF75_0_0_18
                    have fF75_0_0_18 := OwnS.read w75_0_0 sF75_0_0_18 qF75_0_0_18
                    refine R.callv rfl rfl rfl (slices_Equal_Id_d _ _ r75 fF75_0_0_18 _ r12.2 (fF12_1_0_4.mono (s24.trans (sF24_0_0_5.trans (sb5_6.trans (s34.trans (sF34_0_0_7.trans (sb9_8.trans (s53.trans (s62.trans (sF62_0_0_11.trans (sF63_12.trans (s69.trans (sF69_0_0_15.trans (sF70_16.trans (s75.trans sF75_0_0_18)))))))))))))))) ?_
                    refine TL.nil (Plan.e1 (sF75_0_0_18) ?_)
                    refine Plan.v 41 [42] kA kA kA kA rfl (fun _ _ h_ => R.pkTE rfl rfl cA (TL.nil h_)) ?_
                    refine Plan.v 42 [] kA kA kA kA rfl (fun _ _ h_ => R.asE rfl cA (TL.nil h_)) ?_
                    refine Plan.done (Post.thnN ?_)
                    refine T.has Has.nil ?_
                    refine T.ret ?_
                    have hM : windroselaw14_wakes_m = (decide (r75 = r12.2)) := by subst er75; subst er69; subst er62; subst e60; subst er53; subst er34; subst er28; subst er24; subst er18; subst er12; rw [windroselaw14_wakes_m, LR.seq_go, LR.seq_go, LR.seq_go, LR.seq_go, LR.seq_go, if_pos g39, if_pos g43, if_pos g47, if_pos g51, LR.seq_go, if_pos g57, LR.seq_go, if_pos g66, LR.seq_go, if_pos g73, LR.seq_go]
                    exact fin1L (v := .bool (decide (r75 = r12.2))) [] rfl rfl (List.Sublist.refl _) ⟨rfl, by first | rw [hM] | rfl⟩
                  refine Plan.v 37 [38, 39, 40, 41, 42] kA kA kA kA rfl (fun _ _ h_ => TL.off rfl rfl rfl (TL.nil h_)) ?_
                  refine Plan.v 38 [39, 40, 41, 42] kA kA kA kA rfl (fun _ _ h_ => TL.off rfl rfl rfl (TL.nil h_)) ?_
                  refine Plan.v 39 [40, 41, 42] kA kA kA kA rfl (fun _ _ h_ => TL.off rfl rfl rfl (TL.nil h_)) ?_
                  refine Plan.v 40 [41, 42] kA kA kA kA rfl (fun _ _ h_ => TL.off rfl rfl rfl (TL.nil h_)) ?_
                  refine Plan.v 41 [42] kA kA kA kA rfl (fun _ _ h_ => R.pkFE rfl rfl cA (TL.nil h_)) ?_
                  refine Plan.v 42 [] kA kA kA kA rfl (fun _ _ h_ => R.asE rfl cA (TL.nil h_)) ?_
                  refine Plan.done (Post.thnN ?_)
                  refine T.has Has.nil ?_
                  refine T.ret ?_
                  have hM : windroselaw14_wakes_m = false := by subst er69; subst er62; subst e60; subst er53; subst er34; subst er28; subst er24; subst er18; subst er12; rw [windroselaw14_wakes_m, LR.seq_go, LR.seq_go, LR.seq_go, LR.seq_go, LR.seq_go, if_pos g39, if_pos g43, if_pos g47, if_pos g51, LR.seq_go, if_pos g57, LR.seq_go, if_pos g66, LR.seq_go, if_neg g73]
                  exact fin1L (v := .bool false) [] rfl rfl (List.Sublist.refl _) ⟨rfl, by first | rw [hM] | rfl⟩
                refine R.bs rfl (run_buildSlice1 Tryz.underlying25 Tryz.sizeOf3 Tryz.zeroValue3 rfl rfl) ?_
                intro b70
                have w70 : OwnS (intE .i64) 3 HF63_12 (.slice (some ⟨b70, 0, none⟩) 1 1) [2] [(b70, .cells #[.int .i64 2] 3)] := OwnS.lit (xs := [2]) (cellsOf_cons (a := [.int .i64 2]) rfl cellsOf_nil) (by show 1 ≤ maxLen; decide)
                refine TL.nil (Plan.e1 (HLe.refl _) ?_)
                refine Plan.s1 32 [34, 35, 36, 37, 38, 39, 40, 41, 42] kA kA rfl ?_
                obtain ⟨r69, er69⟩ : ∃ r, r = (index_Find_m r24.1 r28.1) := ⟨_, rfl⟩
                refine TL.call [] rfl rfl rfl (index_Find_c _ r24.1 _ (fF24_0_0_5.mono (sb5_6.trans (s34.trans (sF34_0_0_7.trans (sb9_8.trans (s53.trans (s62.trans (sF62_0_0_11.trans sF63_12)))))))) (r28.1) (by first | omega | assumption | (simp; done) | (simp; omega) | (simp at *; omega)) (by first | assumption | exact rows_le (by assumption) oA | (intro r h; simp at h; done))) ?_
                intro v69 H69 L69 s69 q69
                rw [← er69] at q69
                obtain ⟨u69_0_0, c69_0_0, rfl, rfl, w69_0_0⟩ := q69
                obtain ⟨A69_0_0, p69_0_0, rfl, m69_0_0, n69_0_0⟩ := OwnS.shape w69_0_0
                refine TL.nil (Plan.e1 (s69) ?_)
                refine Plan.s1 34 [35, 36, 37, 38, 39, 40, 41, 42] kA kA rfl ?_
                refine TL.shut .hd ?_
                intro HF69_0_0_21 sF69_0_0_21 qF69_0_0_21
                have fF69_0_0_21 := OwnS.read w69_0_0 sF69_0_0_21 qF69_0_0_21
                refine TL.shut .hd ?_
                intro HF70_22 sF70_22 qF70_22
                have fF70_22 := OwnS.read (OwnS.mono w70 (s69.trans sF69_0_0_21)) sF70_22 qF70_22
                refine R.callv rfl rfl rfl (slices_Equal_int_d _ _ r69 (fF69_0_0_21.mono sF70_22) _ ([2]) fF70_22) ?_
                refine TL.nil (Plan.e1 ((sF69_0_0_21.trans sF70_22)) ?_)
                refine Plan.v 35 [36, 37, 38, 39, 40, 41, 42] kA kA kA kA rfl (fun _ _ h_ => R.pkTE rfl rfl cA (TL.nil h_)) ?_
                refine Plan.v 36 [37, 38, 39, 40, 41, 42] kA kA kA kA rfl (fun _ _ h_ => R.mvE rfl cA (TL.nil h_)) ?_
                refine Plan.gsplitD 73 rfl (fun g73 => ?_) (fun g73 => ?_)
                · refine Plan.v 37 [38, 39, 40, 41, 42] kA kA kA kA rfl (fun _ _ h_ => R.ldXH (cs := [.slice A24_0_0 r24.1.length p24_0_0]) (l := [.slice A24_0_0 r24.1.length p24_0_0]) Tryz.isAgg24 Tryz.sizeOf24 rfl rfl ((s34.trans (sF34_0_0_7.trans (sb9_8.trans (s53.trans (s62.trans (sF62_0_0_11.trans (sF63_12.trans (s69.trans (sF69_0_0_21.trans sF70_22))))))))) _ _ hb5_6) rfl rfl (TL.nil h_)) ?_
                  refine Plan.v 39 [38, 40, 41, 42] kA kA kA kA rfl (fun _ _ h_ => R.mvE rfl cA (TL.nil h_)) ?_
                  refine Plan.s1 38 [40, 41, 42] kA kA rfl ?_
                  obtain ⟨r75, er75⟩ : ∃ r, r = (index_Type_m r24.1 2) := ⟨_, rfl⟩
                  refine TL.call [] rfl rfl rfl (index_Type_c _ r24.1 _ (fF24_0_0_5.mono (sb5_6.trans (s34.trans (sF34_0_0_7.trans (sb9_8.trans (s53.trans (s62.trans (sF62_0_0_11.trans (sF63_12.trans (s69.trans (sF69_0_0_21.trans sF70_22))))))))))) (2) (by first | omega | assumption | (simp; done) | (simp; omega) | (simp at *; omega)) (by first | assumption | exact rows_le (by assumption) oA | (intro r h; simp at h; done))) ?_
                  intro v75 H75 L75 s75 q75
                  rw [← er75] at q75
                  obtain ⟨u75_0_0, c75_0_0, rfl, rfl, w75_0_0⟩ := q75
                  obtain ⟨A75_0_0, p75_0_0, rfl, m75_0_0, n75_0_0⟩ := OwnS.shape w75_0_0
                  refine TL.nil (Plan.e1 (s75) ?_)
                  refine Plan.s1 40 [41, 42] kA kA rfl ?_
                  refine TL.shut .hd ?_
                  intro HF75_0_0_24 sF75_0_0_24 qF75_0_0_24
                  have fF75_0_0_24 := OwnS.read w75_0_0 sF75_0_0_24 qF75_0_0_24
                  refine R.callv rfl rfl rfl (slices_Equal_Id_d _ _ r75 fF75_0_0_24 _ r12.2 (fF12_1_0_4.mono (s24.trans (sF24_0_0_5.trans (sb5_6.trans (s34.trans (sF34_0_0_7.trans (sb9_8.trans (s53.trans (s62.trans (sF62_0_0_11.trans (sF63_12.trans (s69.trans (sF69_0_0_21.trans (sF70_22.trans (s75.trans sF75_0_0_24)))))))))))))))) ?_
                  refine TL.nil (Plan.e1 (sF75_0_0_24) ?_)
                  refine Plan.v 41 [42] kA kA kA kA rfl (fun _ _ h_ => R.pkTE rfl rfl cA (TL.nil h_)) ?_
                  refine Plan.v 42 [] kA kA kA kA rfl (fun _ _ h_ => R.asE rfl cA (TL.nil h_)) ?_
                  refine Plan.done (Post.thnN ?_)
                  refine T.has Has.nil ?_
                  refine T.ret ?_
                  have hM : windroselaw14_wakes_m = (decide (r75 = r12.2)) := by subst er75; subst er69; subst er62; subst e60; subst er53; subst er34; subst er28; subst er24; subst er18; subst er12; rw [windroselaw14_wakes_m, LR.seq_go, LR.seq_go, LR.seq_go, LR.seq_go, LR.seq_go, if_pos g39, if_pos g43, if_pos g47, if_pos g51, LR.seq_go, if_pos g57, LR.seq_go, if_pos g66, LR.seq_go, if_pos g73, LR.seq_go]
                  exact fin1L (v := .bool (decide (r75 = r12.2))) [] rfl rfl (List.Sublist.refl _) ⟨rfl, by first | rw [hM] | rfl⟩
                refine Plan.v 37 [38, 39, 40, 41, 42] kA kA kA kA rfl (fun _ _ h_ => TL.off rfl rfl rfl (TL.nil h_)) ?_
                refine Plan.v 38 [39, 40, 41, 42] kA kA kA kA rfl (fun _ _ h_ => TL.off rfl rfl rfl (TL.nil h_)) ?_
                refine Plan.v 39 [40, 41, 42] kA kA kA kA rfl (fun _ _ h_ => TL.off rfl rfl rfl (TL.nil h_)) ?_
                refine Plan.v 40 [41, 42] kA kA kA kA rfl (fun _ _ h_ => TL.off rfl rfl rfl (TL.nil h_)) ?_
                refine Plan.v 41 [42] kA kA kA kA rfl (fun _ _ h_ => R.pkFE rfl rfl cA (TL.nil h_)) ?_
                refine Plan.v 42 [] kA kA kA kA rfl (fun _ _ h_ => R.asE rfl cA (TL.nil h_)) ?_
                refine Plan.done (Post.thnN ?_)
                refine T.has Has.nil ?_
                refine T.ret ?_
                have hM : windroselaw14_wakes_m = false := by subst er69; subst er62; subst e60; subst er53; subst er34; subst er28; subst er24; subst er18; subst er12; rw [windroselaw14_wakes_m, LR.seq_go, LR.seq_go, LR.seq_go, LR.seq_go, LR.seq_go, if_pos g39, if_pos g43, if_pos g47, if_pos g51, LR.seq_go, if_pos g57, LR.seq_go, if_pos g66, LR.seq_go, if_neg g73]
                exact fin1L (v := .bool false) [] rfl rfl (List.Sublist.refl _) ⟨rfl, by first | rw [hM] | rfl⟩
              refine Plan.v 30 [31, 32, 33, 34, 35, 36, 37, 38, 39, 40, 41, 42] kA kA kA kA rfl (fun _ _ h_ => TL.off rfl rfl rfl (TL.nil h_)) ?_
              refine Plan.v 31 [32, 33, 34, 35, 36, 37, 38, 39, 40, 41, 42] kA kA kA kA rfl (fun _ _ h_ => TL.off rfl rfl rfl (TL.nil h_)) ?_
              refine Plan.v 32 [33, 34, 35, 36, 37, 38, 39, 40, 41, 42] kA kA kA kA rfl (fun _ _ h_ => TL.off rfl rfl rfl (TL.nil h_)) ?_
              refine Plan.v 33 [34, 35, 36, 37, 38, 39, 40, 41, 42] kA kA kA kA rfl (fun _ _ h_ => TL.off rfl rfl rfl (TL.nil h_)) ?_
              refine Plan.v 34 [35, 36, 37, 38, 39, 40, 41, 42] kA kA kA kA rfl (fun _ _ h_ => TL.off rfl rfl rfl (TL.nil h_)) ?_
              refine Plan.v 35 [36, 37, 38, 39, 40, 41, 42] kA kA kA kA rfl (fun _ _ h_ => R.pkFE rfl rfl cA (TL.nil h_)) ?_
              refine Plan.v 36 [37, 38, 39, 40, 41, 42] kA kA kA kA rfl (fun _ _ h_ => R.mvE rfl cA (TL.nil h_)) ?_
              refine Plan.v 37 [38, 39, 40, 41, 42] kA kA kA kA rfl (fun _ _ h_ => TL.off rfl rfl rfl (TL.nil h_)) ?_
              refine Plan.v 38 [39, 40, 41, 42] kA kA kA kA rfl (fun _ _ h_ => TL.off rfl rfl rfl (TL.nil h_)) ?_
              refine Plan.v 39 [40, 41, 42] kA kA kA kA rfl (fun _ _ h_ => TL.off rfl rfl rfl (TL.nil h_)) ?_
              refine Plan.v 40 [41, 42] kA kA kA kA rfl (fun _ _ h_ => TL.off rfl rfl rfl (TL.nil h_)) ?_
              refine Plan.v 41 [42] kA kA kA kA rfl (fun _ _ h_ => R.pkFE rfl rfl cA (TL.nil h_)) ?_
              refine Plan.v 42 [] kA kA kA kA rfl (fun _ _ h_ => R.asE rfl cA (TL.nil h_)) ?_
              refine Plan.done (Post.thnN ?_)
              refine T.has Has.nil ?_
              refine T.ret ?_
              have hM : windroselaw14_wakes_m = false := by subst er62; subst e60; subst er53; subst er34; subst er28; subst er24; subst er18; subst er12; rw [windroselaw14_wakes_m, LR.seq_go, LR.seq_go, LR.seq_go, LR.seq_go, LR.seq_go, if_pos g39, if_pos g43, if_pos g47, if_pos g51, LR.seq_go, if_pos g57, LR.seq_go, if_neg g66]
              exact fin1L (v := .bool false) [] rfl rfl (List.Sublist.refl _) ⟨rfl, by first | rw [hM] | rfl⟩
            refine R.bsN [.int .i64 1, .int .i64 2] rfl Tryz.underlying25 Tryz.sizeOf3 Tryz.zeroValue3 rfl rfl rfl rfl rfl rfl ?_
            intro b63
            have w63 : OwnS (intE .i64) 3 H53 (.slice (some ⟨b63, 0, none⟩) 2 2) [1, 2] [(b63, .cells #[.int .i64 1, .int .i64 2] 3)] := OwnS.lit (xs := [1, 2]) (cellsOf_cons (a := [.int .i64 1]) rfl (cellsOf_cons (a := [.int .i64 2]) rfl cellsOf_nil)) (by show 2 ≤ maxLen; decide)
            refine TL.nil (Plan.e1 (HLe.refl _) ?_)
            refine Plan.s1 25 [27, 28, 29, 30, 31, 32, 33, 34, 35, 36, 37, 38, 39, 40, 41, 42] kA kA rfl ?_
            obtain ⟨r62, er62⟩ : ∃ r, r = (index_Find_m r24.1 y60) := ⟨_, rfl⟩
            refine TL.call [] rfl rfl rfl (index_Find_c _ r24.1 _ (fF24_0_0_5.mono (sb5_6.trans (s34.trans (sF34_0_0_7.trans (sb9_8.trans s53))))) (y60) (by first | omega | assumption | (simp; done) | (simp; omega) | (simp at *; omega)) (by first | assumption | exact rows_le (by assumption) oA | (intro r h; simp at h; done))) ?_
            intro v62 H62 L62 s62 q62
            rw [← er62] at q62
            obtain ⟨u62_0_0, c62_0_0, rfl, rfl, w62_0_0⟩ := q62
            obtain ⟨A62_0_0, p62_0_0, rfl, m62_0_0, n62_0_0⟩ := OwnS.shape w62_0_0
            refine TL.nil (Plan.e1 (s62) ?_)
            refine Plan.s1 27 [28, 29, 30, 31, 32, 33, 34, 35, 36, 37, 38, 39, 40, 41, 42] kA kA rfl ?_
            refine TL.shut .hd ?_
            intro HF62_0_0_27 sF62_0_0_27 qF62_0_0_27
            have fF62_0_0_27 := OwnS.read w62_0_0 sF62_0_0_27 qF62_0_0_27
            refine TL.shut .hd ?_
            intro HF63_28 sF63_28 qF63_28
            have fF63_28 := OwnS.read (OwnS.mono w63 (s62.trans sF62_0_0_27)) sF63_28 qF63_28
            refine R.callv rfl rfl rfl (slices_Equal_int_d _ _ r62 (fF62_0_0_27.mono sF63_28) _ ([1, 2]) fF63_28) ?_
            refine TL.nil (Plan.e1 ((sF62_0_0_27.trans sF63_28)) ?_)
            refine Plan.v 28 [29, 30, 31, 32, 33, 34, 35, 36, 37, 38, 39, 40, 41, 42] kA kA kA kA rfl (fun _ _ h_ => R.pkTE rfl rfl cA (TL.nil h_)) ?_
            refine Plan.v 29 [30, 31, 32, 33, 34, 35, 36, 37, 38, 39, 40, 41, 42] kA kA kA kA rfl (fun _ _ h_ => R.mvE rfl cA (TL.nil h_)) ?_
            refine Plan.gsplitD 66 rfl (fun g66 => ?_) (fun g66 => ?_)
            · refine Plan.v 30 [31, 32, 33, 34, 35, 36, 37, 38, 39, 40, 41, 42] kA kA kA kA rfl (fun _ _ h_ => R.ldXH (cs := [.slice A24_0_0 r24.1.length p24_0_0]) (l := [.slice A24_0_0 r24.1.length p24_0_0]) Tryz.isAgg24 Tryz.sizeOf24 rfl rfl ((s34.trans (sF34_0_0_7.trans (sb9_8.trans (s53.trans (s62.trans (sF62_0_0_27.trans sF63_28)))))) _ _ hb5_6) rfl rfl (TL.nil h_)) ?_
              refine Plan.v 31 [32, 33, 34, 35, 36, 37, 38, 39, 40, 41, 42] kA kA kA kA rfl (fun _ _ h_ => R.mvE rfl cA (TL.nil h_)) ?_
              refine Plan.s2 32 33 [33, 34, 35, 36, 37, 38, 39, 40, 41, 42] [32, 34, 35, 36, 37, 38, 39, 40, 41, 42] kA kA kA rfl rfl ?_ ?_
              · obtain ⟨r69, er69⟩ : ∃ r, r = (index_Find_m r24.1 r28.1) := ⟨_, rfl⟩
                refine TL.call [] rfl rfl rfl (index_Find_c _ r24.1 _ (fF24_0_0_5.mono (sb5_6.trans (s34.trans (sF34_0_0_7.trans (sb9_8.trans (s53.trans (s62.trans (sF62_0_0_27.trans sF63_28)))))))) (r28.1) (by first | omega | assumption | (simp; done) | (simp; omega) | (simp at *; omega)) (by first | assumption | exact rows_le (by assumption) oA | (intro r h; simp at h; done))) ?_
                intro v69 H69 L69 s69 q69
                rw [← er69] at q69
                obtain ⟨u69_0_0, c69_0_0, rfl, rfl, w69_0_0⟩ := q69
                obtain ⟨A69_0_0, p69_0_0, rfl, m69_0_0, n69_0_0⟩ := OwnS.shape w69_0_0
                refine TL.nil (Plan.e1 (s69) ?_)
                refine Plan.s1 33 [34, 35, 36, 37, 38, 39, 40, 41, 42] kA kA rfl ?_
                refine R.bs rfl (run_buildSlice1 Tryz.underlying25 Tryz.sizeOf3 Tryz.zeroValue3 rfl rfl) ?_
                intro b70
                have w70 : OwnS (intE .i64) 3 H69 (.slice (some ⟨b70, 0, none⟩) 1 1) [2] [(b70, .cells #[.int .i64 2] 3)] := OwnS.lit (xs := [2]) (cellsOf_cons (a := [.int .i64 2]) rfl cellsOf_nil) (by show 1 ≤ maxLen; decide)
                refine TL.nil (Plan.e1 (HLe.refl _) ?_)
                refine Plan.s1 34 [35, 36, 37, 38, 39, 40, 41, 42] kA kA rfl ?_
                refine TL.shut (.tl .hd) ?_
                intro HF69_0_0_31 sF69_0_0_31 qF69_0_0_31
                have fF69_0_0_31 := OwnS.read w69_0_0 sF69_0_0_31 qF69_0_0_31
                refine TL.shut .hd ?_
                intro HF70_32 sF70_32 qF70_32
                have fF70_32 := OwnS.read (OwnS.mono w70 sF69_0_0_31) sF70_32 qF70_32
                refine R.callv rfl rfl rfl (slices_Equal_int_d _ _ r69 (fF69_0_0_31.mono sF70_32) _ ([2]) fF70_32) ?_
                refine TL.nil (Plan.e1 ((sF69_0_0_31.trans sF70_32)) ?_)
                refine Plan.v 35 [36, 37, 38, 39, 40, 41, 42] kA kA kA kA rfl (fun _ _ h_ => R.pkTE rfl rfl cA (TL.nil h_)) ?_
                refine Plan.v 36 [37, 38, 39, 40, 41, 42] kA kA kA kA rfl (fun _ _ h_ => R.mvE rfl cA (TL.nil h_)) ?_
                refine Plan.gsplitD 73 rfl (fun g73 => ?_) (fun g73 => ?_)
                · refine Plan.v 37 [38, 39, 40, 41, 42] kA kA kA kA rfl (fun _ _ h_ => R.ldXH (cs := [.slice A24_0_0 r24.1.length p24_0_0]) (l := [.slice A24_0_0 r24.1.length p24_0_0]) Tryz.isAgg24 Tryz.sizeOf24 rfl rfl ((s34.trans (sF34_0_0_7.trans (sb9_8.trans (s53.trans (s62.trans (sF62_0_0_27.trans (sF63_28.trans (s69.trans (sF69_0_0_31.trans sF70_32))))))))) _ _ hb5_6) rfl rfl (TL.nil h_)) ?_
                  refine Plan.v 39 [38, 40, 41, 42] kA kA kA kA rfl (fun _ _ h_ => R.mvE rfl cA (TL.nil h_)) ?_
                  refine Plan.s1 38 [40, 41, 42] kA kA rfl ?_
                  obtain ⟨r75, er75⟩ : ∃ r, r = (index_Type_m r24.1 2) := ⟨_, rfl⟩
                  refine TL.call [] rfl rfl rfl (index_Type_c _ r24.1 _ (fF24_0_0_5.mono (sb5_6.trans (s34.trans (sF34_0_0_7.trans (sb9_8.trans (s53.trans (s62.trans (sF62_0_0_27.trans (sF63_28.trans (s69.trans (sF69_0_0_31.trans sF70_32))))))))))) (2) (by first | omega | assumption | (simp; done) | (simp; omega) | (simp at *; omega)) (by first | assumption | exact rows_le (by assumption) oA | (intro r h; simp at h; done))) ?_
                  intro v75 H75 L75 s75 q75
                  rw [← er75] at q75
                  obtain ⟨u75_0_0, c75_0_0, rfl, rfl, w75_0_0⟩ := q75
                  obtain ⟨A75_0_0, p75_0_0, rfl, m75_0_0, n75_0_0⟩ := OwnS.shape w75_0_0
                  refine TL.nil (Plan.e1 (s75) ?_)
                  refine Plan.s1 40 [41, 42] kA kA rfl ?_
                  refine TL.shut .hd ?_
                  intro HF75_0_0_34 sF75_0_0_34 qF75_0_0_34
                  have fF75_0_0_34 := OwnS.read w75_0_0 sF75_0_0_34 qF75_0_0_34
                  refine R.callv rfl rfl rfl (slices_Equal_Id_d _ _ r75 fF75_0_0_34 _ r12.2 (fF12_1_0_4.mono (s24.trans (sF24_0_0_5.trans (sb5_6.trans (s34.trans (sF34_0_0_7.trans (sb9_8.trans (s53.trans (s62.trans (sF62_0_0_27.trans (sF63_28.trans (s69.trans (sF69_0_0_31.trans (sF70_32.trans (s75.trans sF75_0_0_34)))))))))))))))) ?_
                  refine TL.nil (Plan.e1 (sF75_0_0_34) ?_)
                  refine Plan.v 41 [42] kA kA kA kA rfl (fun _ _ h_ => R.pkTE rfl rfl cA (TL.nil h_)) ?_
                  refine Plan.v 42 [] kA kA kA kA rfl (fun _ _ h_ => R.asE rfl cA (TL.nil h_)) ?_
                  refine Plan.done (Post.thnN ?_)
                  refine T.has Has.nil ?_
                  refine T.ret ?_
                  have hM : windroselaw14_wakes_m = (decide (r75 = r12.2)) := by subst er75; subst er69; subst er62; subst e60; subst er53; subst er34; subst er28; subst er24; subst er18; subst er12; rw [windroselaw14_wakes_m, LR.seq_go, LR.seq_go, LR.seq_go, LR.seq_go, LR.seq_go, if_pos g39, if_pos g43, if_pos g47, if_pos g51, LR.seq_go, if_pos g57, LR.seq_go, if_pos g66, LR.seq_go, if_pos g73, LR.seq_go]
                  exact fin1L (v := .bool (decide (r75 = r12.2))) [] rfl rfl (List.Sublist.refl _) ⟨rfl, by first | rw [hM] | rfl⟩
                refine Plan.v 37 [38, 39, 40, 41, 42] kA kA kA kA rfl (fun _ _ h_ => TL.off rfl rfl rfl (TL.nil h_)) ?_
                refine Plan.v 38 [39, 40, 41, 42] kA kA kA kA rfl (fun _ _ h_ => TL.off rfl rfl rfl (TL.nil h_)) ?_
                refine Plan.v 39 [40, 41, 42] kA kA kA kA rfl (fun _ _ h_ => TL.off rfl rfl rfl (TL.nil h_)) ?_
                refine Plan.v 40 [41, 42] kA kA kA kA rfl (fun _ _ h_ => TL.off rfl rfl rfl (TL.nil h_)) ?_
                refine Plan.v 41 [42] kA kA kA kA rfl (fun _ _ h_ => R.pkFE rfl rfl cA (TL.nil h_)) ?_
                refine Plan.v 42 [] kA kA kA kA rfl (fun _ _ h_ => R.asE rfl cA (TL.nil h_)) ?_
                refine Plan.done (Post.thnN ?_)
                refine T.has Has.nil ?_
                refine T.ret ?_
                have hM : windroselaw14_wakes_m = false := by subst er69; subst er62; subst e60; subst er53; subst er34; subst er28; subst er24; subst er18; subst er12; rw [windroselaw14_wakes_m, LR.seq_go, LR.seq_go, LR.seq_go, LR.seq_go, LR.seq_go, if_pos g39, if_pos g43, if_pos g47, if_pos g51, LR.seq_go, if_pos g57, LR.seq_go, if_pos g66, LR.seq_go, if_neg g73]
                exact fin1L (v := .bool false) [] rfl rfl (List.Sublist.refl _) ⟨rfl, by first | rw [hM] | rfl⟩
              refine R.bs rfl (run_buildSlice1 Tryz.underlying25 Tryz.sizeOf3 Tryz.zeroValue3 rfl rfl) ?_
              intro b70
              have w70 : OwnS (intE .i64) 3 HF63_28 (.slice (some ⟨b70, 0, none⟩) 1 1) [2] [(b70, .cells #[.int .i64 2] 3)] := OwnS.lit (xs := [2]) (cellsOf_cons (a := [.int .i64 2]) rfl cellsOf_nil) (by show 1 ≤ maxLen; decide)
              refine TL.nil (Plan.e1 (HLe.refl _) ?_)
              refine Plan.s1 32 [34, 35, 36, 37, 38, 39, 40, 41, 42] kA kA rfl ?_
              obtain ⟨r69, er69⟩ : ∃ r, r = (index_Find_m r24.1 r28.1) := ⟨_, rfl⟩
              refine TL.call [] rfl rfl rfl (index_Find_c _ r24.1 _ (fF24_0_0_5.mono (sb5_6.trans (s34.trans (sF34_0_0_7.trans (sb9_8.trans (s53.trans (s62.trans (sF62_0_0_27.trans sF63_28)))))))) (r28.1) (by first | omega | assumption | (simp; done) | (simp; omega) | (simp at *; omega)) (by first | assumption | exact rows_le (by assumption) oA | (intro r h; simp at h; done))) ?_
              intro v69 H69 L69 s69 q69
              rw [← er69] at q69
              obtain ⟨u69_0_0, c69_0_0, rfl, rfl, w69_0_0⟩ := q69
              obtain ⟨A69_0_0, p69_0_0, rfl, m69_0_0, n69_0_0⟩ := OwnS.shape w69_0_0
              refine TL.nil (Plan.e1 (s69) ?_)
              refine Plan.s1 34 [35, 36, 37, 38, 39, 40, 41, 42] kA kA rfl ?_
              refine TL.shut .hd ?_
              intro HF69_0_0_37 sF69_0_0_37 qF69_0_0_37
              have fF69_0_0_37 := OwnS.read w69_0_0 sF69_0_0_37 qF69_0_0_37
              refine TL.shut .hd ?_
              intro HF70_38 sF70_38 qF70_38
              have fF70_38 := OwnS.read (OwnS.mono w70 (s69.trans sF69_0_0_37)) sF70_38 qF70_38
              refine R.callv rfl rfl rfl (slices_Equal_int_d _ _ r69 (fF69_0_0_37.mono sF70_38) _ ([2]) fF70_38) ?_
              refine TL.nil (Plan.e1 ((sF69_0_0_37.trans sF70_38)) ?_)
              refine Plan.v 35 [36, 37, 38, 39, 40, 41, 42] kA kA kA kA rfl (fun _ _ h_ => R.pkTE rfl rfl cA (TL.nil h_)) ?_
              refine Plan.v 36 [37, 38, 39, 40, 41, 42] kA kA kA kA rfl (fun _ _ h_ => R.mvE rfl cA (TL.nil h_)) ?_
              refine Plan.gsplitD 73 rfl (fun g73 => ?_) (fun g73 => ?_)
              · refine Plan.v 37 [38, 39, 40, 41, 42] kA kA kA kA rfl (fun _ _ h_ => R.ldXH (cs := [.slice A24_0_0 r24.1.length p24_0_0]) (l := [.slice A24_0_0 r24.1.length p24_0_0]) Tryz.isAgg24 Tryz.sizeOf24 rfl rfl ((s34.trans (sF34_0_0_7.trans (sb9_8.trans (s53.trans (s62.trans (sF62_0_0_27.trans (sF63_28.trans (s69.trans (sF69_0_0_37.trans sF70_38))))))))) _ _ hb5_6) rfl rfl (TL.nil h_)) ?_
                refine Plan.v 39 [38, 40, 41, 42] kA kA kA kA rfl (fun _ _ h_ => R.mvE rfl cA (TL.nil h_)) ?_
                refine Plan.s1 38 [40, 41, 42] kA kA rfl ?_
                obtain ⟨r75, er75⟩ : ∃ r, r = (index_Type_m r24.1 2) := ⟨_, rfl⟩
                refine TL.call [] rfl rfl rfl (index_Type_c _ r24.1 _ (fF24_0_0_5.mono (sb5_6.trans (s34.trans (sF34_0_0_7.trans (sb9_8.trans (s53.trans (s62.trans (sF62_0_0_27.trans (sF63_28.trans (s69.trans (sF69_0_0_37.trans sF70_38))))))))))) (2) (by first | omega | assumption | (simp; done) | (simp; omega) | (simp at *; omega)) (by first | assumption | exact rows_le (by assumption) oA | (intro r h; simp at h; done))) ?_
                intro v75 H75 L75 s75 q75
                rw [← er75] at q75
                obtain ⟨u75_0_0, c75_0_0, rfl, rfl, w75_0_0⟩ := q75
                obtain ⟨A75_0_0, p75_0_0, rfl, m75_0_0, n75_0_0⟩ := OwnS.shape w75_0_0
                refine TL.nil (Plan.e1 (s75) ?_)
                refine Plan.s1 40 [41, 42] kA kA rfl ?_
                refine TL.shut .hd ?_
                intro HF75_0_0_40 sF75_0_0_40 qF75_0_0_40
                have fF75_0_0_40 := OwnS.read w75_0_0 sF75_0_0_40 qF75_0_0_40
                refine R.callv rfl rfl rfl (slices_Equal_Id_d _ _ r75 fF75_0_0_40 _ r12.2 (fF12_1_0_4.mono (s24.trans (sF24_0_0_5.trans (sb5_6.trans (s34.trans (sF34_0_0_7.trans (sb9_8.trans (s53.trans (s62.trans (sF62_0_0_27.trans (sF63_28.trans (s69.trans (sF69_0_0_37.trans (sF70_38.trans (s75.trans sF75_0_0_40)))))))))))))))) ?_
                refine TL.nil (Plan.e1 (sF75_0_0_40) ?_)
                refine Plan.v 41 [42] kA kA kA kA rfl (fun _ _ h_ => R.pkTE rfl rfl cA (TL.nil h_)) ?_
                refine Plan.v 42 [] kA kA kA kA rfl (fun _ _ h_ => R.asE rfl cA (TL.nil h_)) ?_
                refine Plan.done (Post.thnN ?_)
                refine T.has Has.nil ?_
                refine T.ret ?_
                have hM : windroselaw14_wakes_m = (decide (r75 = r12.2)) := by subst er75; subst er69; subst er62; subst e60; subst er53; subst er34; subst er28; subst er24; subst er18; subst er12; rw [windroselaw14_wakes_m, LR.seq_go, LR.seq_go, LR.seq_go, LR.seq_go, LR.seq_go, if_pos g39, if_pos g43, if_pos g47, if_pos g51, LR.seq_go, if_pos g57, LR.seq_go, if_pos g66, LR.seq_go, if_pos g73, LR.seq_go]
                exact fin1L (v := .bool (decide (r75 = r12.2))) [] rfl rfl (List.Sublist.refl _) ⟨rfl, by first | rw [hM] | rfl⟩
              refine Plan.v 37 [38, 39, 40, 41, 42] kA kA kA kA rfl (fun _ _ h_ => TL.off rfl rfl rfl (TL.nil h_)) ?_
              refine Plan.v 38 [39, 40, 41, 42] kA kA kA kA rfl (fun _ _ h_ => TL.off rfl rfl rfl (TL.nil h_)) ?_
              refine Plan.v 39 [40, 41, 42] kA kA kA kA rfl (fun _ _ h_ => TL.off rfl rfl rfl (TL.nil h_)) ?_
              refine Plan.v 40 [41, 42] kA kA kA kA rfl (fun _ _ h_ => TL.off rfl rfl rfl (TL.nil h_)) ?_
              refine Plan.v 41 [42] kA kA kA kA rfl (fun _ _ h_ => R.pkFE rfl rfl cA (TL.nil h_)) ?_
              refine Plan.v 42 [] kA kA kA kA rfl (fun _ _ h_ => R.asE rfl cA (TL.nil h_)) ?_
              refine Plan.done (Post.thnN ?_)
              refine T.has Has.nil ?_
              refine T.ret ?_
              have hM : windroselaw14_wakes_m = false := by subst er69; subst er62; subst e60; subst er53; subst er34; subst er28; subst er24; subst er18; subst er12; rw [windroselaw14_wakes_m, LR.seq_go, LR.seq_go, LR.seq_go, LR.seq_go, LR.seq_go, if_pos g39, if_pos g43, if_pos g47, if_pos g51, LR.seq_go, if_pos g57, LR.seq_go, if_pos g66, LR.seq_go, if_neg g73]
              exact fin1L (v := .bool false) [] rfl rfl (List.Sublist.refl _) ⟨rfl, by first | rw [hM] | rfl⟩
            refine Plan.v 30 [31, 32, 33, 34, 35, 36, 37, 38, 39, 40, 41, 42] kA kA kA kA rfl (fun _ _ h_ => TL.off rfl rfl rfl (TL.nil h_)) ?_
            refine Plan.v 31 [32, 33, 34, 35, 36, 37, 38, 39, 40, 41, 42] kA kA kA kA rfl (fun _ _ h_ => TL.off rfl rfl rfl (TL.nil h_)) ?_
            refine Plan.v 32 [33, 34, 35, 36, 37, 38, 39, 40, 41, 42] kA kA kA kA rfl (fun _ _ h_ => TL.off rfl rfl rfl (TL.nil h_)) ?_
            refine Plan.v 33 [34, 35, 36, 37, 38, 39, 40, 41, 42] kA kA kA kA rfl (fun _ _ h_ => TL.off rfl rfl rfl (TL.nil h_)) ?_
            refine Plan.v 34 [35, 36, 37, 38, 39, 40, 41, 42] kA kA kA kA rfl (fun _ _ h_ => TL.off rfl rfl rfl (TL.nil h_)) ?_
            refine Plan.v 35 [36, 37, 38, 39, 40, 41, 42] kA kA kA kA rfl (fun _ _ h_ => R.pkFE rfl rfl cA (TL.nil h_)) ?_
            refine Plan.v 36 [37, 38, 39, 40, 41, 42] kA kA kA kA rfl (fun _ _ h_ => R.mvE rfl cA (TL.nil h_)) ?_
            refine Plan.v 37 [38, 39, 40, 41, 42] kA kA kA kA rfl (fun _ _ h_ => TL.off rfl rfl rfl (TL.nil h_)) ?_
            refine Plan.v 38 [39, 40, 41, 42] kA kA kA kA rfl (fun _ _ h_ => TL.off rfl rfl rfl (TL.nil h_)) ?_
            refine Plan.v 39 [40, 41, 42] kA kA kA kA rfl (fun _ _ h_ => TL.off rfl rfl rfl (TL.nil h_)) ?_
            refine Plan.v 40 [41, 42] kA kA kA kA rfl (fun _ _ h_ => TL.off rfl rfl rfl (TL.nil h_)) ?_
            refine Plan.v 41 [42] kA kA kA kA rfl (fun _ _ h_ => R.pkFE rfl rfl cA (TL.nil h_)) ?_
            refine Plan.v 42 [] kA kA kA kA rfl (fun _ _ h_ => R.asE rfl cA (TL.nil h_)) ?_
            refine Plan.done (Post.thnN ?_)
            refine T.has Has.nil ?_
            refine T.ret ?_
            have hM : windroselaw14_wakes_m = false := by subst er62; subst e60; subst er53; subst er34; subst er28; subst er24; subst er18; subst er12; rw [windroselaw14_wakes_m, LR.seq_go, LR.seq_go, LR.seq_go, LR.seq_go, LR.seq_go, if_pos g39, if_pos g43, if_pos g47, if_pos g51, LR.seq_go, if_pos g57, LR.seq_go, if_neg g66]
            exact fin1L (v := .bool false) [] rfl rfl (List.Sublist.refl _) ⟨rfl, by first | rw [hM] | rfl⟩
          refine Plan.v 21 [22, 23, 24, 25, 26, 27, 28, 29, 30, 31, 32, 33, 34, 35, 36, 37, 38, 39, 40, 41, 42] kA kA kA kA rfl (fun _ _ h_ => TL.off rfl rfl rfl (TL.nil h_)) ?_
          refine Plan.v 22 [23, 24, 25, 26, 27, 28, 29, 30, 31, 32, 33, 34, 35, 36, 37, 38, 39, 40, 41, 42] kA kA kA kA rfl (fun _ _ h_ => TL.off rfl rfl rfl (TL.nil h_)) ?_
          refine Plan.v 23 [24, 25, 26, 27, 28, 29, 30, 31, 32, 33, 34, 35, 36, 37, 38, 39, 40, 41, 42] kA kA kA kA rfl (fun _ _ h_ => TL.off rfl rfl rfl (TL.nil h_)) ?_
          refine Plan.v 24 [25, 26, 27, 28, 29, 30, 31, 32, 33, 34, 35, 36, 37, 38, 39, 40, 41, 42] kA kA kA kA rfl (fun _ _ h_ => TL.off rfl rfl rfl (TL.nil h_)) ?_
          refine Plan.v 25 [26, 27, 28, 29, 30, 31, 32, 33, 34, 35, 36, 37, 38, 39, 40, 41, 42] kA kA kA kA rfl (fun _ _ h_ => TL.off rfl rfl rfl (TL.nil h_)) ?_
          refine Plan.v 26 [27, 28, 29, 30, 31, 32, 33, 34, 35, 36, 37, 38, 39, 40, 41, 42] kA kA kA kA rfl (fun _ _ h_ => TL.off rfl rfl rfl (TL.nil h_)) ?_
          refine Plan.v 27 [28, 29, 30, 31, 32, 33, 34, 35, 36, 37, 38, 39, 40, 41, 42] kA kA kA kA rfl (fun _ _ h_ => TL.off rfl rfl rfl (TL.nil h_)) ?_
          refine Plan.v 28 [29, 30, 31, 32, 33, 34, 35, 36, 37, 38, 39, 40, 41, 42] kA kA kA kA rfl (fun _ _ h_ => R.pkFE rfl rfl cA (TL.nil h_)) ?_
          refine Plan.v 29 [30, 31, 32, 33, 34, 35, 36, 37, 38, 39, 40, 41, 42] kA kA kA kA rfl (fun _ _ h_ => R.mvE rfl cA (TL.nil h_)) ?_
          refine Plan.v 30 [31, 32, 33, 34, 35, 36, 37, 38, 39, 40, 41, 42] kA kA kA kA rfl (fun _ _ h_ => TL.off rfl rfl rfl (TL.nil h_)) ?_
          refine Plan.v 31 [32, 33, 34, 35, 36, 37, 38, 39, 40, 41, 42] kA kA kA kA rfl (fun _ _ h_ => TL.off rfl rfl rfl (TL.nil h_)) ?_
          refine Plan.v 32 [33, 34, 35, 36, 37, 38, 39, 40, 41, 42] kA kA kA kA rfl (fun _ _ h_ => TL.off rfl rfl rfl (TL.nil h_)) ?_
          refine Plan.v 33 [34, 35, 36, 37, 38, 39, 40, 41, 42] kA kA kA kA rfl (fun _ _ h_ => TL.off rfl rfl rfl (TL.nil h_)) ?_
          refine Plan.v 34 [35, 36, 37, 38, 39, 40, 41, 42] kA kA kA kA rfl (fun _ _ h_ => TL.off rfl rfl rfl (TL.nil h_)) ?_
          refine Plan.v 35 [36, 37, 38, 39, 40, 41, 42] kA kA kA kA rfl (fun _ _ h_ => R.pkFE rfl rfl cA (TL.nil h_)) ?_
          refine Plan.v 36 [37, 38, 39, 40, 41, 42] kA kA kA kA rfl (fun _ _ h_ => R.mvE rfl cA (TL.nil h_)) ?_
          refine Plan.v 37 [38, 39, 40, 41, 42] kA kA kA kA rfl (fun _ _ h_ => TL.off rfl rfl rfl (TL.nil h_)) ?_
          refine Plan.v 38 [39, 40, 41, 42] kA kA kA kA rfl (fun _ _ h_ => TL.off rfl rfl rfl (TL.nil h_)) ?_
          refine Plan.v 39 [40, 41, 42] kA kA kA kA rfl (fun _ _ h_ => TL.off rfl rfl rfl (TL.nil h_)) ?_
          refine Plan.v 40 [41, 42] kA kA kA kA rfl (fun _ _ h_ => TL.off rfl rfl rfl (TL.nil h_)) ?_
          refine Plan.v 41 [42] kA kA kA kA rfl (fun _ _ h_ => R.pkFE rfl rfl cA (TL.nil h_)) ?_
          refine Plan.v 42 [] kA kA kA kA rfl (fun _ _ h_ => R.asE rfl cA (TL.nil h_)) ?_
          refine Plan.done (Post.thnN ?_)
          refine T.has Has.nil ?_
          refine T.ret ?_
          have hM : windroselaw14_wakes_m = false := by subst er53; subst er34; subst er28; subst er24; subst er18; subst er12; rw [windroselaw14_wakes_m, LR.seq_go, LR.seq_go, LR.seq_go, LR.seq_go, LR.seq_go, if_pos g39, if_pos g43, if_pos g47, if_pos g51, LR.seq_go, if_neg g57]
          exact fin1L (v := .bool false) [] rfl rfl (List.Sublist.refl _) ⟨rfl, by first | rw [hM] | rfl⟩
        refine Plan.v 15 [16, 17, 18, 19, 20, 21, 22, 23, 24, 25, 26, 27, 28, 29, 30, 31, 32, 33, 34, 35, 36, 37, 38, 39, 40, 41, 42] kA kA kA kA rfl (fun _ _ h_ => TL.off rfl rfl rfl (TL.nil h_)) ?_
        refine Plan.v 16 [17, 18, 19, 20, 21, 22, 23, 24, 25, 26, 27, 28, 29, 30, 31, 32, 33, 34, 35, 36, 37, 38, 39, 40, 41, 42] kA kA kA kA rfl (fun _ _ h_ => TL.off rfl rfl rfl (TL.nil h_)) ?_
        refine Plan.v 17 [18, 19, 20, 21, 22, 23, 24, 25, 26, 27, 28, 29, 30, 31, 32, 33, 34, 35, 36, 37, 38, 39, 40, 41, 42] kA kA kA kA rfl (fun _ _ h_ => TL.off rfl rfl rfl (TL.nil h_)) ?_
        refine Plan.v 18 [19, 20, 21, 22, 23, 24, 25, 26, 27, 28, 29, 30, 31, 32, 33, 34, 35, 36, 37, 38, 39, 40, 41, 42] kA kA kA kA rfl (fun _ _ h_ => TL.off rfl rfl rfl (TL.nil h_)) ?_
        refine Plan.v 19 [20, 21, 22, 23, 24, 25, 26, 27, 28, 29, 30, 31, 32, 33, 34, 35, 36, 37, 38, 39, 40, 41, 42] kA kA kA kA rfl (fun _ _ h_ => R.pkFE rfl rfl cA (TL.nil h_)) ?_
        refine Plan.v 20 [21, 22, 23, 24, 25, 26, 27, 28, 29, 30, 31, 32, 33, 34, 35, 36, 37, 38, 39, 40, 41, 42] kA kA kA kA rfl (fun _ _ h_ => R.mvE rfl cA (TL.nil h_)) ?_
        refine Plan.v 21 [22, 23, 24, 25, 26, 27, 28, 29, 30, 31, 32, 33, 34, 35, 36, 37, 38, 39, 40, 41, 42] kA kA kA kA rfl (fun _ _ h_ => TL.off rfl rfl rfl (TL.nil h_)) ?_
        refine Plan.v 22 [23, 24, 25, 26, 27, 28, 29, 30, 31, 32, 33, 34, 35, 36, 37, 38, 39, 40, 41, 42] kA kA kA kA rfl (fun _ _ h_ => TL.off rfl rfl rfl (TL.nil h_)) ?_
        refine Plan.v 23 [24, 25, 26, 27, 28, 29, 30, 31, 32, 33, 34, 35, 36, 37, 38, 39, 40, 41, 42] kA kA kA kA rfl (fun _ _ h_ => TL.off rfl rfl rfl (TL.nil h_)) ?_
        refine Plan.v 24 [25, 26, 27, 28, 29, 30, 31, 32, 33, 34, 35, 36, 37, 38, 39, 40, 41, 42] kA kA kA kA rfl (fun _ _ h_ => TL.off rfl rfl rfl (TL.nil h_)) ?_
        refine Plan.v 25 [26, 27, 28, 29, 30, 31, 32, 33, 34, 35, 36, 37, 38, 39, 40, 41, 42] kA kA kA kA rfl (fun _ _ h_ => TL.off rfl rfl rfl (TL.nil h_)) ?_
        refine Plan.v 26 [27, 28, 29, 30, 31, 32, 33, 34, 35, 36, 37, 38, 39, 40, 41, 42] kA kA kA kA rfl (fun _ _ h_ => TL.off rfl rfl rfl (TL.nil h_)) ?_
        refine Plan.v 27 [28, 29, 30, 31, 32, 33, 34, 35, 36, 37, 38, 39, 40, 41, 42] kA kA kA kA rfl (fun _ _ h_ => TL.off rfl rfl rfl (TL.nil h_)) ?_
        refine Plan.v 28 [29, 30, 31, 32, 33, 34, 35, 36, 37, 38, 39, 40, 41, 42] kA kA kA kA rfl (fun _ _ h_ => R.pkFE rfl rfl cA (TL.nil h_)) ?_
        refine Plan.v 29 [30, 31, 32, 33, 34, 35, 36, 37, 38, 39, 40, 41, 42] kA kA kA kA rfl (fun _ _ h_ => R.mvE rfl cA (TL.nil h_)) ?_
        refine Plan.v 30 [31, 32, 33, 34, 35, 36, 37, 38, 39, 40, 41, 42] kA kA kA kA rfl (fun _ _ h_ => TL.off rfl rfl rfl (TL.nil h_)) ?_
        refine Plan.v 31 [32, 33, 34, 35, 36, 37, 38, 39, 40, 41, 42] kA kA kA kA rfl (fun _ _ h_ => TL.off rfl rfl rfl (TL.nil h_)) ?_
        refine Plan.v 32 [33, 34, 35, 36, 37, 38, 39, 40, 41, 42] kA kA kA kA rfl (fun _ _ h_ => TL.off rfl rfl rfl (TL.nil h_)) ?_
        refine Plan.v 33 [34, 35, 36, 37, 38, 39, 40, 41, 42] kA kA kA kA rfl (fun _ _ h_ => TL.off rfl rfl rfl (TL.nil h_)) ?_
        refine Plan.v 34 [35, 36, 37, 38, 39, 40, 41, 42] kA kA kA kA rfl (fun _ _ h_ => TL.off rfl rfl rfl (TL.nil h_)) ?_
        refine Plan.v 35 [36, 37, 38, 39, 40, 41, 42] kA kA kA kA rfl (fun _ _ h_ => R.pkFE rfl rfl cA (TL.nil h_)) ?_
        refine Plan.v 36 [37, 38, 39, 40, 41, 42] kA kA kA kA rfl (fun _ _ h_ => R.mvE rfl cA (TL.nil h_)) ?_
        refine Plan.v 37 [38, 39, 40, 41, 42] kA kA kA kA rfl (fun _ _ h_ => TL.off rfl rfl rfl (TL.nil h_)) ?_
        refine Plan.v 38 [39, 40, 41, 42] kA kA kA kA rfl (fun _ _ h_ => TL.off rfl rfl rfl (TL.nil h_)) ?_
        refine Plan.v 39 [40, 41, 42] kA kA kA kA rfl (fun _ _ h_ => TL.off rfl rfl rfl (TL.nil h_)) ?_
        refine Plan.v 40 [41, 42] kA kA kA kA rfl (fun _ _ h_ => TL.off rfl rfl rfl (TL.nil h_)) ?_
        refine Plan.v 41 [42] kA kA kA kA rfl (fun _ _ h_ => R.pkFE rfl rfl cA (TL.nil h_)) ?_
        refine Plan.v 42 [] kA kA kA kA rfl (fun _ _ h_ => R.asE rfl cA (TL.nil h_)) ?_
        refine Plan.done (Post.thnN ?_)
        refine T.has Has.nil ?_
        refine T.ret ?_
        have hM : windroselaw14_wakes_m = false := by subst er34; subst er28; subst er24; subst er18; subst er12; rw [windroselaw14_wakes_m, LR.seq_go, LR.seq_go, LR.seq_go, LR.seq_go, LR.seq_go, if_pos g39, if_pos g43, if_pos g47, if_neg g51]
        exact fin1L (v := .bool false) [] rfl rfl (List.Sublist.refl _) ⟨rfl, by first | rw [hM] | rfl⟩
      refine Plan.v 11 [12, 13, 14, 15, 16, 17, 18, 19, 20, 21, 22, 23, 24, 25, 26, 27, 28, 29, 30, 31, 32, 33, 34, 35, 36, 37, 38, 39, 40, 41, 42] kA kA kA kA rfl (fun _ _ h_ => TL.off rfl rfl rfl (TL.nil h_)) ?_
      refine Plan.v 12 [13, 14, 15, 16, 17, 18, 19, 20, 21, 22, 23, 24, 25, 26, 27, 28, 29, 30, 31, 32, 33, 34, 35, 36, 37, 38, 39, 40, 41, 42] kA kA kA kA rfl (fun _ _ h_ => TL.off rfl rfl rfl (TL.nil h_)) ?_
      refine Plan.v 13 [14, 15, 16, 17, 18, 19, 20, 21, 22, 23, 24, 25, 26, 27, 28, 29, 30, 31, 32, 33, 34, 35, 36, 37, 38, 39, 40, 41, 42] kA kA kA kA rfl (fun _ _ h_ => R.pkFE rfl rfl cA (TL.nil h_)) ?_
      refine Plan.v 14 [15, 16, 17, 18, 19, 20, 21, 22, 23, 24, 25, 26, 27, 28, 29, 30, 31, 32, 33, 34, 35, 36, 37, 38, 39, 40, 41, 42] kA kA kA kA rfl (fun _ _ h_ => R.mvE rfl cA (TL.nil h_)) ?_
      refine Plan.v 15 [16, 17, 18, 19, 20, 21, 22, 23, 24, 25, 26, 27, 28, 29, 30, 31, 32, 33, 34, 35, 36, 37, 38, 39, 40, 41, 42] kA kA kA kA rfl (fun _ _ h_ => TL.off rfl rfl rfl (TL.nil h_)) ?_
      refine Plan.v 16 [17, 18, 19, 20, 21, 22, 23, 24, 25, 26, 27, 28, 29, 30, 31, 32, 33, 34, 35, 36, 37, 38, 39, 40, 41, 42] kA kA kA kA rfl (fun _ _ h_ => TL.off rfl rfl rfl (TL.nil h_)) ?_
      refine Plan.v 17 [18, 19, 20, 21, 22, 23, 24, 25, 26, 27, 28, 29, 30, 31, 32, 33, 34, 35, 36, 37, 38, 39, 40, 41, 42] kA kA kA kA rfl (fun _ _ h_ => TL.off rfl rfl rfl (TL.nil h_)) ?_
      refine Plan.v 18 [19, 20, 21, 22, 23, 24, 25, 26, 27, 28, 29, 30, 31, 32, 33, 34, 35, 36, 37, 38, 39, 40, 41, 42] kA kA kA kA rfl (fun _ _ h_ => TL.off rfl rfl rfl (TL.nil h_)) ?_
      refine Plan.v 19 [20, 21, 22, 23, 24, 25, 26, 27, 28, 29, 30, 31, 32, 33, 34, 35, 36, 37, 38, 39, 40, 41, 42] kA kA kA kA rfl (fun _ _ h_ => R.pkFE rfl rfl cA (TL.nil h_)) ?_
      refine Plan.v 20 [21, 22, 23, 24, 25, 26, 27, 28, 29, 30, 31, 32, 33, 34, 35, 36, 37, 38, 39, 40, 41, 42] kA kA kA kA rfl (fun _ _ h_ => R.mvE rfl cA (TL.nil h_)) ?_
      refine Plan.v 21 [22, 23, 24, 25, 26, 27, 28, 29, 30, 31, 32, 33, 34, 35, 36, 37, 38, 39, 40, 41, 42] kA kA kA kA rfl (fun _ _ h_ => TL.off rfl rfl rfl (TL.nil h_)) ?_
      refine Plan.v 22 [23, 24, 25, 26, 27, 28, 29, 30, 31, 32, 33, 34, 35, 36, 37, 38, 39, 40, 41, 42] kA kA kA kA rfl (fun _ _ h_ => TL.off rfl rfl rfl (TL.nil h_)) ?_
      refine Plan.v 23 [24, 25, 26, 27, 28, 29, 30, 31, 32, 33, 34, 35, 36, 37, 38, 39, 40, 41, 42] kA kA kA kA rfl (fun _ _ h_ => TL.off rfl rfl rfl (TL.nil h_)) ?_
      refine Plan.v 24 [25, 26, 27, 28, 29, 30, 31, 32, 33, 34, 35, 36, 37, 38, 39, 40, 41, 42] kA kA kA kA rfl (fun _ _ h_ => TL.off rfl rfl rfl (TL.nil h_)) ?_
      refine Plan.v 25 [26, 27, 28, 29, 30, 31, 32, 33, 34, 35, 36, 37, 38, 39, 40, 41, 42] kA kA kA kA rfl (fun _ _ h_ => TL.off rfl rfl rfl (TL.nil h_)) ?_
      refine Plan.v 26 [27, 28, 29, 30, 31, 32, 33, 34, 35, 36, 37, 38, 39, 40, 41, 42] kA kA kA kA rfl (fun _ _ h_ => TL.off rfl rfl rfl (TL.nil h_)) ?_
      refine Plan.v 27 [28, 29, 30, 31, 32, 33, 34, 35, 36, 37, 38, 39, 40, 41, 42] kA kA kA kA rfl (fun _ _ h_ => TL.off rfl rfl rfl (TL.nil h_)) ?_
      refine Plan.v 28 [29, 30, 31, 32, 33, 34, 35, 36, 37, 38, 39, 40, 41, 42] kA kA kA kA rfl (fun _ _ h_ => R.pkFE rfl rfl cA (TL.nil h_)) ?_
      refine Plan.v 29 [30, 31, 32, 33, 34, 35, 36, 37, 38, 39, 40, 41, 42] kA kA kA kA rfl (fun _ _ h_ => R.mvE rfl cA (TL.nil h_)) ?_
      refine Plan.v 30 [31, 32, 33, 34, 35, 36, 37, 38, 39, 40, 41, 42] kA kA kA kA rfl (fun _ _ h_ => TL.off rfl rfl rfl (TL.nil h_)) ?_
      refine Plan.v 31 [32, 33, 34, 35, 36, 37, 38, 39, 40, 41, 42] kA kA kA kA rfl (fun _ _ h_ => TL.off rfl rfl rfl (TL.nil h_)) ?_
      refine Plan.v 32 [33, 34, 35, 36, 37, 38, 39, 40, 41, 42] kA kA kA kA rfl (fun _ _ h_ => TL.off rfl rfl rfl (TL.nil h_)) ?_
      refine Plan.v 33 [34, 35, 36, 37, 38, 39, 40, 41, 42] kA kA kA kA rfl (fun _ _ h_ => TL.off rfl rfl rfl (TL.nil h_)) ?_
      refine Plan.v 34 [35, 36, 37, 38, 39, 40, 41, 42] kA kA kA kA rfl (fun _ _ h_ => TL.off rfl rfl rfl (TL.nil h_)) ?_
      refine Plan.v 35 [36, 37, 38, 39, 40, 41, 42] kA kA kA kA rfl (fun _ _ h_ => R.pkFE rfl rfl cA (TL.nil h_)) ?_
      refine Plan.v 36 [37, 38, 39, 40, 41, 42] kA kA kA kA rfl (fun _ _ h_ => R.mvE rfl cA (TL.nil h_)) ?_
      refine Plan.v 37 [38, 39, 40, 41, 42] kA kA kA kA rfl (fun _ _ h_ => TL.off rfl rfl rfl (TL.nil h_)) ?_
      refine Plan.v 38 [39, 40, 41, 42] kA kA kA kA rfl (fun _ _ h_ => TL.off rfl rfl rfl (TL.nil h_)) ?_
      refine Plan.v 39 [40, 41, 42] kA kA kA kA rfl (fun _ _ h_ => TL.off rfl rfl rfl (TL.nil h_)) ?_
      refine Plan.v 40 [41, 42] kA kA kA kA rfl (fun _ _ h_ => TL.off rfl rfl rfl (TL.nil h_)) ?_
      refine Plan.v 41 [42] kA kA kA kA rfl (fun _ _ h_ => R.pkFE rfl rfl cA (TL.nil h_)) ?_
      refine Plan.v 42 [] kA kA kA kA rfl (fun _ _ h_ => R.asE rfl cA (TL.nil h_)) ?_
      refine Plan.done (Post.thnN ?_)
      refine T.has Has.nil ?_
      refine T.ret ?_
      have hM : windroselaw14_wakes_m = false := by subst er34; subst er28; subst er24; subst er18; subst er12; rw [windroselaw14_wakes_m, LR.seq_go, LR.seq_go, LR.seq_go, LR.seq_go, LR.seq_go, if_pos g39, if_pos g43, if_neg g47]
      exact fin1L (v := .bool false) [] rfl rfl (List.Sublist.refl _) ⟨rfl, by first | rw [hM] | rfl⟩
    refine Plan.v 7 [8, 9, 10, 11, 12, 13, 14, 15, 16, 17, 18, 19, 20, 21, 22, 23, 24, 25, 26, 27, 28, 29, 30, 31, 32, 33, 34, 35, 36, 37, 38, 39, 40, 41, 42] kA kA kA kA rfl (fun _ _ h_ => TL.off rfl rfl rfl (TL.nil h_)) ?_
    refine Plan.v 8 [9, 10, 11, 12, 13, 14, 15, 16, 17, 18, 19, 20, 21, 22, 23, 24, 25, 26, 27, 28, 29, 30, 31, 32, 33, 34, 35, 36, 37, 38, 39, 40, 41, 42] kA kA kA kA rfl (fun _ _ h_ => TL.off rfl rfl rfl (TL.nil h_)) ?_
    refine Plan.v 9 [10, 11, 12, 13, 14, 15, 16, 17, 18, 19, 20, 21, 22, 23, 24, 25, 26, 27, 28, 29, 30, 31, 32, 33, 34, 35, 36, 37, 38, 39, 40, 41, 42] kA kA kA kA rfl (fun _ _ h_ => R.pkFE rfl rfl cA (TL.nil h_)) ?_
    refine Plan.v 10 [11, 12, 13, 14, 15, 16, 17, 18, 19, 20, 21, 22, 23, 24, 25, 26, 27, 28, 29, 30, 31, 32, 33, 34, 35, 36, 37, 38, 39, 40, 41, 42] kA kA kA kA rfl (fun _ _ h_ => R.mvE rfl cA (TL.nil h_)) ?_
    refine Plan.v 11 [12, 13, 14, 15, 16, 17, 18, 19, 20, 21, 22, 23, 24, 25, 26, 27, 28, 29, 30, 31, 32, 33, 34, 35, 36, 37, 38, 39, 40, 41, 42] kA kA kA kA rfl (fun _ _ h_ => TL.off rfl rfl rfl (TL.nil h_)) ?_
    refine Plan.v 12 [13, 14, 15, 16, 17, 18, 19, 20, 21, 22, 23, 24, 25, 26, 27, 28, 29, 30, 31, 32, 33, 34, 35, 36, 37, 38, 39, 40, 41, 42] kA kA kA kA rfl (fun _ _ h_ => TL.off rfl rfl rfl (TL.nil h_)) ?_
    refine Plan.v 13 [14, 15, 16, 17, 18, 19, 20, 21, 22, 23, 24, 25, 26, 27, 28, 29, 30, 31, 32, 33, 34, 35, 36, 37, 38, 39, 40, 41, 42] kA kA kA kA rfl (fun _ _ h_ => R.pkFE rfl rfl cA (TL.nil h_)) ?_
    refine Plan.v 14 [15, 16, 17, 18, 19, 20, 21, 22, 23, 24, 25, 26, 27, 28, 29, 30, 31, 32, 33, 34, 35, 36, 37, 38, 39, 40, 41, 42] kA kA kA kA rfl (fun _ _ h_ => R.mvE rfl cA (TL.nil h_)) ?_
    refine Plan.v 15 [16, 17, 18, 19, 20, 21, 22, 23, 24, 25, 26, 27, 28, 29, 30, 31, 32, 33, 34, 35, 36, 37, 38, 39, 40, 41, 42] kA kA kA kA rfl (fun _ _ h_ => TL.off rfl rfl rfl (TL.nil h_)) ?_
    refine Plan.v 16 [17, 18, 19, 20, 21, 22, 23, 24, 25, 26, 27, 28, 29, 30, 31, 32, 33, 34, 35, 36, 37, 38, 39, 40, 41, 42] kA kA kA kA rfl (fun _ _ h_ => TL.off rfl rfl rfl (TL.nil h_)) ?_
    refine Plan.v 17 [18, 19, 20, 21, 22, 23, 24, 25, 26, 27, 28, 29, 30, 31, 32, 33, 34, 35, 36, 37, 38, 39, 40, 41, 42] kA kA kA kA rfl (fun _ _ h_ => TL.off rfl rfl rfl (TL.nil h_)) ?_
    refine Plan.v 18 [19, 20, 21, 22, 23, 24, 25, 26, 27, 28, 29, 30, 31, 32, 33, 34, 35, 36, 37, 38, 39, 40, 41, 42] kA kA kA kA rfl (fun _ _ h_ => TL.off rfl rfl rfl (TL.nil h_)) ?_
    refine Plan.v 19 [20, 21, 22, 23, 24, 25, 26, 27, 28, 29, 30, 31, 32, 33, 34, 35, 36, 37, 38, 39, 40, 41, 42] kA kA kA kA rfl (fun _ _ h_ => R.pkFE rfl rfl cA (TL.nil h_)) ?_
    refine Plan.v 20 [21, 22, 23, 24, 25, 26, 27, 28, 29, 30, 31, 32, 33, 34, 35, 36, 37, 38, 39, 40, 41, 42] kA kA kA kA rfl (fun _ _ h_ => R.mvE rfl cA (TL.nil h_)) ?_
    refine Plan.v 21 [22, 23, 24, 25, 26, 27, 28, 29, 30, 31, 32, 33, 34, 35, 36, 37, 38, 39, 40, 41, 42] kA kA kA kA rfl (fun _ _ h_ => TL.off rfl rfl rfl (TL.nil h_)) ?_
    refine Plan.v 22 [23, 24, 25, 26, 27, 28, 29, 30, 31, 32, 33, 34, 35, 36, 37, 38, 39, 40, 41, 42] kA kA kA kA rfl (fun _ _ h_ => TL.off rfl rfl rfl (TL.nil h_)) ?_
    refine Plan.v 23 [24, 25, 26, 27, 28, 29, 30, 31, 32, 33, 34, 35, 36, 37, 38, 39, 40, 41, 42] kA kA kA kA rfl (fun _ _ h_ => TL.off rfl rfl rfl (TL.nil h_)) ?_
    refine Plan.v 24 [25, 26, 27, 28, 29, 30, 31, 32, 33, 34, 35, 36, 37, 38, 39, 40, 41, 42] kA kA kA kA rfl (fun _ _ h_ => TL.off rfl rfl rfl (TL.nil h_)) ?_
    refine Plan.v 25 [26, 27, 28, 29, 30, 31, 32, 33, 34, 35, 36, 37, 38, 39, 40, 41, 42] kA kA kA kA rfl (fun _ _ h_ => TL.off rfl rfl rfl (TL.nil h_)) ?_
    refine Plan.v 26 [27, 28, 29, 30, 31, 32, 33, 34, 35, 36, 37, 38, 39, 40, 41, 42] kA kA kA kA rfl (fun _ _ h_ => TL.off rfl rfl rfl (TL.nil h_)) ?_
    refine Plan.v 27 [28, 29, 30, 31, 32, 33, 34, 35, 36, 37, 38, 39, 40, 41, 42] kA kA kA kA rfl (fun _ _ h_ => TL.off rfl rfl rfl (TL.nil h_)) ?_
    refine Plan.v 28 [29, 30, 31, 32, 33, 34, 35, 36, 37, 38, 39, 40, 41, 42] kA kA kA kA rfl (fun _ _ h_ => R.pkFE rfl rfl cA (TL.nil h_)) ?_
    refine Plan.v 29 [30, 31, 32, 33, 34, 35, 36, 37, 38, 39, 40, 41, 42] kA kA kA kA rfl (fun _ _ h_ => R.mvE rfl cA (TL.nil h_)) ?_
    refine Plan.v 30 [31, 32, 33, 34, 35, 36, 37, 38, 39, 40, 41, 42] kA kA kA kA rfl (fun _ _ h_ => TL.off rfl rfl rfl (TL.nil h_)) ?_
    refine Plan.v 31 [32, 33, 34, 35, 36, 37, 38, 39, 40, 41, 42] kA kA kA kA rfl (fun _ _ h_ => TL.off rfl rfl rfl (TL.nil h_)) ?_
    refine Plan.v 32 [33, 34, 35, 36, 37, 38, 39, 40, 41, 42] kA kA kA kA rfl (fun _ _ h_ => TL.off rfl rfl rfl (TL.nil h_)) ?_
    refine Plan.v 33 [34, 35, 36, 37, 38, 39, 40, 41, 42] kA kA kA kA rfl (fun _ _ h_ => TL.off rfl rfl rfl (TL.nil h_)) ?_
    refine Plan.v 34 [35, 36, 37, 38, 39, 40, 41, 42] kA kA kA kA rfl (fun _ _ h_ => TL.off rfl rfl rfl (TL.nil h_)) ?_
    refine Plan.v 35 [36, 37, 38, 39, 40, 41, 42] kA kA kA kA rfl (fun _ _ h_ => R.pkFE rfl rfl cA (TL.nil h_)) ?_
    refine Plan.v 36 [37, 38, 39, 40, 41, 42] kA kA kA kA rfl (fun _ _ h_ => R.mvE rfl cA (TL.nil h_)) ?_
    refine Plan.v 37 [38, 39, 40, 41, 42] kA kA kA kA rfl (fun _ _ h_ => TL.off rfl rfl rfl (TL.nil h_)) ?_
    refine Plan.v 38 [39, 40, 41, 42] kA kA kA kA rfl (fun _ _ h_ => TL.off rfl rfl rfl (TL.nil h_)) ?_
    refine Plan.v 39 [40, 41, 42] kA kA kA kA rfl (fun _ _ h_ => TL.off rfl rfl rfl (TL.nil h_)) ?_
    refine Plan.v 40 [41, 42] kA kA kA kA rfl (fun _ _ h_ => TL.off rfl rfl rfl (TL.nil h_)) ?_
    refine Plan.v 41 [42] kA kA kA kA rfl (fun _ _ h_ => R.pkFE rfl rfl cA (TL.nil h_)) ?_
    refine Plan.v 42 [] kA kA kA kA rfl (fun _ _ h_ => R.asE rfl cA (TL.nil h_)) ?_
    refine Plan.done (Post.thnN ?_)
    refine T.has Has.nil ?_
    refine T.ret ?_
    have hM : windroselaw14_wakes_m = false := by subst er34; subst er28; subst er24; subst er18; subst er12; rw [windroselaw14_wakes_m, LR.seq_go, LR.seq_go, LR.seq_go, LR.seq_go, LR.seq_go, if_pos g39, if_neg g43]
    exact fin1L (v := .bool false) [] rfl rfl (List.Sublist.refl _) ⟨rfl, by first | rw [hM] | rfl⟩
  refine Plan.v 3 [4, 5, 6, 7, 8, 9, 10, 11, 12, 13, 14, 15, 16, 17, 18, 19, 20, 21, 22, 23, 24, 25, 26, 27, 28, 29, 30, 31, 32, 33, 34, 35, 36, 37, 38, 39, 40, 41, 42] kA kA kA kA rfl (fun _ _ h_ => TL.off rfl rfl rfl (TL.nil h_)) ?_
  refine Plan.v 4 [5, 6, 7, 8, 9, 10, 11, 12, 13, 14, 15, 16, 17, 18, 19, 20, 21, 22, 23, 24, 25, 26, 27, 28, 29, 30, 31, 32, 33, 34, 35, 36, 37, 38, 39, 40, 41, 42] kA kA kA kA rfl (fun _ _ h_ => TL.off rfl rfl rfl (TL.nil h_)) ?_
  refine Plan.v 5 [6, 7, 8, 9, 10, 11, 12, 13, 14, 15, 16, 17, 18, 19, 20, 21, 22, 23, 24, 25, 26, 27, 28, 29, 30, 31, 32, 33, 34, 35, 36, 37, 38, 39, 40, 41, 42] kA kA kA kA rfl (fun _ _ h_ => R.pkFE rfl rfl cA (TL.nil h_)) ?_
  refine Plan.v 6 [7, 8, 9, 10, 11, 12, 13, 14, 15, 16, 17, 18, 19, 20, 21, 22, 23, 24, 25, 26, 27, 28, 29, 30, 31, 32, 33, 34, 35, 36, 37, 38, 39, 40, 41, 42] kA kA kA kA rfl (fun _ _ h_ => R.mvE rfl cA (TL.nil h_)) ?_
  refine Plan.v 7 [8, 9, 10, 11, 12, 13, 14, 15, 16, 17, 18, 19, 20, 21, 22, 23, 24, 25, 26, 27, 28, 29, 30, 31, 32, 33, 34, 35, 36, 37, 38, 39, 40, 41, 42] kA kA kA kA rfl (fun _ _ h_ => TL.off rfl rfl rfl (TL.nil h_)) ?_
  refine Plan.v 8 [9, 10, 11, 12, 13, 14, 15, 16, 17, 18, 19, 20, 21, 22, 23, 24, 25, 26, 27, 28, 29, 30, 31, 32, 33, 34, 35, 36, 37, 38, 39, 40, 41, 42] kA kA kA kA rfl (fun _ _ h_ => TL.off rfl rfl rfl (TL.nil h_)) ?_
  refine Plan.v 9 [10, 11, 12, 13, 14, 15, 16, 17, 18, 19, 20, 21, 22, 23, 24, 25, 26, 27, 28, 29, 30, 31, 32, 33, 34, 35, 36, 37, 38, 39, 40, 41, 42] kA kA kA kA rfl (fun _ _ h_ => R.pkFE rfl rfl cA (TL.nil h_)) ?_
  refine Plan.v 10 [11, 12, 13, 14, 15, 16, 17, 18, 19, 20, 21, 22, 23, 24, 25, 26, 27, 28, 29, 30, 31, 32, 33, 34, 35, 36, 37, 38, 39, 40, 41, 42] kA kA kA kA rfl (fun _ _ h_ => R.mvE rfl cA (TL.nil h_)) ?_
  refine Plan.v 11 [12, 13, 14, 15, 16, 17, 18, 19, 20, 21, 22, 23, 24, 25, 26, 27, 28, 29, 30, 31, 32, 33, 34, 35, 36, 37, 38, 39, 40, 41, 42] kA kA kA kA rfl (fun _ _ h_ => TL.off rfl rfl rfl (TL.nil h_)) ?_
  refine Plan.v 12 [13, 14, 15, 16, 17, 18, 19, 20, 21, 22, 23, 24, 25, 26, 27, 28, 29, 30, 31, 32, 33, 34, 35, 36, 37, 38, 39, 40, 41, 42] kA kA kA kA rfl (fun _ _ h_ => TL.off rfl rfl rfl (TL.nil h_)) ?_
  refine Plan.v 13 [14, 15, 16, 17, 18, 19, 20, 21, 22, 23, 24, 25, 26, 27, 28, 29, 30, 31, 32, 33, 34, 35, 36, 37, 38, 39, 40, 41, 42] kA kA kA kA rfl (fun _ _ h_ => R.pkFE rfl rfl cA (TL.nil h_)) ?_
  refine Plan.v 14 [15, 16, 17, 18, 19, 20, 21, 22, 23, 24, 25, 26, 27, 28, 29, 30, 31, 32, 33, 34, 35, 36, 37, 38, 39, 40, 41, 42] kA kA kA kA rfl (fun _ _ h_ => R.mvE rfl cA (TL.nil h_)) ?_
  refine Plan.v 15 [16, 17, 18, 19, 20, 21, 22, 23, 24, 25, 26, 27, 28, 29, 30, 31, 32, 33, 34, 35, 36, 37, 38, 39, 40, 41, 42] kA kA kA kA rfl (fun _ _ h_ => TL.off rfl rfl rfl (TL.nil h_)) ?_
  refine Plan.v 16 [17, 18, 19, 20, 21, 22, 23, 24, 25, 26, 27, 28, 29, 30, 31, 32, 33, 34, 35, 36, 37, 38, 39, 40, 41, 42] kA kA kA kA rfl (fun _ _ h_ => TL.off rfl rfl rfl (TL.nil h_)) ?_
  refine Plan.v 17 [18, 19, 20, 21, 22, 23, 24, 25, 26, 27, 28, 29, 30, 31, 32, 33, 34, 35, 36, 37, 38, 39, 40, 41, 42] kA kA kA kA rfl (fun _ _ h_ => TL.off rfl rfl rfl (TL.nil h_)) ?_
  refine Plan.v 18 [19, 20, 21, 22, 23, 24, 25, 26, 27, 28, 29, 30, 31, 32, 33, 34, 35, 36, 37, 38, 39, 40, 41, 42] kA kA kA kA rfl (fun _ _ h_ => TL.off rfl rfl rfl (TL.nil h_)) ?_
  refine Plan.v 19 [20, 21, 22, 23, 24, 25, 26, 27, 28, 29, 30, 31, 32, 33, 34, 35, 36, 37, 38, 39, 40, 41, 42] kA kA kA kA rfl (fun _ _ h_ => R.pkFE rfl rfl cA (TL.nil h_)) ?_
  refine Plan.v 20 [21, 22, 23, 24, 25, 26, 27, 28, 29, 30, 31, 32, 33, 34, 35, 36, 37, 38, 39, 40, 41, 42] kA kA kA kA rfl (fun _ _ h_ => R.mvE rfl cA (TL.nil h_)) ?_
  refine Plan.v 21 [22, 23, 24, 25, 26, 27, 28, 29, 30, 31, 32, 33, 34, 35, 36, 37, 38, 39, 40, 41, 42] kA kA kA kA rfl (fun _ _ h_ => TL.off rfl rfl rfl (TL.nil h_)) ?_
  refine Plan.v 22 [23, 24, 25, 26, 27, 28, 29, 30, 31, 32, 33, 34, 35, 36, 37, 38, 39, 40, 41, 42] kA kA kA kA rfl (fun _ _ h_ => TL.off rfl rfl rfl (TL.nil h_)) ?_
  refine Plan.v 23 [24, 25, 26, 27, 28, 29, 30, 31, 32, 33, 34, 35, 36, 37, 38, 39, 40, 41, 42] kA kA kA kA rfl (fun _ _ h_ => TL.off rfl rfl rfl (TL.nil h_)) ?_
  refine Plan.v 24 [25, 26, 27, 28, 29, 30, 31, 32, 33, 34, 35, 36, 37, 38, 39, 40, 41, 42] kA kA kA kA rfl (fun _ _ h_ => TL.off rfl rfl rfl (TL.nil h_)) ?_
  refine Plan.v 25 [26, 27, 28, 29, 30, 31, 32, 33, 34, 35, 36, 37, 38, 39, 40, 41, 42] kA kA kA kA rfl (fun _ _ h_ => TL.off rfl rfl rfl (TL.nil h_)) ?_
  refine Plan.v 26 [27, 28, 29, 30, 31, 32, 33, 34, 35, 36, 37, 38, 39, 40, 41, 42] kA kA kA kA rfl (fun _ _ h_ => TL.off rfl rfl rfl (TL.nil h_)) ?_
  refine Plan.v 27 [28, 29, 30, 31, 32, 33, 34, 35, 36, 37, 38, 39, 40, 41, 42] kA kA kA kA rfl (fun _ _ h_ => TL.off rfl rfl rfl (TL.nil h_)) ?_
  refine Plan.v 28 [29, 30, 31, 32, 33, 34, 35, 36, 37, 38, 39, 40, 41, 42] kA kA kA kA rfl (fun _ _ h_ => R.pkFE rfl rfl cA (TL.nil h_)) ?_
  refine Plan.v 29 [30, 31, 32, 33, 34, 35, 36, 37, 38, 39, 40, 41, 42] kA kA kA kA rfl (fun _ _ h_ => R.mvE rfl cA (TL.nil h_)) ?_
  refine Plan.v 30 [31, 32, 33, 34, 35, 36, 37, 38, 39, 40, 41, 42] kA kA kA kA rfl (fun _ _ h_ => TL.off rfl rfl rfl (TL.nil h_)) ?_
  refine Plan.v 31 [32, 33, 34, 35, 36, 37, 38, 39, 40, 41, 42] kA kA kA kA rfl (fun _ _ h_ => TL.off rfl rfl rfl (TL.nil h_)) ?_
  refine Plan.v 32 [33, 34, 35, 36, 37, 38, 39, 40, 41, 42] kA kA kA kA rfl (fun _ _ h_ => TL.off rfl rfl rfl (TL.nil h_)) ?_
  refine Plan.v 33 [34, 35, 36, 37, 38, 39, 40, 41, 42] kA kA kA kA rfl (fun _ _ h_ => TL.off rfl rfl rfl (TL.nil h_)) ?_
  refine Plan.v 34 [35, 36, 37, 38, 39, 40, 41, 42] kA kA kA kA rfl (fun _ _ h_ => TL.off rfl rfl rfl (TL.nil h_)) ?_
  refine Plan.v 35 [36, 37, 38, 39, 40, 41, 42] kA kA kA kA rfl (fun _ _ h_ => R.pkFE rfl rfl cA (TL.nil h_)) ?_
  refine Plan.v 36 [37, 38, 39, 40, 41, 42] kA kA kA kA rfl (fun _ _ h_ => R.mvE rfl cA (TL.nil h_)) ?_
  refine Plan.v 37 [38, 39, 40, 41, 42] kA kA kA kA rfl (fun _ _ h_ => TL.off rfl rfl rfl (TL.nil h_)) ?_
  refine Plan.v 38 [39, 40, 41, 42] kA kA kA kA rfl (fun _ _ h_ => TL.off rfl rfl rfl (TL.nil h_)) ?_
  refine Plan.v 39 [40, 41, 42] kA kA kA kA rfl (fun _ _ h_ => TL.off rfl rfl rfl (TL.nil h_)) ?_
  refine Plan.v 40 [41, 42] kA kA kA kA rfl (fun _ _ h_ => TL.off rfl rfl rfl (TL.nil h_)) ?_
  refine Plan.v 41 [42] kA kA kA kA rfl (fun _ _ h_ => R.pkFE rfl rfl cA (TL.nil h_)) ?_
  refine Plan.v 42 [] kA kA kA kA rfl (fun _ _ h_ => R.asE rfl cA (TL.nil h_)) ?_
  refine Plan.done (Post.thnN ?_)
  refine T.has Has.nil ?_
  refine T.ret ?_
  have hM : windroselaw14_wakes_m = false := by subst er34; subst er28; subst er24; subst er18; subst er12; rw [windroselaw14_wakes_m, LR.seq_go, LR.seq_go, LR.seq_go, LR.seq_go, LR.seq_go, if_neg g39]
  exact fin1L (v := .bool false) [] rfl rfl (List.Sublist.refl _) ⟨rfl, by first | rw [hM] | rfl⟩
end Go.SX

set_option linter.unusedVariables false
set_option linter.unusedSimpArgs false
namespace Go.SX
open Go
theorem w14_true : windroselaw14_wakes_m = true := by kernel_rfl
/-- the ids, in their order -/
def idAt (x : Ix) (k : Nat) : Int := (x.map Prod.fst).getD k 0
/-- the tables of an id -/
def findA : Ix → Int → List Int
  | [], _ => []
  | r :: x, t => if r.1 = t then r.2 else findA x t
theorem own14_l1 : ∀ (l s : Ix), windroselaw14_own_l1 l s = s ++ l.map (fun r => (r.1, r.2.take (min r.2.length 12)))
  | [], s => by simp [windroselaw14_own_l1]
  | y :: ys, s => by rw [windroselaw14_own_l1, own14_l1 ys]; simp
theorem own14_eq (x : Ix) : windroselaw14_own_m x = (x.take (min x.length 60)).map (fun r => (r.1, r.2.take (min r.2.length 12))) := by
  unfold windroselaw14_own_m
  rw [LR.seq_go, own14_l1, List.nil_append]
theorem own14_U {x : Ix} (h : ∀ r ∈ x, U r.1) : ∀ r ∈ windroselaw14_own_m x, U r.1 := by
  rw [own14_eq]
  intro r hr
  obtain ⟨q, hq, rfl⟩ := List.mem_map.1 hr
  exact h q (List.mem_of_mem_take hq)
theorem inA_mem {x : Ix} {n y : Int} : y ∈ inA x n ↔ ∃ r ∈ x, n ∈ r.2 ∧ r.1 = y := by
  unfold inA
  rw [List.mem_map]
  constructor
  · rintro ⟨r, hr, e⟩
    obtain ⟨h1, h2⟩ := List.mem_filter.1 hr
    exact ⟨r, h1, of_decide_eq_true h2, e⟩
  · rintro ⟨r, h1, h2, e⟩
    exact ⟨r, List.mem_filter.2 ⟨h1, decide_eq_true h2⟩, e⟩
theorem bareA_mem {l : List Int} {y : Int} : y ∈ bareA l ↔ y ∈ l ∧ kindG y ≠ 4 := by
  unfold bareA
  rw [List.mem_filter, Bool.not_eq_true', decide_eq_false_iff_not]
end Go.SX
